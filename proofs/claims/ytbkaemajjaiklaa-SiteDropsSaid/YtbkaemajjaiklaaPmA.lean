/- A memory of words: what it is; its plain questions. -/
import Derived.Test.YtbkaemajjaiklaaRow
import Derived.Carry
import Derived.MapKept
namespace Go.Proofs.Ytbkaemajjaiklaa
open Go.RowKit
set_option linter.unusedVariables false
set_option linter.unusedSimpArgs false

/-- where a memory lies -/
structure MB where
  vb : Nat
  vc : Nat
  ib : Nat
  ic : Nat
  lb : Nat
/-- how many loads, stores, flushes, fences -/
structure St4 where
  a : Int
  b : Int
  c : Int
  d : Int
def memC (B : MB) (n : Nat) (s : St4) : Array Value := #[.slice (some ⟨B.vb, 0, none⟩) n B.vc, .slice (some ⟨B.ib, 0, none⟩) n B.ic, .map (some B.lb), .int .u64 s.a, .int .u64 s.b, .int .u64 s.c, .int .u64 s.d]
abbrev ptrV (m : Nat) : Value := .pointer (some ⟨m, 0, none⟩)

set_option maxRecDepth 100000 in
theorem there_z (m : Nat) (B : MB) (n : Nat) (s : St4) (hn : 0 < n) (w : World) (h : Blk w m 133 (memC B n s)) :
    Calls Try.prog 78 #[ptrV m] w fun e w' => e = .returned (.bool true) ∧ w = w' := by
  have x0 : w.cell? ⟨m, 0, none⟩ = some (.slice (some ⟨B.vb, 0, none⟩) n B.vc) := h.cell 0
  have i0 : (n : Int) > 0 := by omega
  clear h
  go_enter Try.func78, Try.ntmps78
  go_wp2
  go_ret
  exact ⟨rfl, rfl⟩

set_option maxRecDepth 100000 in
theorem Size_m (m : Nat) (B : MB) (n : Nat) (s : St4) (hn : 0 < n) (hb : n ≤ 131072) (w : World) (h : Blk w m 133 (memC B n s)) :
    Calls Try.prog 42 #[ptrV m] w fun e w' => e = .returned (.int .i64 (8 * n : Nat)) ∧ w = w' := by
  have x0 : w.cell? ⟨m, 0, none⟩ = some (.slice (some ⟨B.vb, 0, none⟩) n B.vc) := h.cell 0
  have H := hid h
  clear h
  go_enter Try.func42, Try.ntmps42
  go_wp2_with fail
  refine (there_z m B n s hn _ H.out).mono ?_
  rintro e w1 ⟨rfl, rfl⟩
  go_wp2
  go_ret
  exact ⟨by congr 2, rfl⟩

set_option maxRecDepth 100000 in
theorem Stats_m (m : Nat) (B : MB) (n : Nat) (s : St4) (hn : 0 < n) (w : World) (h : Blk w m 133 (memC B n s)) :
    Calls Try.prog 94 #[ptrV m] w fun e w' => e = .returned (.agg #[.int .u64 s.a, .int .u64 s.b, .int .u64 s.c, .int .u64 s.d]) ∧ Below w.heap.size w w' := by
  have H := hid (h.alloc (.cells #[.int .u64 0, .int .u64 0, .int .u64 0, .int .u64 0] 131))
  have x3 : (w.alloc (.cells #[.int .u64 0, .int .u64 0, .int .u64 0, .int .u64 0] 131)).cell? ⟨m, 3, none⟩ = some (.int .u64 s.a) := H.out.cell 3
  have x4 : (w.alloc (.cells #[.int .u64 0, .int .u64 0, .int .u64 0, .int .u64 0] 131)).cell? ⟨m, 4, none⟩ = some (.int .u64 s.b) := H.out.cell 4
  have x5 : (w.alloc (.cells #[.int .u64 0, .int .u64 0, .int .u64 0, .int .u64 0] 131)).cell? ⟨m, 5, none⟩ = some (.int .u64 s.c) := H.out.cell 5
  have x6 : (w.alloc (.cells #[.int .u64 0, .int .u64 0, .int .u64 0, .int .u64 0] 131)).cell? ⟨m, 6, none⟩ = some (.int .u64 s.d) := H.out.cell 6
  clear h
  go_enter Try.func94, Try.ntmps94
  go_wp2_with fail
  refine (there_z m B n s hn _ H.out).mono ?_
  rintro e w1 ⟨rfl, rfl⟩
  go_wp2
  refine bodyPost_ret (v := .agg #[.int .u64 s.a, .int .u64 s.b, .int .u64 s.c, .int .u64 s.d]) ?_ rfl ?_
  · simp [results, Try.results94, go_sem]
  · exact ⟨rfl, ba (Below.refl _ _) _⟩

def atE (n : Nat) (a : Int) : Int := if a % 8 = 0 ∧ a / 8 < n then 0 else 3

set_option maxRecDepth 100000 in
theorem at_z (m : Nat) (B : MB) (n : Nat) (s : St4) (hn : 0 < n) (hb : n ≤ 131072) (a : Int) (ha : 0 ≤ a) (ha2 : a < 18446744073709551616) (w : World) (h : Blk w m 133 (memC B n s)) :
    Calls Try.prog 95 #[ptrV m, .int .u64 a] w fun e w' => e = .returned (.int .i64 (atE n a)) ∧ w = w' := by
  have x0 : w.cell? ⟨m, 0, none⟩ = some (.slice (some ⟨B.vb, 0, none⟩) n B.vc) := h.cell 0
  have H := hid h
  clear h
  by_cases h1 : a % 8 = 0
  · by_cases h2 : a / 8 < n
    · have hz := hid (show atE n a = 0 from if_pos ⟨h1, h2⟩)
      have h3 : ¬ (a / 8 ≥ (n : Int)) := by omega
      go_enter Try.func95, Try.ntmps95
      go_wp2_with fail
      refine (there_z m B n s hn _ H.out).mono ?_
      rintro e w1 ⟨rfl, rfl⟩
      go_wp2
      go_ret
      exact ⟨by rw [hz.out]; rfl, rfl⟩
    · have hz := hid (show atE n a = 3 from if_neg fun h => h2 h.2)
      have h3 : a / 8 ≥ (n : Int) := by omega
      go_enter Try.func95, Try.ntmps95
      go_wp2_with fail
      refine (there_z m B n s hn _ H.out).mono ?_
      rintro e w1 ⟨rfl, rfl⟩
      go_wp2
      go_ret
      exact ⟨by rw [hz.out]; rfl, rfl⟩
  · have hz := hid (show atE n a = 3 from if_neg fun h => h1 h.1)
    go_enter Try.func95, Try.ntmps95
    go_wp2_with fail
    refine (there_z m B n s hn _ H.out).mono ?_
    rintro e w1 ⟨rfl, rfl⟩
    go_wp2
    go_ret
    exact ⟨by rw [hz.out]; rfl, rfl⟩

theorem begin_z (a : Int) (ha : 0 ≤ a) (ha2 : a < 18446744073709551616) (w : World) : Calls Try.prog 96 #[.int .u64 a] w fun e w' => e = .returned (.int .u64 (a - a % 64)) ∧ w = w' := by
  go_enter Try.func96, Try.ntmps96
  go_wp2
  go_ret
  exact ⟨by congr 2, rfl⟩

def clientE (c : Int) : Int := if 0 ≤ c ∧ c ≤ 64 then 0 else 2
theorem client_z (c : Int) (w : World) : Calls Try.prog 97 #[.int .i64 c] w fun e w' => e = .returned (.int .i64 (clientE c)) ∧ w = w' := by
  by_cases h1 : c < 0
  · have hz := hid (show clientE c = 2 from if_neg (by omega))
    go_enter Try.func97, Try.ntmps97
    go_wp2
    go_ret
    exact ⟨by rw [hz.out]; rfl, rfl⟩
  · by_cases h2 : c > 64
    · have hz := hid (show clientE c = 2 from if_neg (by omega))
      go_enter Try.func97, Try.ntmps97
      go_wp2
      go_ret
      exact ⟨by rw [hz.out]; rfl, rfl⟩
    · have hz := hid (show clientE c = 0 from if_pos (by omega))
      go_enter Try.func97, Try.ntmps97
      go_wp2
      go_ret
      exact ⟨by rw [hz.out]; rfl, rfl⟩

end Go.Proofs.Ytbkaemajjaiklaa
