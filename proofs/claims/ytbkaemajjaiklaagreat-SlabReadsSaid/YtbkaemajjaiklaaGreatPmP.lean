/- A memory of words: made of bytes, of noughts, or not at all. -/
import Derived.Deep.OwnRows
import Derived.Test.YtbkaemajjaiklaaGreatPmO
namespace Go.Proofs.YtbkaemajjaiklaaGreat
open Go.RowKit Go.Shelf
set_option linter.unusedVariables false
set_option linter.unusedSimpArgs false

theorem Of_z (p : Option Addr) (cap : Nat) (bs : List Int) (hm : mayB bs.length = true) (hcap : cap ≤ 9223372036854775807) (w : World) (h : BytesIn w p cap bs) :
    Calls Tryz.prog 62 #[.slice p bs.length cap] w fun e W' => ∃ (m : Nat) (B : MB), e = .returned (.tuple #[ptrV m, .int .i64 0]) ∧ MemIs W' m B (freshM (wordsOf bs)) ∧ Below w.heap.size w W' ∧ ∀ k ∈ footM m B (freshM (wordsOf bs)), w.heap.size ≤ k :=
  callsIn_wide.1 (Of_in p cap bs hm hcap w h)

set_option maxRecDepth 100000 in
set_option maxHeartbeats 400000 in
theorem Of_no (p : Option Addr) (n cap : Nat) (hm : mayB n = false) (hn : (n : Int) < 9223372036854775808) (w : World) :
    Calls Tryz.prog 62 #[.slice p n cap] w fun e W' => e = .returned (.tuple #[.pointer none, .int .i64 2]) ∧ w = W' := by
  have HM := hid hm
  clear hm
  go_enter Tryz.func62, Tryz.ntmps62
  go_wp2_with fail
  refine (may_z n _ hn).mono ?_
  rintro e w1 ⟨rfl, rfl⟩
  rw [HM.out]
  go_wp2
  go_ret2
  exact ⟨rfl, rfl⟩

theorem zeros_in (w : World) (n : Nat) (t : TypeId) (hn : 0 < n) : BytesIn (w.alloc (.cells (Array.replicate n (.int .u8 0)) t)) (some ⟨w.heap.size, 0, none⟩) n (List.replicate n 0) := by
  refine ⟨by simp, fun x hx => by have := List.eq_of_mem_replicate hx; omega, fun _ => ⟨w.heap.size, 0, rfl, by simp, fun i x hx => ?_⟩⟩
  obtain ⟨hi, he⟩ := List.getElem?_eq_some_iff.1 hx
  simp at hi he
  rw [(Blk.new w t (Array.replicate n (Value.int .u8 0))).cell]
  simp [hi, he]
theorem made_zeros (n : Nat) : madeCells #[Value.int .u8 0] n = Array.replicate n (.int .u8 0) := by
  apply Array.ext'
  rw [toList_madeCells_one]
  simp
theorem leW_zeros : ∀ n, leW (List.replicate n 0) = 0
  | 0 => rfl
  | n + 1 => by rw [List.replicate_succ, leW, leW_zeros n]; rfl
theorem wordsOf_zeros (n : Nat) : wordsOf (List.replicate n 0) = List.replicate (n / 8) 0 := by
  unfold wordsOf
  apply List.ext_getElem?
  intro i
  rw [List.getElem?_map, List.length_replicate]
  by_cases h : i < n / 8
  · rw [List.getElem?_range h]
    simp only [Option.map_some, wAt, List.drop_replicate, List.take_replicate]
    rw [leW_zeros, List.getElem?_replicate, if_pos h]
  · rw [List.getElem?_eq_none (by simp; omega), List.getElem?_eq_none (by simp; omega)]
    rfl

set_option maxRecDepth 100000 in
set_option maxHeartbeats 400000 in
theorem New_m (n : Nat) (hm : mayB n = true) (w : World) :
    Calls Tryz.prog 32 #[.int .i64 (n : Int)] w fun e W' => ∃ (m : Nat) (B : MB), e = .returned (.tuple #[ptrV m, .int .i64 0]) ∧ MemIs W' m B (freshM (List.replicate (n / 8) 0)) ∧ Below w.heap.size w W' ∧ ∀ k ∈ footM m B (freshM (List.replicate (n / 8) 0)), w.heap.size < k := by
  have hn0 : 64 ≤ n ∧ n ≤ 1048576 := by unfold mayB at hm; simp at hm; omega
  have HM := hid hm
  have i1 : (0 : Int) ≤ (n : Int) := by omega
  have i2 : (n : Int) ≤ 281474976710656 := by omega
  have HN := hid hn0
  have hmk := run_make_row' (P := Tryz.prog) 26 5 (.int .u8 0) 1 Tryz.underlying26 (by kernel_rfl) rfl .i64 .i64 n (by omega) (by omega) w
  clear hm hn0
  go_enter Tryz.func32, Tryz.ntmps32
  go_wp2_with fail
  refine (may_z n _ (by omega)).mono ?_
  rintro e w1 ⟨rfl, rfl⟩
  rw [HM.out]
  go_wp2_with fail
  have hb := zeros_in w n 5 (by have := HN.out; omega)
  have hl : (List.replicate n (0 : Int)).length = n := List.length_replicate
  have hOf := Of_z (some ⟨w.heap.size, 0, none⟩) n (List.replicate n 0) (by rw [hl]; exact HM.out) (by have := HN.out; omega) _ hb
  rw [hl] at hOf
  rw [made_zeros]
  refine hOf.mono ?_
  rintro e w2 ⟨m, B, rfl, hm, hbel, hle⟩
  rw [wordsOf_zeros] at hm hle
  have HMM := hid hm
  have HB := hid hbel
  have HLE := hid hle
  clear hb hl hm hbel hle hmk hOf
  go_wp2
  go_ret2
  refine ⟨m, B, rfl, HMM.out, bx (ba (Below.refl _ w) _) HB.out, fun k hk => ?_⟩
  have := HLE.out k hk
  simp at this
  omega

def mayI (n : Int) : Bool := decide (64 ≤ n ∧ n ≤ 1048576 ∧ n % 64 = 0)
set_option maxRecDepth 100000 in
theorem may_i (n : Int) (w : World) (hn : -9223372036854775808 ≤ n ∧ n < 9223372036854775808) : Calls Tryz.prog 83 #[.int .i64 n] w fun e w' => e = .returned (.bool (mayI n)) ∧ w = w' := by
  by_cases h1 : n ≥ 64
  · by_cases h2 : n ≤ 1048576
    · have HZ := hid (show mayI n = (n % 64 == 0) by unfold mayI; rw [Bool.eq_iff_iff]; simp; omega)
      go_enter Tryz.func83, Tryz.ntmps83
      go_wp2
      go_ret
      exact ⟨by rw [HZ.out]; rfl, rfl⟩
    · have HZ := hid (show mayI n = false by unfold mayI; simp; omega)
      go_enter Tryz.func83, Tryz.ntmps83
      go_wp2
      go_ret
      exact ⟨by rw [HZ.out]; rfl, rfl⟩
  · have HZ := hid (show mayI n = false by unfold mayI; simp; omega)
    go_enter Tryz.func83, Tryz.ntmps83
    go_wp2
    go_ret
    exact ⟨by rw [HZ.out]; rfl, rfl⟩
theorem New_no (n : Int) (h1 : -9223372036854775808 ≤ n ∧ n < 9223372036854775808) (hm : ¬ (64 ≤ n ∧ n ≤ 1048576 ∧ n % 64 = 0)) (w : World) :
    Calls Tryz.prog 32 #[.int .i64 n] w fun e W' => e = .returned (.tuple #[.pointer none, .int .i64 2]) ∧ w = W' := by
  have HM := hid hm
  clear hm
  go_enter Tryz.func32, Tryz.ntmps32
  go_wp2_with fail
  refine (may_i n _ h1).mono ?_
  rintro e w1 ⟨rfl, rfl⟩
  rw [show mayI n = false from decide_eq_false HM.out]
  go_wp2
  go_ret2
  exact ⟨rfl, rfl⟩

end Go.Proofs.YtbkaemajjaiklaaGreat
