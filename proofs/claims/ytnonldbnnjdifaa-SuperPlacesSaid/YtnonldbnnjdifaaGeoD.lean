/- Contract of levee/geo.Class (a closure handed to slices.IndexFunc). -/
import Derived.Test.YtnonldbnnjdifaaGeoC
import Derived.Deep.RegionHeld3
namespace Go.Proofs.Ytnonldbnnjdifaa
open Go.RowKit
set_option linter.unusedVariables false

def leB (a b : Int) : Bool := decide (a ≤ b)

set_option maxHeartbeats 400000 in
theorem ClassFits (c n : Int) (p : Addr) (w : World) (hp : p.block < w.heap.size) (hc : w.cell? p = some (.int .i64 n)) :
    Calls Try.prog 50 #[.int .i64 c, .pointer (some p)] w fun e w' => e = .returned (.bool (leB n (bytesZ c - 8))) ∧ Below w.heap.size w w' := by
  obtain ⟨b1, b2⟩ := bytesZ_le c
  have hw : IntKind.i64.wrap (bytesZ c - 8) = bytesZ c - 8 := IntWalk.i64_in _ (by omega)
  go_enter Try.func50, Try.ntmps50
  go_wp2
  go_region_with (go_at_call 20; refine (Bytes_z _ _).mono ?_; rintro e w1 ⟨rfl, hb⟩; have hc1 := (hb.cell hp).trans hc)
  all_goals go_wp2
  all_goals go_ret
  all_goals exact ⟨rfl, ((Below.refl _ _).drew).trans (by assumption)⟩

def fitsZ (n : Int) : Int := if n ≤ 56 then 0 else if n ≤ 120 then 1 else -1

set_option maxHeartbeats 800000 in
theorem IndexFuncFits (n : Int) (b : Nat) (p : Addr) (w : World) (hb : b < w.heap.size) (hp : p.block < w.heap.size) (hc : w.cell? p = some (.int .i64 n))
    (hx0 : w.cell? ⟨b, 0, none⟩ = some (.int .i64 1)) (hx1 : w.cell? ⟨b, 1, none⟩ = some (.int .i64 2)) :
    Calls Try.prog 51 #[.slice (some ⟨b, 0, none⟩) 2 2, .func (.func 50) #[] #[.pointer (some p)]] w
      fun e w' => e = .returned (.int .i64 (fitsZ n)) ∧ Below w.heap.size w w' := by
  have e1 : bytesZ 1 - 8 = 56 := rfl
  have e2 : bytesZ 2 - 8 = 112 + 8 := rfl
  go_enter Try.func51, Try.ntmps51
  go_wp2_with fail
  go_loopw [5, 8] (fun _ i wr => ∃ k : Nat, k ≤ 2 ∧ i = .int .i64 k ∧ Below w.heap.size w wr ∧ (1 ≤ k → 56 < n) ∧ (2 ≤ k → 120 < n)) (fun _ i _ => (2 - intOf i).toNat)
  case atStart => exact ⟨0, by omega, rfl, Below.refl _ _, fun h => by omega, fun h => by omega⟩
  case round =>
    obtain ⟨k, hk, rfl, hbel, h56, h120⟩ := hrel
    have hck := (hbel.cell hp).trans hc
    have hck0 := (hbel.cell (p := ⟨b, 0, none⟩) hb).trans hx0
    have hck1 := (hbel.cell (p := ⟨b, 1, none⟩) hb).trans hx1
    have hpk : p.block < wr.heap.size := Nat.lt_of_lt_of_le hp hbel.size
    have hk3 : k = 0 ∨ k = 1 ∨ k = 2 := by omega
    rcases hk3 with rfl | rfl | rfl
    · clear h56 h120
      by_cases hn : n ≤ 56
      · have hl : leB n (bytesZ 1 - 8) = true := by rw [e1]; exact decide_eq_true hn
        have hz := hid (show fitsZ n = 0 from if_pos hn)
        clear e1 e2
        go_wp2_with fail
        refine (ClassFits 1 n p wr hpk hck).mono ?_
        rintro e w2 ⟨rfl, hb2⟩
        go_wp2
        go_ret
        exact ⟨by rw [hz.out]; rfl, hbel.trans (hb2.mono hbel.size)⟩
      · have hl : leB n (bytesZ 1 - 8) = false := by rw [e1]; exact decide_eq_false hn
        clear e1 e2
        go_wp2_with fail
        refine (ClassFits 1 n p wr hpk hck).mono ?_
        rintro e w2 ⟨rfl, hb2⟩
        go_wp2
        go_roundw
        case rel => exact ⟨1, by omega, by go_num, hbel.trans (hb2.mono hbel.size), fun _ => by omega, fun h => by omega⟩
        case measure => simp [intOf]
    · have h56' := h56 (by omega)
      clear h56 h120
      by_cases hn : n ≤ 120
      · have hl : leB n (bytesZ 2 - 8) = true := by rw [e2]; exact decide_eq_true hn
        have hz := hid (show fitsZ n = 1 by unfold fitsZ; rw [if_neg (by omega), if_pos hn])
        clear e1 e2
        go_wp2_with fail
        refine (ClassFits 2 n p wr hpk hck).mono ?_
        rintro e w2 ⟨rfl, hb2⟩
        go_wp2
        go_ret
        exact ⟨by rw [hz.out]; rfl, hbel.trans (hb2.mono hbel.size)⟩
      · have hl : leB n (bytesZ 2 - 8) = false := by rw [e2]; exact decide_eq_false hn
        clear e1 e2
        go_wp2_with fail
        refine (ClassFits 2 n p wr hpk hck).mono ?_
        rintro e w2 ⟨rfl, hb2⟩
        go_wp2
        go_roundw
        case rel => exact ⟨2, by omega, by go_num, hbel.trans (hb2.mono hbel.size), fun _ => by omega, fun h => by omega⟩
        case measure => simp [intOf]
    · have h56' := h56 (by omega)
      have h120' := h120 (by omega)
      have hz := hid (show fitsZ n = -1 by unfold fitsZ; rw [if_neg (by omega), if_neg (by omega)])
      clear h56 h120 e1 e2
      go_wp2
      go_ret
      exact ⟨by rw [hz.out]; rfl, hbel⟩

def classZ (n : Int) : Int := if n < 0 then 0 else 1 + fitsZ n

set_option maxHeartbeats 400000 in
theorem Class_z (n : Int) (w : World) (hn1 : -9223372036854775808 ≤ n) (hn2 : n ≤ 9223372036854775807) :
    Calls Try.prog 18 #[.int .i64 n] w fun e w' => e = .returned (.int .i64 (classZ n)) ∧ Below w.heap.size w w' := by
  by_cases h0 : n < 0
  · have hz : Hid (classZ n = 0) := if_pos h0
    go_enter Try.func18, Try.ntmps18
    go_wp2
    go_ret
    exact ⟨by rw [hz.out]; rfl, (Below.refl _ _).alloc (Nat.le_refl _) _⟩
  · have hz : Hid (classZ n = 1 + fitsZ n) := if_neg h0
    have hf : -1 ≤ fitsZ n ∧ fitsZ n ≤ 1 := by unfold fitsZ; split <;> (try split) <;> omega
    obtain ⟨hf1, hf2⟩ := hf
    go_enter Try.func18, Try.ntmps18
    go_wp2_with fail
    refine (IndexFuncFits n (w.heap.size + 1) ⟨w.heap.size, 0, none⟩ _ ?_ ?_ ?_ ?_ ?_).mono ?_
    · simp
    · simp; omega
    · go_simp
    · go_simp
    · go_simp
    rintro e w2 ⟨rfl, hb2⟩
    go_wp2
    go_ret
    exact ⟨by rw [hz.out]; rfl, (((Below.refl _ _).alloc (Nat.le_refl _) _).alloc (by simp) _).trans (hb2.mono (by simp; omega))⟩

end Go.Proofs.Ytnonldbnnjdifaa
