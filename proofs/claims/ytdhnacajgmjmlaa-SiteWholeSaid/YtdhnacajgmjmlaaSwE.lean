/- The law's few; the document's Whole. -/
import Derived.Test.YtdhnacajgmjmlaaSwD
namespace Go.Proofs.Ytdhnacajgmjmlaa
open Go.RowKit
set_option linter.unusedVariables false
set_option linter.unusedSimpArgs false

/-- a step as the statement hands it in -/
structure StepI where
  did : Int
  done : Bool
  bad : Int
def stepIC (x : StepI) : List Value := [.int .i64 x.did, .bool x.done, .int .i64 x.bad]
def StepsI (w : World) (v : Value) (cs : List StepI) : Prop :=
  ∃ (ao : Option Addr) (cap : Nat), v = .slice ao cs.length cap ∧ (cs = [] ∨ ∃ b off, ao = some ⟨b, off, none⟩ ∧ b < w.heap.size ∧ ∀ i (h : i < cs.length) j, j < 3 → w.cell? ⟨b, off + i * 3 + j, none⟩ = (stepIC cs[i])[j]?)
def okS (x : StepI) : Bool := decide (0 ≤ x.did ∧ x.did ≤ 9 ∧ 0 ≤ x.bad ∧ x.bad ≤ 20)
def fewS (cs : List StepI) : Bool := decide (cs.length ≤ 100) && cs.all okS
theorem StepsI.bel {w w' : World} {v : Value} {cs : List StepI} (h : StepsI w v cs) (hb : Below w.heap.size w w') : StepsI w' v cs := by
  obtain ⟨ao, cap, rfl, h⟩ := h
  refine ⟨ao, cap, rfl, ?_⟩
  rcases h with h | ⟨b, off, rfl, hlt, hc⟩
  · exact Or.inl h
  · exact Or.inr ⟨b, off, rfl, Nat.lt_of_lt_of_le hlt hb.size, fun i hi j hj => (hb.cell (p := ⟨b, off + i * 3 + j, none⟩) hlt).trans (hc i hi j hj)⟩

set_option maxRecDepth 100000 in
set_option maxHeartbeats 2000000 in
theorem few_z (v : Value) (cs : List StepI) (hl : cs.length ≤ 9223372036854775807) (w : World) (h : StepsI w v cs) :
    Calls Try.prog 13 #[v] w fun e w' => e = .returned (.bool (fewS cs)) ∧ w = w' := by
  obtain ⟨ao, cap, rfl, hc⟩ := h
  obtain ⟨N, hN⟩ : ∃ N, N = cs.length := ⟨_, rfl⟩
  rw [← hN]
  by_cases h100 : (N : Int) > 100
  · have HZ := hid (show fewS cs = false by unfold fewS; rw [← hN]; simp; omega)
    clear hN hl hc
    go_enter Try.func13, Try.ntmps13
    go_wp2
    go_ret
    exact ⟨by rw [HZ.out]; rfl, rfl⟩
  · have HN := hid hN
    have HC := hid hc
    have HF : Hid (fewS cs = cs.all okS) := by
      show fewS cs = _
      unfold fewS
      rw [← hN, decide_eq_true (by omega), Bool.true_and]
    clear hN hl hc
    go_enter Try.func13, Try.ntmps13
    go_wp2
    go_loop [3] (fun i => ∃ k : Nat, k ≤ N ∧ i = .int .i64 k ∧ Hid (∀ j (hj : j < cs.length), j < k → okS cs[j] = true)) (fun i => (N - (intOf i).toNat))
    case atStart => exact ⟨0, by omega, rfl, fun j hj h => by omega⟩
    case round =>
      obtain ⟨k, hk, rfl, hO⟩ := hrel
      by_cases hlt : k < N
      · have hkl : k < cs.length := by have := HN.out; omega
        obtain ⟨b, off, rfl, hbl, hcell⟩ : ∃ b off, ao = some ⟨b, off, none⟩ ∧ b < w.heap.size ∧ ∀ i (h : i < cs.length) j, j < 3 → w.cell? ⟨b, off + i * 3 + j, none⟩ = (stepIC cs[i])[j]? := by
          rcases HC.out with h | h
          · rw [h] at hkl; simp at hkl
          · exact h
        obtain ⟨x, hx⟩ : ∃ x, x = cs[k] := ⟨_, rfl⟩
        have hcc := hcell k hkl
        rw [← hx] at hcc
        have y0 : w.cell? ⟨b, off + k * 3, none⟩ = some (.int .i64 x.did) := hcc 0 (by omega)
        have y2 : w.cell? ⟨b, off + k * 3 + 2, none⟩ = some (.int .i64 x.bad) := hcc 2 (by omega)
        have i1 : (0 : Int) ≤ (k : Int) := by omega
        have i2 : (k : Int) < (N : Int) := by omega
        have HX := hid hx
        have hno : okS x = false → fewS cs = false := fun h => by
          rw [HF.out, List.all_eq_false]
          exact ⟨cs[k], List.getElem_mem hkl, by rw [← HX.out, h]; simp⟩
        have HNO := hid hno
        clear hcc hcell hx hno
        by_cases c1 : x.did < 0
        · have hz := hid (HNO.out (by unfold okS; simp; omega))
          go_wp2
          go_ret
          exact ⟨by rw [hz.out]; rfl, rfl⟩
        · by_cases c2 : x.did > 9
          · have hz := hid (HNO.out (by unfold okS; simp; omega))
            go_wp2
            go_ret
            exact ⟨by rw [hz.out]; rfl, rfl⟩
          · by_cases c3 : x.bad < 0
            · have hz := hid (HNO.out (by unfold okS; simp; omega))
              go_wp2
              go_ret
              exact ⟨by rw [hz.out]; rfl, rfl⟩
            · by_cases c4 : x.bad > 20
              · have hz := hid (HNO.out (by unfold okS; simp; omega))
                go_wp2
                go_ret
                exact ⟨by rw [hz.out]; rfl, rfl⟩
              · have hO2 : Hid (∀ j (hj : j < cs.length), j < k + 1 → okS cs[j] = true) := fun j hj h => by
                  by_cases hjk : j = k
                  · subst hjk
                    rw [← HX.out]; unfold okS; simp; omega
                  · exact hO.out j hj (by omega)
                clear hO
                go_wp2
                go_round
                case rel => exact ⟨k + 1, by omega, by go_num, hO2⟩
                case measure => simp [intOf]; omega
      · have hz : Hid (fewS cs = true) := by
          show fewS cs = true
          rw [HF.out, List.all_eq_true]
          intro x hx
          obtain ⟨j, hj, rfl⟩ := List.getElem_of_mem hx
          exact hO.out j hj (by have := HN.out; omega)
        go_wp2
        go_ret
        exact ⟨by rw [hz.out]; rfl, rfl⟩

end Go.Proofs.Ytdhnacajgmjmlaa
