/- The document's Whole. -/
import Derived.Test.YtdhnacajgmjmlaaSwE
namespace Go.Proofs.Ytdhnacajgmjmlaa
open Go.RowKit
set_option linter.unusedVariables false
set_option linter.unusedSimpArgs false

theorem belD {B : Nat} {a b : World} (h : Below B a b) : Below B a b.drew := ⟨h.os, h.tape, h.output, h.size, h.block⟩
theorem wgo_step {cs : List StepT} {f i : Nat} {od : Bool} {r : Nat × Bool × Int} (h : wgo cs (f + 1) i od = r) : (if (xAt cs i).bad ≠ 0 then (i + 1, od || decide ((xAt cs i).did > 1), (xAt cs i).bad) else if (xAt cs i).done then (i + 1, od || decide ((xAt cs i).did > 1), 0) else wgo cs f (i + 1) (od || decide ((xAt cs i).did > 1))) = r := h

set_option maxRecDepth 100000 in
set_option maxHeartbeats 4000000 in
theorem RWhole_z (l : Value) (cs : List StepT) (lb : Nat) (most : Int) (hmost : most ≤ 300) (hlen : cs.length ≤ 1000) (w : World) (h : StepsAt w l cs lb) :
    Calls Try.prog 19 #[l, .int .i64 most] w fun e w' =>
      e = .returned (.tuple #[.int .i64 ((wholeS cs most).1 : Int), .bool (wholeS cs most).2.1, .int .i64 (wholeS cs most).2.2]) ∧ Below w.heap.size w w' := by
  obtain ⟨ao, cap, rfl, hc⟩ := h
  obtain ⟨N, hN⟩ : ∃ N, N = cs.length := ⟨_, rfl⟩
  obtain ⟨mt, hmt⟩ : ∃ mt, mt = most.toNat := ⟨_, rfl⟩
  have HN := hid hN
  have HC := hid hc
  have HMT := hid hmt
  rw [← hN] at hlen ⊢
  clear hN hc hmt
  go_enter Try.func19, Try.ntmps19
  go_wp2
  go_loopw [7, 8] (fun o i wr => ∃ (k : Nat) (od : Bool), k ≤ mt ∧ i = .int .i64 k ∧ o = .bool od ∧ Hid (Below w.heap.size w wr) ∧ Hid (wgo cs (mt - k) k od = wgo cs mt 0 false)) (fun _ i _ => (mt - (intOf i).toNat))
  case atStart => exact ⟨0, false, by omega, rfl, rfl, Below.refl _ _, rfl⟩
  case round =>
    obtain ⟨k, od, hk, rfl, rfl, hB, hW⟩ := hrel
    have i1 : (0 : Int) ≤ (k : Int) := by omega
    by_cases hlt : k < mt
    · have i2 : (k : Int) < most := by have := HMT.out; omega
      have hws := hW.out
      rw [show mt - k = (mt - (k + 1)) + 1 by omega] at hws
      have HWS := hid (wgo_step hws)
      clear hws
      have HWM : Hid (wholeS cs most = wgo cs mt 0 false) := by show wgo cs most.toNat 0 false = _; rw [← HMT.out]
      by_cases hcs : N = 0
      · have hx := hid (show xAt cs k = zeroS by
          have : cs = [] := List.eq_nil_of_length_eq_zero (by rw [← HN.out]; exact hcs)
          rw [this]; simp [xAt])
        have i3 : ¬ (k : Int) < 0 := by omega
        subst hcs
        have hHW : Hid (wgo cs (mt - (k + 1)) (k + 1) od = wgo cs mt 0 false) := by
          have := HWS.out
          rw [hx.out] at this
          simp [zeroS] at this
          exact this
        cases od
        · go_wp2
          go_roundw
          case rel => exact ⟨k + 1, false, by omega, by go_num, by first | rfl | simp, ba hB.out _, hHW⟩
          case measure => simp [intOf]; omega
        · go_wp2
          go_roundw
          case rel => exact ⟨k + 1, true, by omega, by go_num, by first | rfl | simp, ba hB.out _, hHW⟩
          case measure => simp [intOf]; omega
      · obtain ⟨off, rfl, hlw, hcell⟩ : ∃ off, ao = some ⟨lb, off, none⟩ ∧ lb < w.heap.size ∧ ∀ i (h : i < cs.length) j, j < 3 → w.cell? ⟨lb, off + i * 3 + j, none⟩ = (stepC cs[i])[j]? := by
          rcases HC.out with h | h
          · exact absurd (by rw [HN.out, h]; rfl) hcs
          · exact h
        obtain ⟨q, rfl⟩ : ∃ q, N = q + 1 := ⟨N - 1, by omega⟩
        have hNl := HN.out
        obtain ⟨a, ha⟩ : ∃ a, a = cs[q]'(by omega) := ⟨_, rfl⟩
        have hca := hcell q (by omega)
        rw [← ha] at hca
        have u0 : wr.cell? ⟨lb, off + q * 3, none⟩ = some (.int .i64 (a.did : Int)) := (hB.out.cell (p := ⟨lb, off + q * 3, none⟩) hlw).trans (hca 0 (by omega))
        have u1 : wr.cell? ⟨lb, off + q * 3 + 1, none⟩ = some (.bool a.done) := (hB.out.cell (p := ⟨lb, off + q * 3 + 1, none⟩) hlw).trans (hca 1 (by omega))
        have u2 : wr.cell? ⟨lb, off + q * 3 + 2, none⟩ = some (.int .i64 a.bad) := (hB.out.cell (p := ⟨lb, off + q * 3 + 2, none⟩) hlw).trans (hca 2 (by omega))
        have a0 := ca (.cells #[.int .i64 0, .bool false, .int .i64 0] 109) u0
        have a1 := ca (.cells #[.int .i64 0, .bool false, .int .i64 0] 109) u1
        have a2 := ca (.cells #[.int .i64 0, .bool false, .int .i64 0] 109) u2
        have i4 : (0 : Int) < (q : Int) + 1 := by omega
        have i5 : (0 : Int) ≤ (q : Int) := by omega
        have i6 : (q : Int) < (q : Int) + 1 := by omega
        by_cases hki : k < q + 1
        · have i3 : (k : Int) < (q : Int) + 1 := by omega
          obtain ⟨b, hb⟩ : ∃ b, b = cs[k]'(by omega) := ⟨_, rfl⟩
          have hx := hid (show xAt cs k = b by unfold xAt; rw [List.getElem?_eq_getElem (by omega), hb])
          have hcb := hcell k (by omega)
          rw [← hb] at hcb
          have v0 : wr.cell? ⟨lb, off + k * 3, none⟩ = some (.int .i64 (b.did : Int)) := (hB.out.cell (p := ⟨lb, off + k * 3, none⟩) hlw).trans (hcb 0 (by omega))
          have v1 : wr.cell? ⟨lb, off + k * 3 + 1, none⟩ = some (.bool b.done) := (hB.out.cell (p := ⟨lb, off + k * 3 + 1, none⟩) hlw).trans (hcb 1 (by omega))
          have v2 : wr.cell? ⟨lb, off + k * 3 + 2, none⟩ = some (.int .i64 b.bad) := (hB.out.cell (p := ⟨lb, off + k * 3 + 2, none⟩) hlw).trans (hcb 2 (by omega))
          have b0 := ca (.cells #[.int .i64 (a.did : Int), .bool a.done, .int .i64 a.bad] 109) v0
          have b1 := ca (.cells #[.int .i64 (a.did : Int), .bool a.done, .int .i64 a.bad] 109) v1
          have b2 := ca (.cells #[.int .i64 (a.did : Int), .bool a.done, .int .i64 a.bad] 109) v2
          clear hcell hca ha hcb hb u0 u1 u2 v0 v1 v2 hNl
          cases od
          · by_cases h1 : (b.did : Int) > 1
            · by_cases hbad : b.bad = 0
              · have hbe : (b.bad != 0) = false := by simpa using hbad
                cases hdone : b.done
                · have hHW : Hid (wgo cs (mt - (k + 1)) (k + 1) true = wgo cs mt 0 false) := by
                    have := HWS.out
                    rw [hx.out, if_neg (by simpa using hbad), hdone] at this
                    simp only [Bool.false_or, decide_eq_true (show b.did > 1 by omega)] at this
                    exact this
                  rw [hdone] at b1
                  go_wp2
                  go_roundw
                  case rel => exact ⟨k + 1, true, by omega, by go_num, by first | rfl | (simp; omega) | simp, ba hB.out _, hHW⟩
                  case measure => simp [intOf]; omega
                · have hHW : Hid (wholeS cs most = (k + 1, true, 0)) := by
                    have := HWS.out
                    rw [hx.out, if_neg (by simpa using hbad), hdone] at this
                    simp only [Bool.false_or, decide_eq_true (show b.did > 1 by omega)] at this
                    rw [HWM.out]; exact this.symm
                  rw [hdone] at b1
                  go_wp2
                  refine bodyPost_ret (v := .tuple #[.int .i64 ((k : Int) + 1), .bool true, .int .i64 0]) (by simp [results, Try.results19, go_sem, *]) rfl ?_
                  rw [hHW.out]
                  exact ⟨rfl, ba hB.out _⟩
              · have hbe : (b.bad != 0) = true := by simpa using hbad
                have hHW : Hid (wholeS cs most = (k + 1, true, b.bad)) := by
                  have := HWS.out
                  rw [hx.out, if_pos (by simpa using hbad)] at this
                  simp only [Bool.false_or, decide_eq_true (show b.did > 1 by omega)] at this
                  rw [HWM.out]; exact this.symm
                go_wp2
                go_region
                all_goals
                  try simp only [Act.put, List.setIfInBounds_toArray, List.set_cons_zero, List.set_cons_succ]
                  go_wp2
                  refine bodyPost_ret (v := .tuple #[.int .i64 ((k : Int) + 1), .bool true, .int .i64 b.bad]) (by simp [results, Try.results19, go_sem, *]) rfl ?_
                  rw [hHW.out]
                  exact ⟨rfl, belD (ba hB.out _)⟩
            · by_cases hbad : b.bad = 0
              · have hbe : (b.bad != 0) = false := by simpa using hbad
                cases hdone : b.done
                · have hHW : Hid (wgo cs (mt - (k + 1)) (k + 1) false = wgo cs mt 0 false) := by
                    have := HWS.out
                    rw [hx.out, if_neg (by simpa using hbad), hdone] at this
                    simp only [Bool.false_or, decide_eq_false (show ¬ b.did > 1 by omega)] at this
                    exact this
                  rw [hdone] at b1
                  go_wp2
                  go_roundw
                  case rel => exact ⟨k + 1, false, by omega, by go_num, by first | rfl | (simp; omega) | simp, ba hB.out _, hHW⟩
                  case measure => simp [intOf]; omega
                · have hHW : Hid (wholeS cs most = (k + 1, false, 0)) := by
                    have := HWS.out
                    rw [hx.out, if_neg (by simpa using hbad), hdone] at this
                    simp only [Bool.false_or, decide_eq_false (show ¬ b.did > 1 by omega)] at this
                    rw [HWM.out]; exact this.symm
                  rw [hdone] at b1
                  go_wp2
                  refine bodyPost_ret (v := .tuple #[.int .i64 ((k : Int) + 1), .bool false, .int .i64 0]) (by simp [results, Try.results19, go_sem, *]) rfl ?_
                  rw [hHW.out]
                  exact ⟨rfl, ba hB.out _⟩
              · have hbe : (b.bad != 0) = true := by simpa using hbad
                have hHW : Hid (wholeS cs most = (k + 1, false, b.bad)) := by
                  have := HWS.out
                  rw [hx.out, if_pos (by simpa using hbad)] at this
                  simp only [Bool.false_or, decide_eq_false (show ¬ b.did > 1 by omega)] at this
                  rw [HWM.out]; exact this.symm
                go_wp2
                go_region
                all_goals
                  try simp only [Act.put, List.setIfInBounds_toArray, List.set_cons_zero, List.set_cons_succ]
                  go_wp2
                  refine bodyPost_ret (v := .tuple #[.int .i64 ((k : Int) + 1), .bool false, .int .i64 b.bad]) (by simp [results, Try.results19, go_sem, *]) rfl ?_
                  rw [hHW.out]
                  exact ⟨rfl, belD (ba hB.out _)⟩
          · by_cases hbad : b.bad = 0
            · have hbe : (b.bad != 0) = false := by simpa using hbad
              cases hdone : b.done
              · have hHW : Hid (wgo cs (mt - (k + 1)) (k + 1) true = wgo cs mt 0 false) := by
                  have := HWS.out
                  rw [hx.out, if_neg (by simpa using hbad), hdone] at this
                  simp only [Bool.true_or] at this
                  exact this
                rw [hdone] at b1
                go_wp2
                go_roundw
                case rel => exact ⟨k + 1, true, by omega, by go_num, by first | rfl | (simp; omega) | simp, ba hB.out _, hHW⟩
                case measure => simp [intOf]; omega
              · have hHW : Hid (wholeS cs most = (k + 1, true, 0)) := by
                  have := HWS.out
                  rw [hx.out, if_neg (by simpa using hbad), hdone] at this
                  simp only [Bool.true_or] at this
                  rw [HWM.out]; exact this.symm
                rw [hdone] at b1
                go_wp2
                refine bodyPost_ret (v := .tuple #[.int .i64 ((k : Int) + 1), .bool true, .int .i64 0]) (by simp [results, Try.results19, go_sem, *]) rfl ?_
                rw [hHW.out]
                exact ⟨rfl, ba hB.out _⟩
            · have hbe : (b.bad != 0) = true := by simpa using hbad
              have hHW : Hid (wholeS cs most = (k + 1, true, b.bad)) := by
                have := HWS.out
                rw [hx.out, if_pos (by simpa using hbad)] at this
                simp only [Bool.true_or] at this
                rw [HWM.out]; exact this.symm
              go_wp2
              go_region
              all_goals
                try simp only [Act.put, List.setIfInBounds_toArray, List.set_cons_zero, List.set_cons_succ]
                go_wp2
                refine bodyPost_ret (v := .tuple #[.int .i64 ((k : Int) + 1), .bool true, .int .i64 b.bad]) (by simp [results, Try.results19, go_sem, *]) rfl ?_
                rw [hHW.out]
                exact ⟨rfl, belD (ba hB.out _)⟩
        · have i3 : ¬ (k : Int) < (q : Int) + 1 := by omega
          have hx := hid (show xAt cs k = a by unfold xAt; rw [List.getElem?_eq_none (by omega)]; simp only [List.getLast?_eq_getElem?, show cs.length - 1 = q by omega, List.getElem?_eq_getElem (show q < cs.length by omega), Option.getD_some, ha])
          clear hcell hca ha u0 u1 u2 hNl
          cases od
          · by_cases h1 : (a.did : Int) > 1
            · by_cases hbad : a.bad = 0
              · have hbe : (a.bad != 0) = false := by simpa using hbad
                cases hdone : a.done
                · have hHW : Hid (wgo cs (mt - (k + 1)) (k + 1) true = wgo cs mt 0 false) := by
                    have := HWS.out
                    rw [hx.out, if_neg (by simpa using hbad), hdone] at this
                    simp only [Bool.false_or, decide_eq_true (show a.did > 1 by omega)] at this
                    exact this
                  rw [hdone] at a1
                  go_wp2
                  go_roundw
                  case rel => exact ⟨k + 1, true, by omega, by go_num, by first | rfl | (simp; omega) | simp, ba hB.out _, hHW⟩
                  case measure => simp [intOf]; omega
                · have hHW : Hid (wholeS cs most = (k + 1, true, 0)) := by
                    have := HWS.out
                    rw [hx.out, if_neg (by simpa using hbad), hdone] at this
                    simp only [Bool.false_or, decide_eq_true (show a.did > 1 by omega)] at this
                    rw [HWM.out]; exact this.symm
                  rw [hdone] at a1
                  go_wp2
                  refine bodyPost_ret (v := .tuple #[.int .i64 ((k : Int) + 1), .bool true, .int .i64 0]) (by simp [results, Try.results19, go_sem, *]) rfl ?_
                  rw [hHW.out]
                  exact ⟨rfl, ba hB.out _⟩
              · have hbe : (a.bad != 0) = true := by simpa using hbad
                have hHW : Hid (wholeS cs most = (k + 1, true, a.bad)) := by
                  have := HWS.out
                  rw [hx.out, if_pos (by simpa using hbad)] at this
                  simp only [Bool.false_or, decide_eq_true (show a.did > 1 by omega)] at this
                  rw [HWM.out]; exact this.symm
                go_wp2
                go_region
                all_goals
                  try simp only [Act.put, List.setIfInBounds_toArray, List.set_cons_zero, List.set_cons_succ]
                  go_wp2
                  refine bodyPost_ret (v := .tuple #[.int .i64 ((k : Int) + 1), .bool true, .int .i64 a.bad]) (by simp [results, Try.results19, go_sem, *]) rfl ?_
                  rw [hHW.out]
                  exact ⟨rfl, belD (ba hB.out _)⟩
            · by_cases hbad : a.bad = 0
              · have hbe : (a.bad != 0) = false := by simpa using hbad
                cases hdone : a.done
                · have hHW : Hid (wgo cs (mt - (k + 1)) (k + 1) false = wgo cs mt 0 false) := by
                    have := HWS.out
                    rw [hx.out, if_neg (by simpa using hbad), hdone] at this
                    simp only [Bool.false_or, decide_eq_false (show ¬ a.did > 1 by omega)] at this
                    exact this
                  rw [hdone] at a1
                  go_wp2
                  go_roundw
                  case rel => exact ⟨k + 1, false, by omega, by go_num, by first | rfl | (simp; omega) | simp, ba hB.out _, hHW⟩
                  case measure => simp [intOf]; omega
                · have hHW : Hid (wholeS cs most = (k + 1, false, 0)) := by
                    have := HWS.out
                    rw [hx.out, if_neg (by simpa using hbad), hdone] at this
                    simp only [Bool.false_or, decide_eq_false (show ¬ a.did > 1 by omega)] at this
                    rw [HWM.out]; exact this.symm
                  rw [hdone] at a1
                  go_wp2
                  refine bodyPost_ret (v := .tuple #[.int .i64 ((k : Int) + 1), .bool false, .int .i64 0]) (by simp [results, Try.results19, go_sem, *]) rfl ?_
                  rw [hHW.out]
                  exact ⟨rfl, ba hB.out _⟩
              · have hbe : (a.bad != 0) = true := by simpa using hbad
                have hHW : Hid (wholeS cs most = (k + 1, false, a.bad)) := by
                  have := HWS.out
                  rw [hx.out, if_pos (by simpa using hbad)] at this
                  simp only [Bool.false_or, decide_eq_false (show ¬ a.did > 1 by omega)] at this
                  rw [HWM.out]; exact this.symm
                go_wp2
                go_region
                all_goals
                  try simp only [Act.put, List.setIfInBounds_toArray, List.set_cons_zero, List.set_cons_succ]
                  go_wp2
                  refine bodyPost_ret (v := .tuple #[.int .i64 ((k : Int) + 1), .bool false, .int .i64 a.bad]) (by simp [results, Try.results19, go_sem, *]) rfl ?_
                  rw [hHW.out]
                  exact ⟨rfl, belD (ba hB.out _)⟩
          · by_cases hbad : a.bad = 0
            · have hbe : (a.bad != 0) = false := by simpa using hbad
              cases hdone : a.done
              · have hHW : Hid (wgo cs (mt - (k + 1)) (k + 1) true = wgo cs mt 0 false) := by
                  have := HWS.out
                  rw [hx.out, if_neg (by simpa using hbad), hdone] at this
                  simp only [Bool.true_or] at this
                  exact this
                rw [hdone] at a1
                go_wp2
                go_roundw
                case rel => exact ⟨k + 1, true, by omega, by go_num, by first | rfl | (simp; omega) | simp, ba hB.out _, hHW⟩
                case measure => simp [intOf]; omega
              · have hHW : Hid (wholeS cs most = (k + 1, true, 0)) := by
                  have := HWS.out
                  rw [hx.out, if_neg (by simpa using hbad), hdone] at this
                  simp only [Bool.true_or] at this
                  rw [HWM.out]; exact this.symm
                rw [hdone] at a1
                go_wp2
                refine bodyPost_ret (v := .tuple #[.int .i64 ((k : Int) + 1), .bool true, .int .i64 0]) (by simp [results, Try.results19, go_sem, *]) rfl ?_
                rw [hHW.out]
                exact ⟨rfl, ba hB.out _⟩
            · have hbe : (a.bad != 0) = true := by simpa using hbad
              have hHW : Hid (wholeS cs most = (k + 1, true, a.bad)) := by
                have := HWS.out
                rw [hx.out, if_pos (by simpa using hbad)] at this
                simp only [Bool.true_or] at this
                rw [HWM.out]; exact this.symm
              go_wp2
              go_region
              all_goals
                try simp only [Act.put, List.setIfInBounds_toArray, List.set_cons_zero, List.set_cons_succ]
                go_wp2
                refine bodyPost_ret (v := .tuple #[.int .i64 ((k : Int) + 1), .bool true, .int .i64 a.bad]) (by simp [results, Try.results19, go_sem, *]) rfl ?_
                rw [hHW.out]
                exact ⟨rfl, belD (ba hB.out _)⟩
    · obtain rfl : k = mt := by omega
      have i2 : ¬ (k : Int) < most := by have := HMT.out; omega
      have HW4 : Hid (wholeS cs most = (k, od, 10)) := by
        show wgo cs most.toNat 0 false = _
        rw [← HMT.out, ← hW.out, Nat.sub_self]
        rfl
      by_cases hneg : most < 0
      · have hk0 : k = 0 := by have := HMT.out; omega
        subst hk0
        go_wp2
        refine bodyPost_ret (v := .tuple #[.int .i64 0, .bool od, .int .i64 10]) (by simp [results, Try.results19, go_sem]) rfl ?_
        rw [HW4.out]
        exact ⟨rfl, hB.out⟩
      · have hmk : most = (k : Int) := by have := HMT.out; omega
        have HMK := hid hmk
        clear hmk
        go_wp2
        refine bodyPost_ret (v := .tuple #[.int .i64 most, .bool od, .int .i64 10]) (by simp [results, Try.results19, go_sem]) rfl ?_
        rw [HW4.out, HMK.out]
        exact ⟨rfl, hB.out⟩

end Go.Proofs.Ytdhnacajgmjmlaa
