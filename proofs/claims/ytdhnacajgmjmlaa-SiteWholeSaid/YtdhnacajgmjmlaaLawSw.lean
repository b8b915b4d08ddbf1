/- The law SiteWhole. -/
import Derived.Test.YtdhnacajgmjmlaaSwF
namespace Go.Proofs.Ytdhnacajgmjmlaa
open Go.RowKit
set_option linter.unusedVariables false
set_option linter.unusedSimpArgs false

def toT (x : StepI) : StepT := ⟨x.did.toNat, x.done, x.bad⟩
theorem fewS_ok {cs : List StepI} (h : fewS cs = true) : cs.length ≤ 100 ∧ ∀ x ∈ cs, okS x = true := by
  unfold fewS at h
  rw [Bool.and_eq_true, List.all_eq_true, decide_eq_true_eq] at h
  exact h
theorem toT_did {cs : List StepI} (h : fewS cs = true) (i : Nat) : (xAt (cs.map toT) i).did ≤ 9 := by
  have hx : ∀ x ∈ cs.map toT, x.did ≤ 9 := fun x hx => by
    obtain ⟨y, hy, rfl⟩ := List.mem_map.1 hx
    have := (fewS_ok h).2 y hy
    unfold okS at this
    simp at this
    simp [toT]; omega
  unfold xAt
  split
  · rename_i x he
    exact hx x (List.mem_of_getElem? he)
  · cases hl : (cs.map toT).getLast? with
    | none => simp [zeroS]
    | some x => exact hx x (List.mem_of_getLast? hl)
theorem StepsI.at_ {w : World} {v : Value} {cs : List StepI} (h : StepsI w v cs) (hf : fewS cs = true) (lb0 : Nat) : ∃ lb, StepsAt w v (cs.map toT) lb ∧ (lb = lb0 ∨ lb < w.heap.size) := by
  obtain ⟨ao, cap, rfl, hc⟩ := h
  rcases hc with rfl | ⟨b, off, rfl, hb, hc⟩
  · exact ⟨lb0, ⟨ao, cap, by simp, Or.inl rfl⟩, Or.inl rfl⟩
  · refine ⟨b, ⟨some ⟨b, off, none⟩, cap, by simp, Or.inr ⟨off, rfl, hb, fun i hi j hj => ?_⟩⟩, Or.inr hb⟩
    have hi' : i < cs.length := by simpa using hi
    rw [hc i hi' j hj]
    have hok := (fewS_ok hf).2 cs[i] (List.getElem_mem hi')
    unfold okS at hok
    simp at hok
    simp only [List.getElem_map, stepC, stepIC, toT]
    rw [Int.toNat_of_nonneg hok.1]
theorem StepsAt.bel' {w w' : World} {v : Value} {cs : List StepT} {lb : Nat} (h : StepsAt w v cs lb) (hb : Below w.heap.size w w') : StepsAt w' v cs lb := h.only (Only.of_below hb []) (by simp)

set_option maxRecDepth 100000 in
set_option maxHeartbeats 2000000 in
theorem SiteWhole_z (v : Value) (cs : List StepI) (most : Int) (w : World) (h : StepsI w v cs) (hm : cs.length ≤ 9223372036854775807) (b1 : -9223372036854775808 ≤ most) (b2 : most ≤ 9223372036854775807) :
    Calls Try.prog 3 #[v, .int .i64 most] w fun e w' => e = .returned (.bool true) ∧ Below w.heap.size w w' := by
  obtain ⟨ao0, cap0, hv0⟩ : ∃ ao cap, v = .slice ao cs.length cap := by obtain ⟨ao, cap, h1, _⟩ := h; exact ⟨ao, cap, h1⟩
  obtain ⟨n0, hn0⟩ : ∃ n0, n0 = cs.length := ⟨_, rfl⟩
  rw [← hn0] at hv0
  subst hv0
  have H := hid h
  have HM := hid hm
  clear h hm hn0
  cases hf : fewS cs
  · have HF := hid hf
    clear hf
    go_enter Try.func3, Try.ntmps3
    go_wp2_with fail
    refine (few_z _ cs HM.out _ H.out).mono ?_
    rintro e w1 ⟨rfl, rfl⟩
    rw [HF.out]
    go_wp2_with fail
    refine (known_z13 _).mono ?_
    rintro e w2 ⟨rfl, hb⟩
    have HB := hid hb
    clear hb
    go_wp2
    go_ret
    exact ⟨rfl, HB.out⟩
  · have HF := hid hf
    clear hf
    by_cases hmost : most > 200
    · go_enter Try.func3, Try.ntmps3
      go_wp2_with fail
      refine (few_z _ cs HM.out _ H.out).mono ?_
      rintro e w1 ⟨rfl, rfl⟩
      rw [HF.out]
      go_wp2_with fail
      refine (known_z13 _).mono ?_
      rintro e w2 ⟨rfl, hb⟩
      have HB := hid hb
      clear hb
      go_wp2
      go_ret
      exact ⟨rfl, HB.out⟩
    · go_enter Try.func3, Try.ntmps3
      go_wp2_with fail
      refine (few_z _ cs HM.out _ H.out).mono ?_
      rintro e w1 ⟨rfl, rfl⟩
      rw [HF.out]
      go_wp2_with fail
      refine (New_m 128 (by decide) _).mono ?_
      rintro e v1 ⟨m, B, rfl, hm, hbel, hft⟩
      have H1 := hid (fresh_mems (by omega) hm)
      have HB1 := hid hbel
      have HF1 := hid hft
      have HL1 := hid hm.foot_lt
      obtain ⟨M0, hM0⟩ : ∃ M0, M0 = freshM (List.replicate (128 / 8) 0) := ⟨_, rfl⟩
      rw [← hM0] at H1 HF1 HL1
      clear hM0 hm hbel hft
      go_wp2_with fail
      refine (Load_p m B M0 0 _ H1.out).mono ?_
      rintro e v2 ⟨⟨x, rfl⟩, M1, h2, h3⟩
      have H2 := hid h2
      have H3 := hid h3
      clear h2 h3
      go_wp2_with fail
      obtain ⟨lb, hsl, hlb⟩ := H.out.at_ HF.out w.heap.size
      have hmf : m ∈ footM m B M0 := by simp [footM]
      have hlt : w.heap.size < v1.heap.size := Nat.lt_trans (HF1.out m hmf) (HL1.out m hmf)
      have hlb1 : lb ≤ w.heap.size := by omega
      have hlb0 : lb ∉ footM m B M0 := fun hc => by have := HF1.out lb hc; omega
      have hF1 : ∀ k ∈ footM m B M1, w.heap.size < k := fun k hk => by
        rcases H3.out.foot k hk with h | h
        · exact HF1.out k h
        · omega
      have hlt2 : w.heap.size < v2.heap.size := Nat.lt_of_lt_of_le hlt H3.out.only.size
      have ho : Only [] v2 (v2.alloc (.cells #[ptrV m, .slice ao0 n0 cap0, .int .i64 0] 35)) := (Only.refl _ _).alloc _
      have s2 := (((hsl.bel' HB1.out).only H3.out.only hlb0).only ho (by simp))
      have RA := hid (show RunOK (v2.alloc (.cells #[ptrV m, .slice ao0 n0 cap0, .int .i64 0] 35)) v2.heap.size m B M1 1 (.slice ao0 n0 cap0) (cs.map toT) lb 0 from
        ⟨Blk.new v2 _ _, H2.out.only ho (fun _ _ h => by cases h), s2, fun hc => by have := H2.out.is.foot_lt _ hc; omega, fun hc => by have := hF1 lb hc; omega, by omega, by simp; omega⟩)
      have hb2 : Below w.heap.size w v2 := HB1.out.trans (H3.out.only.below (fun x hx => Nat.le_of_lt (HF1.out x hx)) (Nat.le_of_lt hlt))
      have HBW := hid (ba hb2 (.cells #[ptrV m, .slice ao0 n0 cap0, .int .i64 0] 35))
      have HFF := hid hF1
      have HLT := hid hlt2
      have hlc : (cs.map toT).length ≤ 1000 := by have := (fewS_ok HF.out).1; simp; omega
      clear hsl hlb hmf hlt hlb1 hlb0 hF1 ho s2 hb2 hlt2
      refine (Whole_z v2.heap.size m B M1 1 _ (cs.map toT) lb most (by omega) hlc (by omega) (toT_did HF.out) _ RA.out).mono ?_
      rintro e w3 ⟨rfl, M2, K2, hK2, hR2, hO2, hF2, _⟩
      obtain ⟨p, hp⟩ : ∃ p, p = wholeS (cs.map toT) most := ⟨_, rfl⟩
      rw [← hp] at hR2 ⊢
      obtain ⟨wn, wo, we⟩ := p
      have HP := hid hp
      have R2 := hid hR2
      have O2 := hid hO2
      clear hR2 hO2 hF2 hp
      go_wp2_with fail
      refine (RWhole_z _ (cs.map toT) lb most (by omega) hlc _ R2.out.steps).mono ?_
      rintro e w4 ⟨rfl, hb4⟩
      rw [← HP.out]
      have y1 : w4.cell? ⟨v2.heap.size, 2, none⟩ = some (.int .i64 (wn : Int)) := (R2.out.blk.bel hb4).cell 2
      have HB4 := hid hb4
      clear hb4 hlc
      cases wo <;>
      · go_wp2_with fail
        refine (known_z13 _).mono ?_
        rintro e w5 ⟨rfl, hb5⟩
        have HB5 := hid hb5
        clear hb5 y1
        go_wp2
        go_ret
        refine ⟨rfl, ?_⟩
        have h1 : Below w.heap.size (v2.alloc (.cells #[ptrV m, .slice ao0 n0 cap0, .int .i64 0] 35)) w3 := O2.out.below (fun x hx => by
          rcases List.mem_cons.1 hx with rfl | h
          · exact Nat.le_of_lt HLT.out
          · exact Nat.le_of_lt (HFF.out x h)) HBW.out.size
        have s1 := Nat.le_trans HBW.out.size O2.out.size
        exact ((HBW.out.trans h1).trans (HB4.out.mono s1)).trans (HB5.out.mono (Nat.le_trans s1 HB4.out.size))

end Go.Proofs.Ytdhnacajgmjmlaa
