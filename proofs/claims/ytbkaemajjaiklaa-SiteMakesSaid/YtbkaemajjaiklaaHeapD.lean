/- heap.down over a row of addresses. -/
import Derived.Test.YtbkaemajjaiklaaHeapU
namespace Go.Proofs.Ytbkaemajjaiklaa
open Go.RowKit
set_option linter.unusedVariables false
set_option linter.unusedSimpArgs false

def pickD (xs : List Int) (n i : Nat) : Nat := if 2 * i + 2 < n ∧ at0 xs (2 * i + 2) < at0 xs (2 * i + 1) then 2 * i + 2 else 2 * i + 1
def downF : Nat → List Int → Nat → Nat → List Int × Nat
  | 0, xs, _, i => (xs, i)
  | f + 1, xs, n, i => if n ≤ 2 * i + 1 then (xs, i) else if at0 xs (pickD xs n i) < at0 xs i then downF f (swapL xs i (pickD xs n i)) n (pickD xs n i) else (xs, i)
theorem pickD_lt {xs : List Int} {n i : Nat} (h : ¬ n ≤ 2 * i + 1) : pickD xs n i < n ∧ i < pickD xs n i := by
  unfold pickD
  split <;> omega
theorem downF_length : ∀ (f : Nat) (xs : List Int) (n i : Nat), (downF f xs n i).1.length = xs.length
  | 0, _, _, _ => rfl
  | f + 1, xs, n, i => by
    simp only [downF]
    split
    · rfl
    · split
      · rw [downF_length f, swapL_length]
      · rfl

set_option maxRecDepth 100000 in
set_option maxHeartbeats 1000000 in
theorem down_z (f g cap n : Nat) (xs : List Int) (i0 : Nat) (hi0 : i0 ≤ n) (hn : n ≤ xs.length) (hx : xs.length ≤ 1000000) (hfg : f ≠ g) (w : World) (hf : w.cell? ⟨f, 0, none⟩ = some (.slice (some ⟨g, 0, none⟩) xs.length cap)) (hfl : f < w.heap.size) (h : AddrRow w g cap xs) :
    Calls Try.prog 106 #[.iface 145 (.pointer (some ⟨f, 0, none⟩)), .int .i64 (i0 : Int), .int .i64 (n : Int)] w fun e w' => e = .returned (.bool (decide (i0 < (downF n xs n i0).2))) ∧ AddrRow w' g cap (downF n xs n i0).1 ∧ Only [g] w w' := by
  obtain ⟨m, hm⟩ : ∃ m, m = xs.length := ⟨_, rfl⟩
  rw [← hm] at hf hn hx
  have HM := hid hm
  have HF := hid hf
  have H := hid h
  clear hm hf h
  go_enter Try.func106, Try.ntmps106
  go_wp2
  go_loopw [7] (fun i wr => ∃ (k fu : Nat) (ys : List Int), k ≤ n ∧ n ≤ k + fu ∧ i = .int .i64 k ∧ ys.length = m ∧ Hid (AddrRow wr g cap ys) ∧ Hid (Only [g] w wr) ∧ Hid (downF fu ys n k = downF n xs n i0)) (fun i _ => n - (intOf i).toNat)
  case atStart => exact ⟨i0, n, xs, hi0, by omega, rfl, HM.out.symm, H.out, Only.refl _ _, rfl⟩
  case round =>
    obtain ⟨k, fu, ys, hk, hfu, rfl, hyl, hR, hO, hU⟩ := hrel
    have yf : wr.cell? ⟨f, 0, none⟩ = some (.slice (some ⟨g, 0, none⟩) m cap) := (hO.out.cell (p := ⟨f, 0, none⟩) hfl (by simpa using hfg)).trans HF.out
    have HYL := hid hyl
    clear hyl
    by_cases hk0 : n ≤ 2 * k + 1
    · have hz : Hid ((ys, k) = downF n xs n i0) := by
        show (ys, k) = downF n xs n i0
        have := hU.out
        cases fu with
        | zero => exact this
        | succ fu => simpa [downF, hk0] using this
      have t1 : decide ((n : Int) ≤ 2 * (k : Int) + 1) = true := by simp; omega
      go_wp2
      go_ret
      have R9 := hR.out
      have z1 : (downF n xs n i0).1 = ys := by rw [← hz.out]
      have z2 : (downF n xs n i0).2 = k := by rw [← hz.out]
      rw [z1, z2]
      exact ⟨rfl, R9, hO.out⟩
    · obtain ⟨fu, rfl⟩ : ∃ fu', fu = fu' + 1 := ⟨fu - 1, by omega⟩
      have t1 : decide ((n : Int) ≤ 2 * (k : Int) + 1) = false := by simp; omega
      have t2 : decide (2 * (k : Int) + 1 < 0) = false := by simp; omega
      obtain ⟨a, ha⟩ : ∃ a, a = at0 ys k := ⟨_, rfl⟩
      have HA := hid ha
      clear ha
      have e1 : ((2 * k + 1 : Nat) : Int) = 2 * (k : Int) + 1 := by omega
      have e2 : ((2 * k + 2 : Nat) : Int) = 2 * (k : Int) + 1 + 1 := by omega
      by_cases h2 : 2 * k + 2 < n
      · have t3 : decide (2 * (k : Int) + 1 + 1 < (n : Int)) = true := by simp; omega
        have mL := mLess f _ m cap wr yf
        obtain ⟨c, hc⟩ : ∃ c, c = at0 ys (2 * k + 2) := ⟨_, rfl⟩
        obtain ⟨d, hd⟩ : ∃ d, d = at0 ys (2 * k + 1) := ⟨_, rfl⟩
        have hL := aLess_z g cap ys (2 * k + 2) (2 * k + 1) c d (by rw [hc]; exact at0_some (by rw [HYL.out]; omega)) (by rw [hd]; exact at0_some (by rw [HYL.out]; omega)) wr hR.out
        rw [HYL.out, e1, e2] at hL
        have HL := hid hL
        have HC := hid hc
        have HD := hid hd
        clear hL hc hd
        go_wp2_with fail
        refine HL.out.mono ?_
        rintro e w2 ⟨rfl, hb2⟩
        have R2 : Hid (AddrRow w2 g cap ys) := hR.out.only (Only.of_below hb2 []) (by simp)
        have O2 : Hid (Only [g] w w2) := hO.out.trans (Only.of_below hb2 []) (fun x hx => by cases hx)
        have yf2 : w2.cell? ⟨f, 0, none⟩ = some (.slice (some ⟨g, 0, none⟩) m cap) := ck yf hb2
        clear hb2 mL yf hO hR
        by_cases hcd : c < d
        · have HPK : Hid (pickD ys n k = 2 * k + 2) := by
            show pickD ys n k = 2 * k + 2
            unfold pickD
            rw [← HC.out, ← HD.out, if_pos ⟨h2, hcd⟩]
          rw [decide_eq_true hcd]
          have mL2 := mLess f _ m cap w2 yf2
          have mS2 := mSwap f _ m cap w2 yf2
          obtain ⟨b, hb⟩ : ∃ b, b = at0 ys (2 * k + 2) := ⟨_, rfl⟩
          have hL2 := aLess_z g cap ys (2 * k + 2) k b a (by rw [hb]; exact at0_some (by rw [HYL.out]; omega)) (by rw [HA.out]; exact at0_some (by rw [HYL.out]; omega)) w2 R2.out
          rw [HYL.out] at hL2
          have HL2 := hid hL2
          have HB := hid hb
          clear hL2 hb
          by_cases hab : b < a
          · rw [decide_eq_true hab] at HL2
            rw [e2] at HL2
            go_wp2_with fail
            refine HL2.out.mono ?_
            rintro e w5 ⟨rfl, hb5⟩
            have R5 : Hid (AddrRow w5 g cap ys) := R2.out.only (Only.of_below hb5 []) (by simp)
            have O5 : Hid (Only [g] w w5) := O2.out.trans (Only.of_below hb5 []) (fun x hx => by cases hx)
            have yf5 : w5.cell? ⟨f, 0, none⟩ = some (.slice (some ⟨g, 0, none⟩) m cap) := ck yf2 hb5
            have mS5 := mSwap f _ m cap w5 yf5
            clear hb5 mL2 mS2
            have hS := aSwap_z g cap ys k (2 * k + 2) a b (by rw [HA.out]; exact at0_some (by rw [HYL.out]; omega)) (by rw [HB.out]; exact at0_some (by rw [HYL.out]; omega)) w5 R5.out
            rw [HYL.out] at hS
            have HS := hid hS
            clear hS
            go_wp2_with fail
            refine HS.out.mono ?_
            rintro e w6 ⟨⟨v, rfl⟩, hR6, hO6⟩
            have R6 := hid hR6
            have O6 := hid (O5.out.trans hO6 (fun x hx => Or.inl hx))
            have HU6 : Hid (downF fu ((ys.set k b).set (2 * k + 2) a) n (2 * k + 2) = downF n xs n i0) := by
              show downF fu ((ys.set k b).set (2 * k + 2) a) n (2 * k + 2) = downF n xs n i0
              have := hU.out
              simp only [downF] at this
              rw [if_neg hk0, HPK.out, ← HA.out, ← HB.out, if_pos hab] at this
              rw [← this]
              unfold swapL
              rw [← HA.out, ← HB.out]
            clear hR6 hO6 mS5 yf5
            go_wp2
            go_roundw
            case rel => exact ⟨2 * k + 2, fu, _, by omega, by omega, by first | (simp; omega) | simp, by simp [HYL.out], R6.out, O6.out, HU6.out⟩
            case measure => simp [intOf]; omega
          · rw [decide_eq_false hab] at HL2
            have hz : Hid ((ys, k) = downF n xs n i0) := by
              show (ys, k) = downF n xs n i0
              have := hU.out
              simp only [downF] at this
              rw [if_neg hk0, HPK.out, ← HA.out, ← HB.out, if_neg hab] at this
              exact this
            rw [e2] at HL2
            go_wp2_with fail
            refine HL2.out.mono ?_
            rintro e w5 ⟨rfl, hb5⟩
            have R5 : Hid (AddrRow w5 g cap ys) := R2.out.only (Only.of_below hb5 []) (by simp)
            have O5 : Hid (Only [g] w w5) := O2.out.trans (Only.of_below hb5 []) (fun x hx => by cases hx)
            clear hb5 mL2 mS2
            go_wp2
            go_ret
            have R9 := R5.out
            have z1 : (downF n xs n i0).1 = ys := by rw [← hz.out]
            have z2 : (downF n xs n i0).2 = k := by rw [← hz.out]
            rw [z1, z2]
            exact ⟨rfl, R9, O5.out⟩
        · have HPK : Hid (pickD ys n k = 2 * k + 1) := by
            show pickD ys n k = 2 * k + 1
            unfold pickD
            rw [← HC.out, ← HD.out, if_neg (fun h => hcd h.2)]
          rw [decide_eq_false hcd]
          have mL2 := mLess f _ m cap w2 yf2
          have mS2 := mSwap f _ m cap w2 yf2
          obtain ⟨b, hb⟩ : ∃ b, b = at0 ys (2 * k + 1) := ⟨_, rfl⟩
          have hL2 := aLess_z g cap ys (2 * k + 1) k b a (by rw [hb]; exact at0_some (by rw [HYL.out]; omega)) (by rw [HA.out]; exact at0_some (by rw [HYL.out]; omega)) w2 R2.out
          rw [HYL.out] at hL2
          have HL2 := hid hL2
          have HB := hid hb
          clear hL2 hb
          by_cases hab : b < a
          · rw [decide_eq_true hab] at HL2
            rw [e1] at HL2
            go_wp2_with fail
            refine HL2.out.mono ?_
            rintro e w5 ⟨rfl, hb5⟩
            have R5 : Hid (AddrRow w5 g cap ys) := R2.out.only (Only.of_below hb5 []) (by simp)
            have O5 : Hid (Only [g] w w5) := O2.out.trans (Only.of_below hb5 []) (fun x hx => by cases hx)
            have yf5 : w5.cell? ⟨f, 0, none⟩ = some (.slice (some ⟨g, 0, none⟩) m cap) := ck yf2 hb5
            have mS5 := mSwap f _ m cap w5 yf5
            clear hb5 mL2 mS2
            have hS := aSwap_z g cap ys k (2 * k + 1) a b (by rw [HA.out]; exact at0_some (by rw [HYL.out]; omega)) (by rw [HB.out]; exact at0_some (by rw [HYL.out]; omega)) w5 R5.out
            rw [HYL.out] at hS
            have HS := hid hS
            clear hS
            go_wp2_with fail
            refine HS.out.mono ?_
            rintro e w6 ⟨⟨v, rfl⟩, hR6, hO6⟩
            have R6 := hid hR6
            have O6 := hid (O5.out.trans hO6 (fun x hx => Or.inl hx))
            have HU6 : Hid (downF fu ((ys.set k b).set (2 * k + 1) a) n (2 * k + 1) = downF n xs n i0) := by
              show downF fu ((ys.set k b).set (2 * k + 1) a) n (2 * k + 1) = downF n xs n i0
              have := hU.out
              simp only [downF] at this
              rw [if_neg hk0, HPK.out, ← HA.out, ← HB.out, if_pos hab] at this
              rw [← this]
              unfold swapL
              rw [← HA.out, ← HB.out]
            clear hR6 hO6 mS5 yf5
            go_wp2
            go_roundw
            case rel => exact ⟨2 * k + 1, fu, _, by omega, by omega, by first | (simp; omega) | simp, by simp [HYL.out], R6.out, O6.out, HU6.out⟩
            case measure => simp [intOf]; omega
          · rw [decide_eq_false hab] at HL2
            have hz : Hid ((ys, k) = downF n xs n i0) := by
              show (ys, k) = downF n xs n i0
              have := hU.out
              simp only [downF] at this
              rw [if_neg hk0, HPK.out, ← HA.out, ← HB.out, if_neg hab] at this
              exact this
            rw [e1] at HL2
            go_wp2_with fail
            refine HL2.out.mono ?_
            rintro e w5 ⟨rfl, hb5⟩
            have R5 : Hid (AddrRow w5 g cap ys) := R2.out.only (Only.of_below hb5 []) (by simp)
            have O5 : Hid (Only [g] w w5) := O2.out.trans (Only.of_below hb5 []) (fun x hx => by cases hx)
            clear hb5 mL2 mS2
            go_wp2
            go_ret
            have R9 := R5.out
            have z1 : (downF n xs n i0).1 = ys := by rw [← hz.out]
            have z2 : (downF n xs n i0).2 = k := by rw [← hz.out]
            rw [z1, z2]
            exact ⟨rfl, R9, O5.out⟩
      · have t3 : decide (2 * (k : Int) + 1 + 1 < (n : Int)) = false := by simp; omega
        have HPK : Hid (pickD ys n k = 2 * k + 1) := by
          show pickD ys n k = 2 * k + 1
          unfold pickD
          rw [if_neg (fun h => h2 h.1)]
        have mL2 := mLess f _ m cap wr yf
        have mS2 := mSwap f _ m cap wr yf
        obtain ⟨b, hb⟩ : ∃ b, b = at0 ys (2 * k + 1) := ⟨_, rfl⟩
        have hL2 := aLess_z g cap ys (2 * k + 1) k b a (by rw [hb]; exact at0_some (by rw [HYL.out]; omega)) (by rw [HA.out]; exact at0_some (by rw [HYL.out]; omega)) wr hR.out
        rw [HYL.out] at hL2
        have HL2 := hid hL2
        have HB := hid hb
        clear hL2 hb
        by_cases hab : b < a
        · rw [decide_eq_true hab] at HL2
          rw [e1] at HL2
          go_wp2_with fail
          refine HL2.out.mono ?_
          rintro e w5 ⟨rfl, hb5⟩
          have R5 : Hid (AddrRow w5 g cap ys) := hR.out.only (Only.of_below hb5 []) (by simp)
          have O5 : Hid (Only [g] w w5) := hO.out.trans (Only.of_below hb5 []) (fun x hx => by cases hx)
          have yf5 : w5.cell? ⟨f, 0, none⟩ = some (.slice (some ⟨g, 0, none⟩) m cap) := ck yf hb5
          have mS5 := mSwap f _ m cap w5 yf5
          clear hb5 mL2 mS2
          have hS := aSwap_z g cap ys k (2 * k + 1) a b (by rw [HA.out]; exact at0_some (by rw [HYL.out]; omega)) (by rw [HB.out]; exact at0_some (by rw [HYL.out]; omega)) w5 R5.out
          rw [HYL.out] at hS
          have HS := hid hS
          clear hS
          go_wp2_with fail
          refine HS.out.mono ?_
          rintro e w6 ⟨⟨v, rfl⟩, hR6, hO6⟩
          have R6 := hid hR6
          have O6 := hid (O5.out.trans hO6 (fun x hx => Or.inl hx))
          have HU6 : Hid (downF fu ((ys.set k b).set (2 * k + 1) a) n (2 * k + 1) = downF n xs n i0) := by
            show downF fu ((ys.set k b).set (2 * k + 1) a) n (2 * k + 1) = downF n xs n i0
            have := hU.out
            simp only [downF] at this
            rw [if_neg hk0, HPK.out, ← HA.out, ← HB.out, if_pos hab] at this
            rw [← this]
            unfold swapL
            rw [← HA.out, ← HB.out]
          clear hR6 hO6 mS5 yf5
          go_wp2
          go_roundw
          case rel => exact ⟨2 * k + 1, fu, _, by omega, by omega, by first | (simp; omega) | simp, by simp [HYL.out], R6.out, O6.out, HU6.out⟩
          case measure => simp [intOf]; omega
        · rw [decide_eq_false hab] at HL2
          have hz : Hid ((ys, k) = downF n xs n i0) := by
            show (ys, k) = downF n xs n i0
            have := hU.out
            simp only [downF] at this
            rw [if_neg hk0, HPK.out, ← HA.out, ← HB.out, if_neg hab] at this
            exact this
          rw [e1] at HL2
          go_wp2_with fail
          refine HL2.out.mono ?_
          rintro e w5 ⟨rfl, hb5⟩
          have R5 : Hid (AddrRow w5 g cap ys) := hR.out.only (Only.of_below hb5 []) (by simp)
          have O5 : Hid (Only [g] w w5) := hO.out.trans (Only.of_below hb5 []) (fun x hx => by cases hx)
          clear hb5 mL2 mS2
          go_wp2
          go_ret
          have R9 := R5.out
          have z1 : (downF n xs n i0).1 = ys := by rw [← hz.out]
          have z2 : (downF n xs n i0).2 = k := by rw [← hz.out]
          rw [z1, z2]
          exact ⟨rfl, R9, O5.out⟩

end Go.Proofs.Ytbkaemajjaiklaa
