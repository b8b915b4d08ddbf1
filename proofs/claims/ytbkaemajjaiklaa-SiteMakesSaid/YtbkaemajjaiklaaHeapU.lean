/- heap.up over a row of addresses. -/
import Derived.Test.YtbkaemajjaiklaaMeth
namespace Go.Proofs.Ytbkaemajjaiklaa
open Go.RowKit
set_option linter.unusedVariables false
set_option linter.unusedSimpArgs false

def at0 (xs : List Int) (i : Nat) : Int := (xs[i]?).getD 0
def swapL (xs : List Int) (i j : Nat) : List Int := (xs.set i (at0 xs j)).set j (at0 xs i)
def upF : Nat → List Int → Nat → List Int
  | 0, xs, _ => xs
  | f + 1, xs, j => if j = 0 then xs else if at0 xs j < at0 xs ((j - 1) / 2) then upF f (swapL xs ((j - 1) / 2) j) ((j - 1) / 2) else xs
theorem at0_some {xs : List Int} {i : Nat} (h : i < xs.length) : xs[i]? = some (at0 xs i) := by simp [at0, h]
theorem swapL_length (xs : List Int) (i j : Nat) : (swapL xs i j).length = xs.length := by simp [swapL]

set_option maxRecDepth 100000 in
set_option maxHeartbeats 1000000 in
theorem up_z (f g cap : Nat) (xs : List Int) (j0 : Nat) (hj : j0 < xs.length) (hx : xs.length ≤ 1000000) (hfg : f ≠ g) (w : World) (hf : w.cell? ⟨f, 0, none⟩ = some (.slice (some ⟨g, 0, none⟩) xs.length cap)) (hfl : f < w.heap.size) (h : AddrRow w g cap xs) :
    Calls Try.prog 107 #[.iface 145 (.pointer (some ⟨f, 0, none⟩)), .int .i64 (j0 : Int)] w fun e w' => (∃ v, e = .returned v) ∧ AddrRow w' g cap (upF xs.length xs j0) ∧ Only [g] w w' := by
  obtain ⟨n, hn⟩ : ∃ n, n = xs.length := ⟨_, rfl⟩
  rw [← hn] at hf hj hx ⊢
  have HN := hid hn
  have HF := hid hf
  have H := hid h
  clear hn hf h
  go_enter Try.func107, Try.ntmps107
  go_wp2
  go_loopw [1] (fun i wr => ∃ (k fu : Nat) (ys : List Int), k < n ∧ k ≤ fu ∧ i = .int .i64 k ∧ ys.length = n ∧ Hid (AddrRow wr g cap ys) ∧ Hid (Only [g] w wr) ∧ Hid (upF fu ys k = upF n xs j0)) (fun i _ => (intOf i).toNat)
  case atStart => exact ⟨j0, n, xs, hj, by omega, rfl, HN.out.symm, H.out, Only.refl _ _, rfl⟩
  case round =>
    obtain ⟨k, fu, ys, hk, hfu, rfl, hyl, hR, hO, hU⟩ := hrel
    have yf : wr.cell? ⟨f, 0, none⟩ = some (.slice (some ⟨g, 0, none⟩) n cap) := (hO.out.cell (p := ⟨f, 0, none⟩) hfl (by simpa using hfg)).trans HF.out
    have HYL := hid hyl
    clear hyl
    by_cases hk0 : k = 0
    · subst hk0
      have hz : Hid (ys = upF n xs j0) := by
        show ys = upF n xs j0
        have := hU.out
        cases fu with
        | zero => exact this
        | succ fu => simpa [upF] using this
      go_wp2
      go_end0
      rw [hz.out] at hR
      first | exact ⟨⟨_, rfl⟩, hR.out, hO.out⟩ | exact ⟨hR.out, hO.out⟩
    · obtain ⟨i, hi⟩ : ∃ i, i = (k - 1) / 2 := ⟨_, rfl⟩
      have hi2 : ((k : Int) - 1).tdiv 2 = (i : Int) := by
        obtain ⟨q, rfl⟩ : ∃ q, k = q + 1 := ⟨k - 1, by omega⟩
        rw [show ((q + 1 : Nat) : Int) - 1 = (q : Int) by simp, Int.tdiv_eq_ediv_of_nonneg (by omega)]
        omega
      have hi3 : ((k : Int) - 1) / 2 = (i : Int) := by omega
      have hne : ((i : Int) == (k : Int)) = false := by simp; omega
      have hik : i < k := by omega
      have HI := hid hi
      have mL := mLess f _ n cap wr yf
      have j1 : (1 : Int) ≤ (k : Int) := by omega
      clear hi
      obtain ⟨a, ha⟩ : ∃ a, a = at0 ys k := ⟨_, rfl⟩
      obtain ⟨b, hb⟩ : ∃ b, b = at0 ys i := ⟨_, rfl⟩
      have hL := aLess_z g cap ys k i a b (by rw [ha]; exact at0_some (by rw [HYL.out]; exact hk)) (by rw [hb]; exact at0_some (by rw [HYL.out]; omega)) wr hR.out
      rw [HYL.out] at hL
      have HL := hid hL
      have HA := hid ha
      have HB := hid hb
      clear hL ha hb
      go_wp2_with fail
      refine HL.out.mono ?_
      rintro e w2 ⟨rfl, hb2⟩
      have R2 : Hid (AddrRow w2 g cap ys) := hR.out.only (Only.of_below hb2 []) (by simp)
      have O2 : Hid (Only [g] w w2) := hO.out.trans (Only.of_below hb2 []) (fun x hx => by cases hx)
      have yf2 : w2.cell? ⟨f, 0, none⟩ = some (.slice (some ⟨g, 0, none⟩) n cap) := ck yf hb2
      have mS := mSwap f _ n cap w2 yf2
      clear hb2 yf mL hO hR
      obtain ⟨fu, rfl⟩ : ∃ fu', fu = fu' + 1 := ⟨fu - 1, by omega⟩
      by_cases hab : a < b
      · have hS := aSwap_z g cap ys i k b a (by rw [HB.out]; exact at0_some (by rw [HYL.out]; omega)) (by rw [HA.out]; exact at0_some (by rw [HYL.out]; exact hk)) w2 R2.out
        rw [HYL.out] at hS
        have HS := hid hS
        clear hS
        rw [decide_eq_true hab]
        go_wp2_with fail
        refine HS.out.mono ?_
        rintro e w3 ⟨⟨v, rfl⟩, hR3, hO3⟩
        have R3 := hid hR3
        have O3 := hid (O2.out.trans hO3 (fun x hx => Or.inl hx))
        have HU3 : Hid (upF fu ((ys.set i a).set k b) i = upF n xs j0) := by
          show upF fu ((ys.set i a).set k b) i = upF n xs j0
          have := hU.out
          simp only [upF] at this
          rw [if_neg hk0, ← HI.out, ← HA.out, ← HB.out, if_pos hab] at this
          rw [← this]
          unfold swapL
          rw [← HA.out, ← HB.out]
        clear hR3 hO3 mS yf2
        go_wp2
        go_roundw
        case rel => exact ⟨i, fu, _, by omega, by omega, rfl, by simp [HYL.out], R3.out, O3.out, HU3.out⟩
        case measure => simp [intOf]; omega
      · have hz : Hid (ys = upF n xs j0) := by
          show ys = upF n xs j0
          have := hU.out
          simp only [upF] at this
          rw [if_neg hk0, ← HI.out, ← HA.out, ← HB.out, if_neg hab] at this
          exact this
        rw [decide_eq_false hab]
        go_wp2
        go_end0
        have R3 := R2.out
        rw [hz.out] at R3
        first | exact ⟨⟨_, rfl⟩, R3, O2.out⟩ | exact ⟨R3, O2.out⟩

end Go.Proofs.Ytbkaemajjaiklaa
