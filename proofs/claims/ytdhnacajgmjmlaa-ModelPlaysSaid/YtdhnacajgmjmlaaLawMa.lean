/- ModelPlays. -/
import Derived.Test.YtdhnacajgmjmlaaKnown
namespace Go.Proofs.Ytdhnacajgmjmlaa
open Go.RowKit
set_option linter.unusedVariables false
set_option linter.unusedSimpArgs false

set_option maxRecDepth 100000 in
set_option maxHeartbeats 1000000 in
theorem ModelPlays_z (v0 : Value) (cs : List CallT) (w : World) (h : CallsAt w v0 cs) (hm : cs.length ≤ 9223372036854775807) :
    Calls Try.prog 7 #[v0] w fun e w' => e = .returned (.bool true) ∧ Below w.heap.size w w' := by
  have HH := hid h
  obtain ⟨ao, cap, hv, _⟩ := h
  subst hv
  obtain ⟨n, hn⟩ : ∃ n, n = cs.length := ⟨_, rfl⟩
  have HN := hid hn
  cases hf : fewB cs 60 with
  | false =>
    have HF := hid hf
    clear hf hn
    go_enter Try.func7, Try.ntmps7
    go_wp2_with fail
    refine (few_z _ cs 60 _ HH.out hm).mono ?_
    rintro e w1 ⟨rfl, rfl⟩
    rw [HF.out]
    go_wp2_with fail
    refine (known_z22 _).mono ?_
    rintro e w2 ⟨rfl, hb⟩
    have HB := hid hb
    clear hb
    go_wp2
    go_ret
    exact ⟨rfl, HB.out⟩
  | true =>
    have hle : cs.length ≤ 1000 := by have := fewB_t hf; omega
    have HF := hid hf
    clear hf hn
    go_enter Try.func7, Try.ntmps7
    go_wp2_with fail
    refine (few_z _ cs 60 _ HH.out hm).mono ?_
    rintro e w1 ⟨rfl, rfl⟩
    rw [HF.out]
    go_wp2_with fail
    refine (behind_z _ cs _ HH.out hle).mono ?_
    rintro e w2 ⟨m, v, r, u, L, rfl, hL, hB⟩
    have HB := hid hB
    clear hB
    go_wp2_with fail
    refine (known_z22 _).mono ?_
    rintro e w3 ⟨rfl, hb⟩
    have HB3 := hid (bx HB.out.bel hb)
    clear hb
    go_wp2
    go_ret
    exact ⟨rfl, HB3.out⟩

end Go.Proofs.Ytdhnacajgmjmlaa
