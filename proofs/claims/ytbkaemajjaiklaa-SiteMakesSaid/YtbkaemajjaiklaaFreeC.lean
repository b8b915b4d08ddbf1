/- heap.Push over a row of addresses. -/
import Derived.Test.YtbkaemajjaiklaaFreeB
namespace Go.Proofs.Ytbkaemajjaiklaa
open Go.RowKit
set_option linter.unusedVariables false
set_option linter.unusedSimpArgs false

theorem upF_length : ∀ (f : Nat) (xs : List Int) (j : Nat), (upF f xs j).length = xs.length
  | 0, xs, j => rfl
  | f + 1, xs, j => by
    unfold upF
    split
    · rfl
    · split
      · rw [upF_length f, swapL_length]
      · rfl
/-- a row that is there -/
theorem FreeRow.some_ {w : World} {f : Nat} {v : Value} {xs : List Int} (h : FreeRow w f v xs) (hx : xs ≠ []) : ∃ g cap, v = .slice (some ⟨g, 0, none⟩) xs.length cap ∧ AddrRow w g cap xs ∧ f ≠ g := by
  obtain ⟨_, h1 | ⟨g, cap, h1, _, h2⟩⟩ := AddrRow.of_own h.row
  · exact absurd h1.2 hx
  · refine ⟨g, cap, h1, h2, fun e => h.far ?_⟩
    rw [h1, e]; rfl

set_option maxRecDepth 100000 in
set_option maxHeartbeats 1000000 in
theorem hPush_z (f : Nat) (v : Value) (xs : List Int) (x : Int) (hx : xs.length ≤ 100000) (w : World) (h : FreeRow w f v xs) :
    Calls Try.prog 102 #[.iface 145 (.pointer (some ⟨f, 0, none⟩)), .iface 47 (.int .u64 x)] w fun e w' => (∃ r, e = .returned r) ∧ ∃ v', FreeRow w' f v' (upF (xs.length + 1) (xs ++ [x]) xs.length) ∧ Only (f :: v.ownBlock.toList) w w' ∧ (v'.ownBlock = v.ownBlock ∨ ∃ g, v'.ownBlock = some g ∧ w.heap.size ≤ g) := by
  have mP := mPush (.pointer (some ⟨f, 0, none⟩)) w
  obtain ⟨n, hn⟩ : ∃ n, n = xs.length := ⟨_, rfl⟩
  rw [← hn] at hx ⊢
  have HN := hid hn
  have H := hid h
  clear hn h
  go_enter Try.func102, Try.ntmps102
  go_wp2_with fail
  refine (aPush_z f v xs x (by have := HN.out; omega) w H.out).mono ?_
  rintro e w1 ⟨⟨r, rfl⟩, v', h1, hO, hob⟩
  obtain ⟨g, cap, hv, hA, hfg⟩ := h1.some_ (by simp)
  have hl : (xs ++ [x]).length = n + 1 := by rw [List.length_append, ← HN.out]; rfl
  rw [hl] at hv
  obtain ⟨t, hb⟩ := h1.blk
  have y1 : w1.cell? ⟨f, 0, none⟩ = some (.slice (some ⟨g, 0, none⟩) (n + 1) cap) := by rw [← hv]; exact hb.cell 0
  have mL := mLen f _ (n + 1) cap w1 y1
  have HA := hid hA
  have HB := hid hb
  have HO := hid hO
  have HOB := hid hob
  have H1 := hid h1
  have HV := hid hv
  have hfl := hb.lt
  clear hA hb hO hob h1 hv mP
  go_wp2_with fail
  refine (aLen_z (some ⟨g, 0, none⟩) (n + 1) cap w1).mono ?_
  rintro e w2 ⟨rfl, rfl⟩
  have hU := up_z f g cap (xs ++ [x]) n (by rw [hl]; omega) (by rw [hl]; omega) hfg w1 (by rw [hl]; exact y1) hfl HA.out
  have HU := hid hU
  have HL := hid hl
  clear hU hl
  go_wp2_with fail
  refine HU.out.mono ?_
  rintro e w3 ⟨⟨r3, rfl⟩, hA3, hO3⟩
  have H3 := hid (⟨hA3, hO3⟩ : _ ∧ _)
  clear hA3 hO3 mL y1
  go_wp2
  go_end0
  have hA3 := H3.out.1
  rw [HL.out] at hA3
  have hlen : (upF (n + 1) (xs ++ [x]) n).length = n + 1 := by rw [upF_length, HL.out]
  have hown := hA3.own
  refine ⟨⟨_, rfl⟩, v', ⟨⟨t, H3.out.2.blk HB.out (by simpa using hfg)⟩, ?_, H1.out.far⟩, ?_, HOB.out⟩
  · rw [hlen] at hown ⊢
    rw [HV.out]; exact hown
  · refine HO.out.trans H3.out.2 (fun y hy => ?_)
    simp at hy; subst hy
    rcases HOB.out with h | ⟨g', h, hg'⟩
    · refine Or.inl ?_
      rw [HV.out] at h
      have : v.ownBlock = some y := h.symm
      simp [this]
    · rw [HV.out] at h
      have : y = g' := by simpa [Value.ownBlock] using h
      exact Or.inr (by omega)

end Go.Proofs.Ytbkaemajjaiklaa
