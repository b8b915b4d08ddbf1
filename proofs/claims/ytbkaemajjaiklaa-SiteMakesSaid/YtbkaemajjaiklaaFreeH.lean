/- Free.Has, Free.Drop over any set of addresses. -/
import Derived.Test.YtbkaemajjaiklaaFreeG
namespace Go.Proofs.Ytbkaemajjaiklaa
open Go.RowKit
set_option linter.unusedVariables false
set_option linter.unusedSimpArgs false

set_option maxRecDepth 100000 in
theorem has_any (f : Nat) (v : Value) (xs : List Int) (a : Int) (hx : xs.length ≤ 1000000) (w : World) (h : FreeRow w f v xs) :
    Calls Try.prog 101 #[.pointer (some ⟨f, 0, none⟩), .int .u64 a] w fun e w' => e = .returned (.bool (decide (a ∈ xs))) ∧ Below w.heap.size w w' := by
  have hP := place_any f v xs a hx w h
  have HP := hid hP
  have hd : decide (0 ≤ idxA xs a) = decide (a ∈ xs) := by
    unfold idxA
    by_cases hm : a ∈ xs
    · rw [if_pos hm]; simp [hm]
    · rw [if_neg hm]; simp [hm]
  have HD := hid hd
  clear hP h hd
  go_enter Try.func101, Try.ntmps101
  go_wp2_with fail
  refine HP.out.mono ?_
  rintro e w2 ⟨rfl, hb⟩
  go_wp2
  go_ret
  refine ⟨?_, hb⟩
  rw [← HD.out]; rfl

theorem FreeRow.only {fs : List Nat} {w w' : World} {f : Nat} {v : Value} {xs : List Int} (h : FreeRow w f v xs) (ho : Only fs w w') (hf : f ∉ fs) (hv : ∀ g, v.ownBlock = some g → g ∉ fs) : FreeRow w' f v xs := by
  obtain ⟨t, hb⟩ := h.blk
  refine ⟨⟨t, ho.blk hb hf⟩, ?_, h.far⟩
  obtain ⟨_, h1 | ⟨g, cap, h1, _, h2⟩⟩ := AddrRow.of_own h.row
  · obtain ⟨rfl, rfl⟩ := h1
    exact ⟨by simp, Or.inl ⟨rfl, rfl⟩⟩
  · have := (h2.only ho (hv g (by rw [h1]; rfl))).own
    rw [h1]; exact this

/-- the row as Drop leaves it -/
def dropA (xs : List Int) (a : Int) : List Int := if a ∈ xs then (remL xs (xs.idxOf a)).dropLast else xs

set_option maxRecDepth 100000 in
set_option maxHeartbeats 1000000 in
theorem FDrop_z (f : Nat) (v : Value) (xs : List Int) (a : Int) (hx : xs.length ≤ 100000) (w : World) (h : FreeRow w f v xs) :
    Calls Try.prog 41 #[.pointer (some ⟨f, 0, none⟩), .int .u64 a] w fun e w' => e = .returned (.bool (decide (a ∈ xs))) ∧ ∃ v', FreeRow w' f v' (dropA xs a) ∧ Only (f :: v.ownBlock.toList) w w' ∧ v'.ownBlock = v.ownBlock := by
  have hP := place_any f v xs a (by omega) w h
  have HP := hid hP
  have H := hid h
  clear hP h
  by_cases hm : a ∈ xs
  · obtain ⟨t, hb⟩ := H.out.blk
    obtain ⟨g, cap, hv, hA, hfg⟩ := H.out.some_ (by intro e; rw [e] at hm; cases hm)
    obtain ⟨n, hn⟩ : ∃ n, xs.length = n + 1 := ⟨xs.length - 1, by have := List.length_pos_of_mem hm; omega⟩
    obtain ⟨i, hi⟩ : ∃ i, i = xs.idxOf a := ⟨_, rfl⟩
    have hin : i < xs.length := by rw [hi]; exact List.idxOf_lt_length_iff.2 hm
    have hix : idxA xs a = (i : Int) := by unfold idxA; rw [if_pos hm, hi]
    rw [hix] at HP
    have hdr : dropA xs a = (remL xs i).dropLast := by unfold dropA; rw [if_pos hm, hi]
    rw [hdr, show decide (a ∈ xs) = true by simp [hm]]
    have hlen : (remL xs i).dropLast.length = n := by simp [remL_length, hn]
    have R : ∀ w2, Below w.heap.size w w2 → Calls Try.prog 77 #[.iface 145 (.pointer (some ⟨f, 0, none⟩)), .int .i64 (i : Int)] w2 fun e w' => (∃ r, e = .returned r) ∧ FreeRow w' f (.slice (some ⟨g, 0, none⟩) n cap) (remL xs i).dropLast ∧ Only (f :: v.ownBlock.toList) w w' := by
      intro w2 hb2
      have b2 : Blk w2 f t #[.slice (some ⟨g, 0, none⟩) (n + 1) cap] := by
        have := (Only.of_below hb2 []).blk hb (by simp)
        rw [hv, hn] at this; exact this
      have a2 := hA.only (Only.of_below hb2 []) (by simp)
      refine (hRemove_z f g cap n t xs i hn (by omega) (by omega) hfg w2 b2 a2).mono ?_
      rintro e w3 ⟨h1, h2, h3, h4⟩
      refine ⟨h1, ⟨⟨t, h2⟩, ?_, ?_⟩, ?_⟩
      · have := h3.own
        rw [hlen] at this ⊢; exact this
      · intro e; exact hfg (by simpa using (Option.some.inj e).symm)
      · refine (Only.of_below hb2 (f :: v.ownBlock.toList)).trans h4 (fun y hy => ?_)
        have hy' : y = f ∨ y = g := by simpa using hy
        refine Or.inl ?_
        rcases hy' with e | e
        · subst e; exact List.mem_cons_self ..
        · subst e; rw [hv]; exact List.mem_cons_of_mem _ (by simp [Value.ownBlock])
    have i1 : ((i : Int) < 0) = False := by simp
    have HR := hid R
    have HV := hid hv
    clear hb hA hv hix hdr R hi hm
    go_enter Try.func41, Try.ntmps41
    go_wp2_with fail
    refine HP.out.mono ?_
    rintro e w2 ⟨rfl, hb2⟩
    go_wp2_with fail
    refine (HR.out w2 hb2).mono ?_
    rintro e w3 ⟨⟨r, rfl⟩, h1, h2⟩
    go_wp2
    go_ret
    exact ⟨rfl, _, h1, h2, by rw [HV.out]; rfl⟩
  · have hi : idxA xs a = -1 := by unfold idxA; rw [if_neg hm]
    rw [hi] at HP
    have hdr : dropA xs a = xs := by unfold dropA; rw [if_neg hm]
    rw [hdr, show decide (a ∈ xs) = false by simp [hm]]
    clear hi hdr
    go_enter Try.func41, Try.ntmps41
    go_wp2_with fail
    refine HP.out.mono ?_
    rintro e w2 ⟨rfl, hb⟩
    go_wp2
    go_ret
    exact ⟨rfl, v, H.out.only (Only.of_below hb []) (by simp) (by simp), (Only.of_below hb []).mono (by simp), rfl⟩

end Go.Proofs.Ytbkaemajjaiklaa
