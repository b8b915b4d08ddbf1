/- Swapping up and down keeps what a row has; what was taken out is gone. Of no program. -/
import Derived.Test.YtbkaemajjaiklaaHeapR
namespace Go.Proofs.Ytbkaemajjaiklaa
open Go.RowKit
set_option linter.unusedVariables false
set_option linter.unusedSimpArgs false

theorem at0_get {xs : List Int} {i : Nat} (h : i < xs.length) : at0 xs i = xs[i] := by simp [at0, h]
theorem swapL_get_other {xs : List Int} {i j k : Nat} (h1 : k ≠ i) (h2 : k ≠ j) : (swapL xs i j)[k]? = xs[k]? := by
  unfold swapL
  rw [List.getElem?_set_ne (Ne.symm h2), List.getElem?_set_ne (Ne.symm h1)]
theorem swapL_last {xs : List Int} {i j : Nat} (hi : i < xs.length) (hj : j < xs.length) : (swapL xs i j)[j]? = some (at0 xs i) := by
  unfold swapL
  rw [List.getElem?_set_self (by simpa using hj)]
theorem swapL_perm {xs : List Int} {i j : Nat} (hi : i < xs.length) (hj : j < xs.length) : (swapL xs i j).Perm xs := by
  rw [List.perm_iff_count]
  intro x
  unfold swapL
  rw [at0_get hi, at0_get hj, List.count_set (by simpa using hj), List.count_set hi]
  have h1 : (xs.set i xs[j])[j]'(by simpa using hj) = xs[j] := by
    rw [List.getElem_set]; split <;> rfl
  rw [h1]
  have h2 : (if (xs[i] == x) = true then 1 else 0) ≤ xs.count x := by
    split
    · rename_i h
      have : xs[i] = x := by simpa using h
      exact List.count_pos_iff.2 (this ▸ List.getElem_mem hi)
    · omega
  omega
theorem upF_perm : ∀ (f : Nat) (xs : List Int) (j : Nat), j < xs.length → (upF f xs j).Perm xs
  | 0, xs, j, _ => List.Perm.refl _
  | f + 1, xs, j, hj => by
    unfold upF
    split
    · exact List.Perm.refl _
    · split
      · exact (upF_perm f _ _ (by rw [swapL_length]; omega)).trans (swapL_perm (by omega) hj)
      · exact List.Perm.refl _
theorem upF_get : ∀ (f : Nat) (xs : List Int) (j k : Nat), j < k → (upF f xs j)[k]? = xs[k]?
  | 0, xs, j, k, _ => rfl
  | f + 1, xs, j, k, hk => by
    unfold upF
    split
    · rfl
    · split
      · rw [upF_get f _ _ _ (by omega), swapL_get_other (by omega) (by omega)]
      · rfl
theorem downF_perm : ∀ (f : Nat) (xs : List Int) (n i : Nat), n ≤ xs.length → i < xs.length → (downF f xs n i).1.Perm xs
  | 0, xs, n, i, _, _ => List.Perm.refl _
  | f + 1, xs, n, i, hn, hi => by
    simp only [downF]
    split
    · exact List.Perm.refl _
    · rename_i h
      have hp := pickD_lt (xs := xs) h
      split
      · exact (downF_perm f _ _ _ (by rw [swapL_length]; exact hn) (by rw [swapL_length]; omega)).trans (swapL_perm hi (by omega))
      · exact List.Perm.refl _
theorem downF_get : ∀ (f : Nat) (xs : List Int) (n i k : Nat), i < n → n ≤ k → (downF f xs n i).1[k]? = xs[k]?
  | 0, xs, n, i, k, _, _ => rfl
  | f + 1, xs, n, i, k, hi, hk => by
    simp only [downF]
    split
    · rfl
    · rename_i h
      have hp := pickD_lt (xs := xs) h
      split
      · rw [downF_get f _ _ _ _ hp.1 hk, swapL_get_other (by omega) (by omega)]
      · rfl
theorem remL_perm {xs : List Int} {i : Nat} (hi : i < xs.length) : (remL xs i).Perm xs := by
  unfold remL
  have hd : (remD xs i).1.Perm xs := by
    unfold remD
    exact (downF_perm _ _ _ _ (by rw [swapL_length]; omega) (by rw [swapL_length]; omega)).trans (swapL_perm hi (by omega))
  split
  · exact List.Perm.refl _
  · split
    · exact hd
    · exact (upF_perm _ _ _ (by rw [hd.length_eq]; omega)).trans hd
theorem remL_last {xs : List Int} {i : Nat} (hi : i < xs.length) : (remL xs i)[xs.length - 1]? = xs[i]? := by
  unfold remL
  split
  · rename_i h; rw [h]
  · rename_i h
    have hd : (remD xs i).1[xs.length - 1]? = xs[i]? := by
      unfold remD
      rw [downF_get _ _ _ _ _ (by omega) (Nat.le_refl _), swapL_last hi (by omega), at0_get hi]
      simp [hi]
    split
    · exact hd
    · rw [upF_get _ _ _ _ (by omega), hd]
theorem dropLast_perm {ys xs : List Int} {a : Int} (hp : ys.Perm xs) (hl : ys[xs.length - 1]? = some a) : ys.dropLast.Perm (xs.erase a) := by
  have hy : ys.length = xs.length := hp.length_eq
  have hlt := (List.getElem?_eq_some_iff.1 hl).1
  have hne : ys ≠ [] := by intro e; subst e; simp at hlt
  have hg : ys.getLast hne = a := by
    rw [List.getLast_eq_getElem]
    have := (List.getElem?_eq_some_iff.1 hl).2
    simpa [hy] using this
  have h1 : (ys.dropLast ++ [a]).Perm xs := by
    rw [← hg, List.dropLast_concat_getLast]; exact hp
  have hmem : a ∈ xs := h1.subset (by simp)
  have h2 : (a :: ys.dropLast).Perm (a :: xs.erase a) := (List.perm_append_singleton a ys.dropLast).symm.trans (h1.trans (List.perm_cons_erase hmem))
  exact h2.cons_inv
theorem remL_drop {xs : List Int} {i : Nat} {a : Int} (ha : xs[i]? = some a) : (remL xs i).dropLast.Perm (xs.erase a) := by
  have hi := (List.getElem?_eq_some_iff.1 ha).1
  exact dropLast_perm (remL_perm hi) (by rw [remL_last hi, ha])
/-- the row as heap.Pop leaves it, with what it tells at its end -/
def popL (xs : List Int) : List Int := (downF (xs.length - 1) (swapL xs 0 (xs.length - 1)) (xs.length - 1) 0).1
theorem popL_length (xs : List Int) : (popL xs).length = xs.length := by rw [popL, downF_length, swapL_length]
theorem popL_perm {xs : List Int} (hx : xs ≠ []) : (popL xs).Perm xs := by
  have := List.length_pos_iff.2 hx
  unfold popL
  exact (downF_perm _ _ _ _ (by rw [swapL_length]; omega) (by rw [swapL_length]; omega)).trans (swapL_perm this (by omega))

end Go.Proofs.Ytbkaemajjaiklaa
