/- Free ones stand as a heap: the first one is the least. Plainly, no program. -/
import Derived.Test.YtbkaemajjaiklaaGreatSlabM
namespace Go.Proofs.YtbkaemajjaiklaaGreat
open Go.RowKit
set_option linter.unusedVariables false
set_option linter.unusedSimpArgs false

/-- the first n stand as a heap -/
def HeapN (xs : List Int) (n : Nat) : Prop := ∀ k, 0 < k → k < n → at0 xs ((k - 1) / 2) ≤ at0 xs k
theorem HeapN.least {xs : List Int} {n : Nat} (h : HeapN xs n) : ∀ k, k < n → at0 xs 0 ≤ at0 xs k := by
  intro k
  induction k using Nat.strongRecOn with
  | _ k ih =>
    intro hk
    rcases Nat.eq_zero_or_pos k with rfl | h0
    · exact Int.le_refl _
    · exact Int.le_trans (ih ((k - 1) / 2) (by omega) (by omega)) (h k h0 hk)
theorem at0_swap {xs : List Int} {i j : Nat} (hi : i < xs.length) (hj : j < xs.length) (k : Nat) : at0 (swapL xs i j) k = if k = j then at0 xs i else if k = i then at0 xs j else at0 xs k := by
  unfold at0 swapL
  by_cases e : k = j
  · subst e
    rw [if_pos rfl, List.getElem?_set_self (by rw [List.length_set]; exact hj)]
    rfl
  · rw [if_neg e, List.getElem?_set_ne (Ne.symm e)]
    by_cases e2 : k = i
    · subst e2
      rw [if_pos rfl, List.getElem?_set_self hi]
      rfl
    · rw [if_neg e2, List.getElem?_set_ne (Ne.symm e2)]
/-- up: all stands but the j-th, with the one above it -/
structure UpOK (xs : List Int) (n j : Nat) : Prop where
  a : ∀ k, 0 < k → k < n → k ≠ j → at0 xs ((k - 1) / 2) ≤ at0 xs k
  b : ∀ k, 0 < k → k < n → (k - 1) / 2 = j → 0 < j → at0 xs ((j - 1) / 2) ≤ at0 xs k
theorem upF_heap (n : Nat) : ∀ (f : Nat) (xs : List Int) (j : Nat), j < n → n ≤ xs.length → j < f → UpOK xs n j → HeapN (upF f xs j) n := by
  intro f
  induction f with
  | zero => intro xs j _ _ h; omega
  | succ f ih =>
    intro xs j hj hn hf h
    unfold upF
    by_cases e : j = 0
    · rw [if_pos e]
      exact fun k h0 hk => h.a k h0 hk (by omega)
    · rw [if_neg e]
      obtain ⟨p, hp⟩ : ∃ p, p = (j - 1) / 2 := ⟨_, rfl⟩
      rw [← hp]
      by_cases hl : at0 xs j < at0 xs p
      · rw [if_pos hl]
        have hs := at0_swap (xs := xs) (i := p) (j := j) (by omega) (by omega)
        refine ih _ _ (by omega) (by rw [swapL_length]; exact hn) (by omega) ⟨fun k h0 hk hne => ?_, fun k h0 hk hpk h1 => ?_⟩
        · rw [hs, hs]
          by_cases e1 : k = j
          · rw [if_pos e1, e1, ← hp, if_neg (by omega), if_pos rfl]; omega
          · rw [if_neg e1, if_neg hne]
            by_cases e2 : (k - 1) / 2 = j
            · rw [if_pos e2]
              have := h.b k h0 hk e2 (by omega)
              rw [← hp] at this; exact this
            · rw [if_neg e2]
              have := h.a k h0 hk e1
              by_cases e3 : (k - 1) / 2 = p
              · rw [if_pos e3]; rw [e3] at this; omega
              · rw [if_neg e3]; exact this
        · have h2 := h.a p h1 (by omega) (by omega)
          rw [hs, hs, if_neg (by omega), if_neg (by omega)]
          by_cases e1 : k = j
          · rw [if_pos e1]; exact h2
          · rw [if_neg e1, if_neg (by omega)]
            have := h.a k h0 hk e1
            rw [hpk] at this; omega
      · rw [if_neg hl]
        intro k h0 hk
        by_cases e1 : k = j
        · rw [e1, ← hp]; omega
        · exact h.a k h0 hk e1
/-- down: all stands but the i-th, with those below it -/
structure DownOK (xs : List Int) (n i : Nat) : Prop where
  a : ∀ k, 0 < k → k < n → (k - 1) / 2 ≠ i → at0 xs ((k - 1) / 2) ≤ at0 xs k
  b : ∀ k, 0 < k → k < n → (k - 1) / 2 = i → 0 < i → at0 xs ((i - 1) / 2) ≤ at0 xs k
/-- down, where the i-th may not fit those above it either -/
structure DownWk (xs : List Int) (n i : Nat) : Prop where
  a : ∀ k, 0 < k → k < n → (k - 1) / 2 ≠ i → k ≠ i → at0 xs ((k - 1) / 2) ≤ at0 xs k
  b : ∀ k, 0 < k → k < n → (k - 1) / 2 = i → 0 < i → at0 xs ((i - 1) / 2) ≤ at0 xs k
theorem pickD_is {xs : List Int} {n i : Nat} (h : ¬ n ≤ 2 * i + 1) : (pickD xs n i - 1) / 2 = i ∧ i < pickD xs n i ∧ pickD xs n i < n ∧ ∀ k, 0 < k → k < n → (k - 1) / 2 = i → at0 xs (pickD xs n i) ≤ at0 xs k := by
  unfold pickD
  split
  · rename_i hc
    refine ⟨by omega, by omega, by omega, fun k h0 hk e => ?_⟩
    have : k = 2 * i + 1 ∨ k = 2 * i + 2 := by omega
    rcases this with rfl | rfl
    · omega
    · exact Int.le_refl _
  · rename_i hc
    refine ⟨by omega, by omega, by omega, fun k h0 hk e => ?_⟩
    have : k = 2 * i + 1 ∨ k = 2 * i + 2 := by omega
    rcases this with rfl | rfl
    · exact Int.le_refl _
    · by_cases hx : at0 xs (2 * i + 2) < at0 xs (2 * i + 1)
      · exact absurd ⟨hk, hx⟩ hc
      · omega
theorem down_step {xs : List Int} {n i : Nat} (hn : n ≤ xs.length) (h : DownWk xs n i) (h1 : ¬ n ≤ 2 * i + 1) (hl : at0 xs (pickD xs n i) < at0 xs i) : DownOK (swapL xs i (pickD xs n i)) n (pickD xs n i) := by
  obtain ⟨p1, p2, p3, p4⟩ := pickD_is (xs := xs) h1
  obtain ⟨j, hj⟩ : ∃ j, j = pickD xs n i := ⟨_, rfl⟩
  rw [← hj] at p1 p2 p3 p4 hl ⊢
  have hs := at0_swap (xs := xs) (i := i) (j := j) (by omega) (by omega)
  refine ⟨fun k h0 hk hne => ?_, fun k h0 hk hpk h2 => ?_⟩
  · rw [hs, hs, if_neg hne]
    by_cases e1 : k = j
    · rw [if_pos e1, e1, if_pos p1]; omega
    · rw [if_neg e1]
      by_cases e2 : (k - 1) / 2 = i
      · rw [if_pos e2, if_neg (by omega)]
        exact p4 k h0 hk e2
      · rw [if_neg e2]
        by_cases e3 : k = i
        · rw [if_pos e3, e3]
          exact h.b j (by omega) p3 p1 (by omega)
        · rw [if_neg e3]
          exact h.a k h0 hk e2 e3
  · rw [hs, hs, if_neg (by omega), p1, if_pos rfl, if_neg (by omega), if_neg (by omega)]
    have := h.a k h0 hk (by omega) (by omega)
    rw [hpk] at this; exact this
theorem downF_heap (n : Nat) : ∀ (f : Nat) (xs : List Int) (i : Nat), n ≤ xs.length → n ≤ f + i → DownOK xs n i → HeapN (downF f xs n i).1 n := by
  intro f
  induction f with
  | zero =>
    intro xs i hn hf h k h0 hk
    exact h.a k h0 hk (by omega)
  | succ f ih =>
    intro xs i hn hf h
    unfold downF
    by_cases h1 : n ≤ 2 * i + 1
    · rw [if_pos h1]
      exact fun k h0 hk => h.a k h0 hk (by omega)
    · rw [if_neg h1]
      obtain ⟨p1, p2, p3, p4⟩ := pickD_is (xs := xs) h1
      by_cases hl : at0 xs (pickD xs n i) < at0 xs i
      · rw [if_pos hl]
        exact ih _ _ (by rw [swapL_length]; exact hn) (by omega) (down_step hn ⟨fun k h0 hk h2 _ => h.a k h0 hk h2, h.b⟩ h1 hl)
      · rw [if_neg hl]
        intro k h0 hk
        by_cases e : (k - 1) / 2 = i
        · have := p4 k h0 hk e
          rw [e]; exact Int.le_trans (Int.not_lt.1 hl) this
        · exact h.a k h0 hk e
theorem downF_ge : ∀ (f : Nat) (xs : List Int) (n i : Nat), i ≤ (downF f xs n i).2
  | 0, _, _, _ => Nat.le_refl _
  | f + 1, xs, n, i => by
    unfold downF
    split
    · exact Nat.le_refl _
    · rename_i h
      split
      · have := downF_ge f (swapL xs i (pickD xs n i)) n (pickD xs n i)
        have := (pickD_lt (xs := xs) h).2
        omega
      · exact Nat.le_refl _
/-- down, in the midst: it stands, or nothing was turned and only those above may not fit -/
theorem downF_mid (n f : Nat) (xs : List Int) (i : Nat) (hn : n ≤ xs.length) (hf : n ≤ f + i) (hf0 : 0 < f) (h : DownWk xs n i) :
    HeapN (downF f xs n i).1 n ∧ i < (downF f xs n i).2 ∨ (downF f xs n i) = (xs, i) ∧ UpOK xs n i := by
  obtain ⟨f, rfl⟩ : ∃ g, f = g + 1 := ⟨f - 1, by omega⟩
  unfold downF
  by_cases h1 : n ≤ 2 * i + 1
  · rw [if_pos h1]
    exact Or.inr ⟨rfl, fun k h0 hk hne => h.a k h0 hk (by omega) hne, fun k h0 hk e h2 => h.b k h0 hk e h2⟩
  · rw [if_neg h1]
    obtain ⟨p1, p2, p3, p4⟩ := pickD_is (xs := xs) h1
    by_cases hl : at0 xs (pickD xs n i) < at0 xs i
    · rw [if_pos hl]
      refine Or.inl ⟨downF_heap n f _ _ (by rw [swapL_length]; exact hn) (by omega) (down_step hn h h1 hl), ?_⟩
      exact Nat.lt_of_lt_of_le p2 (downF_ge _ _ _ _)
    · rw [if_neg hl]
      refine Or.inr ⟨rfl, fun k h0 hk hne => ?_, fun k h0 hk e h2 => h.b k h0 hk e h2⟩
      by_cases e : (k - 1) / 2 = i
      · have := p4 k h0 hk e
        rw [e]; exact Int.le_trans (Int.not_lt.1 hl) this
      · exact h.a k h0 hk e hne
/-- all of a list stands as a heap -/
def HeapL (xs : List Int) : Prop := HeapN xs xs.length
theorem heap_nil : HeapL [] := fun k _ h => by simp at h
theorem at0_append {xs ys : List Int} {k : Nat} (h : k < xs.length) : at0 (xs ++ ys) k = at0 xs k := by
  unfold at0; rw [List.getElem?_append_left h]
theorem at0_dropLast {xs : List Int} {k : Nat} (h : k < xs.length - 1) : at0 xs.dropLast k = at0 xs k := by
  unfold at0; rw [List.getElem?_dropLast, if_pos h]
theorem HeapN.drop {xs : List Int} (h : HeapN xs (xs.length - 1)) : HeapL xs.dropLast := by
  intro k h0 hk
  rw [List.length_dropLast] at hk
  rw [at0_dropLast (by omega), at0_dropLast hk]
  exact h k h0 hk
theorem putL_heap {xs : List Int} (h : HeapL xs) (a : Int) : HeapL (putL xs a) := by
  unfold putL
  split
  · exact h
  · have hl : (xs ++ [a]).length = xs.length + 1 := by simp
    have := upF_heap (xs.length + 1) (xs.length + 1) (xs ++ [a]) xs.length (by omega) (by omega) (by omega) ⟨fun k h0 hk hne => by
        rw [at0_append (by omega), at0_append (by omega)]
        exact h k h0 (by omega), fun k h0 hk e h1 => by omega⟩
    unfold HeapL
    rw [upF_length, hl]
    exact this
theorem popL_heap {xs : List Int} (h : HeapL xs) (h0 : xs ≠ []) : HeapL (popL xs).dropLast := by
  have hp := List.length_pos_iff.2 h0
  refine HeapN.drop ?_
  rw [popL_length]
  unfold popL
  have hs := at0_swap (xs := xs) (i := 0) (j := xs.length - 1) (by omega) (by omega)
  refine downF_heap _ _ _ _ (by rw [swapL_length]; omega) (by omega) ⟨fun k h1 hk hne => ?_, fun k _ _ _ h2 => by omega⟩
  rw [hs, hs, if_neg (by omega), if_neg hne, if_neg (by omega), if_neg (by omega)]
  exact h k h1 (by omega)
theorem dropA_heap {xs : List Int} (h : HeapL xs) (a : Int) : HeapL (dropA xs a) := by
  unfold dropA
  split
  · rename_i hm
    refine HeapN.drop ?_
    rw [remL_length]
    obtain ⟨i, hi⟩ : ∃ i, i = xs.idxOf a := ⟨_, rfl⟩
    have hil : i < xs.length := by rw [hi]; exact List.idxOf_lt_length_of_mem hm
    rw [← hi]
    unfold remL
    by_cases e : xs.length - 1 = i
    · rw [if_pos e]
      exact fun k h0 hk => h k h0 (by omega)
    · rw [if_neg e]
      have hs := at0_swap (xs := xs) (i := i) (j := xs.length - 1) hil (by omega)
      have hw : DownWk (swapL xs i (xs.length - 1)) (xs.length - 1) i := by
        refine ⟨fun k h0 hk h1 h2 => ?_, fun k h0 hk h1 h2 => ?_⟩
        · rw [hs, hs, if_neg (by omega), if_neg h1, if_neg (by omega), if_neg h2]
          exact h k h0 (by omega)
        · rw [hs, hs, if_neg (by omega), if_neg (by omega), if_neg (by omega), if_neg (by omega)]
          have g1 := h k h0 (by omega)
          have g2 := h i h2 hil
          rw [h1] at g1
          omega
      have hm := downF_mid (xs.length - 1) (xs.length - 1) (swapL xs i (xs.length - 1)) i (by rw [swapL_length]; omega) (by omega) (by omega) hw
      change HeapN (remD xs i).1 (xs.length - 1) ∧ i < (remD xs i).2 ∨ remD xs i = (swapL xs i (xs.length - 1), i) ∧ UpOK (swapL xs i (xs.length - 1)) (xs.length - 1) i at hm
      rcases hm with ⟨g1, g2⟩ | ⟨g1, g2⟩
      · rw [if_pos g2]; exact g1
      · rw [g1, if_neg (by omega)]
        exact upF_heap _ _ _ _ (by omega) (by rw [swapL_length]; omega) hil g2
  · exact h
theorem heap_min {xs : List Int} (h : HeapL xs) {a : Int} (ha : a ∈ xs) : at0 xs 0 ≤ a := by
  obtain ⟨k, hk, e⟩ := List.getElem_of_mem ha
  have := HeapN.least h k hk
  unfold at0 at this ⊢
  rw [List.getElem?_eq_getElem hk, e] at this
  exact this
theorem upd_heap {f : Nat → List Int} (h : ∀ d, HeapL (f d)) (c : Nat) {xs : List Int} (hx : HeapL xs) : ∀ d, HeapL (updN f c xs d) := by
  intro d
  unfold updN
  split
  · exact hx
  · exact h d
theorem giveTo_heap (A : SA) (i c : Nat) (h : ∀ d, HeapL (A.fr d)) : ∀ k d, HeapL ((giveTo A i c k).fr d) := by
  intro k
  induction k with
  | zero => exact h
  | succ k ih =>
    show ∀ d, HeapL ((updN (giveTo A i c k).fr c (putL ((giveTo A i c k).fr c) (blockZ i c k))) d)
    exact upd_heap ih c (putL_heap (ih c) _)
theorem bitsSA_heap (i c : Nat) (l : List (Fin 64)) : ∀ A : SA, (∀ d, HeapL (A.fr d)) → ∀ d, HeapL ((bitsSA A i c l).fr d) := by
  unfold bitsSA
  induction l with
  | nil => exact fun A h => h
  | cons x l ih =>
    intro A h
    rw [List.foldl_cons]
    refine ih _ ?_
    show ∀ d, HeapL ((updN A.fr c (dropA (A.fr c) (blockZ i c x.val))) d)
    exact upd_heap h c (dropA_heap (h c) _)
theorem ofTo_heap (bs : List Int) (n : Nat) : ∀ k d, HeapL ((ofTo bs n k).fr d) := by
  intro k
  induction k with
  | zero => exact fun _ => heap_nil
  | succ k ih =>
    exact bitsSA_heap (k + 1) (clsAt bs (k + 1)) (setBits (bitAt bs (k + 1))) (giveSA (hdSA (ofTo bs n k) (k + 1) (bitAt bs (k + 1))) (k + 1) (clsAt bs (k + 1))) (giveTo_heap (hdSA (ofTo bs n k) (k + 1) (bitAt bs (k + 1))) (k + 1) (clsAt bs (k + 1)) ih _)

end Go.Proofs.YtbkaemajjaiklaaGreat
