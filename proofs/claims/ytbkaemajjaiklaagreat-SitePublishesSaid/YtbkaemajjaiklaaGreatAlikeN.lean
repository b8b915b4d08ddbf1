/- The code's blocks and the document's say the same: plainly. No program. -/
import Derived.Test.YtbkaemajjaiklaaGreatUsedM
import Derived.Test.YtbkaemajjaiklaaGreatRefN

namespace Go.Proofs.YtbkaemajjaiklaaGreat
open Go.RowKit
set_option linter.unusedVariables false
set_option linter.unusedSimpArgs false

/-- the first n slabs: both say the same -/
structure Alike (A : SA) (n : Nat) (cs : List Int) (ls : List (Int × Int)) : Prop where
  cl : cs.length = n
  cls : ∀ i, i < n → clsOf A (i + 1) = cs.getD i 0
  le : ∀ i, i < n → 0 ≤ cs.getD i 0 ∧ cs.getD i 0 ≤ 3
  is : ∀ a, isGet A.is a = isGet ls a
  ua : UniqA A.is
  ul : UniqA ls
  nz : ∀ p ∈ A.is, p.2 ≠ 0
  nd : ∀ c, 1 ≤ c → c ≤ 3 → (A.fr c).Nodup
  fr : ∀ c, 1 ≤ c → c ≤ 3 → ∀ a, a ∈ A.fr c ↔ ∃ i j : Nat, i < n ∧ j < nb c ∧ cs.getD i 0 = (c : Int) ∧ a = blockZ ((i : Int) + 1) c j ∧ isGet ls a = 0
  blk : ∀ p ∈ ls, 1 ≤ p.2 ∧ p.2 ≤ 4 ∧ ∃ i j c : Nat, i < n ∧ j < nb c ∧ 1 ≤ c ∧ c ≤ 3 ∧ cs.getD i 0 = (c : Int) ∧ p.1 = blockZ ((i : Int) + 1) c j

theorem isGet_mem {l : List (Int × Int)} {a v : Int} (hv : v ≠ 0) (h : isGet l a = v) : (a, v) ∈ l := by
  induction l with
  | nil => exact absurd h.symm hv
  | cons p l ih =>
    unfold isGet at h
    split at h
    · rename_i e
      rw [← e, ← h]
      exact List.mem_cons_self ..
    · exact List.mem_cons_of_mem _ (ih h)
theorem usedA_eq (l : List (Int × Int)) : usedA l = usedL l := by
  unfold usedA usedL
  induction l with
  | nil => rfl
  | cons p l ih =>
    rw [List.filterMap_cons, List.filter_cons]
    by_cases h : p.2 = 2 ∨ p.2 = 3
    · rw [if_pos h, ih]
      have : (decide (p.2 = 2) || decide (p.2 = 3)) = true := by simpa using h
      rw [if_pos this]; rfl
    · rw [if_neg h, ih]
      have : ¬ (decide (p.2 = 2) || decide (p.2 = 3)) = true := by simpa using h
      rw [if_neg this]
theorem usedL_mem {l : List (Int × Int)} (hu : UniqA l) (a : Int) : a ∈ usedL l ↔ isGet l a = 2 ∨ isGet l a = 3 := by
  unfold usedL
  rw [List.mem_map]
  constructor
  · rintro ⟨p, hp, rfl⟩
    rw [List.mem_filter] at hp
    have h2 : p.2 = 2 ∨ p.2 = 3 := by simpa using hp.2
    rw [hu.get (a := p.1) (v := p.2) hp.1]
    exact h2
  · intro h
    have hm : (a, isGet l a) ∈ l := isGet_mem (by rcases h with h | h <;> rw [h] <;> decide) rfl
    exact ⟨(a, isGet l a), List.mem_filter.2 ⟨hm, by simpa using h⟩, rfl⟩
theorem usedL_nodup {l : List (Int × Int)} (hu : UniqA l) : (usedL l).Nodup := hu.sublist (List.filter_sublist.map _)

/-- rising -/
theorem insA_perm {xs : List Int} {a : Int} (h : a ∉ xs) : (insA xs a).Perm (a :: xs) := by
  unfold insA
  rw [if_neg h]
  have h1 := List.takeWhile_append_dropWhile (p := fun x => decide (x < a)) (l := xs)
  have h2 : (xs.takeWhile (fun x => decide (x < a)) ++ a :: xs.dropWhile (fun x => decide (x < a))).Perm (a :: (xs.takeWhile (fun x => decide (x < a)) ++ xs.dropWhile (fun x => decide (x < a)))) := List.perm_middle
  rwa [h1] at h2
theorem insA_sorted {xs : List Int} (h : xs.Pairwise (· < ·)) (a : Int) : (insA xs a).Pairwise (· < ·) := by
  unfold insA
  split
  · exact h
  · rename_i hn
    have h1 := List.takeWhile_append_dropWhile (p := fun x => decide (x < a)) (l := xs)
    have hx : ∀ x ∈ xs.takeWhile (fun x => decide (x < a)), x < a := fun x hx => by
      have := List.all_takeWhile (p := fun x => decide (x < a)) (l := xs)
      rw [List.all_eq_true] at this
      simpa using this x hx
    have hd : ∀ x ∈ xs.dropWhile (fun x => decide (x < a)), a < x := by
      have key : ∀ l : List Int, l.Pairwise (· < ·) → a ∉ l → ∀ x ∈ l.dropWhile (fun x => decide (x < a)), a < x := by
        intro l
        induction l with
        | nil => intro _ _ x hx; simp at hx
        | cons y l ih =>
          intro hp hnn x hx
          rw [List.pairwise_cons] at hp
          by_cases hy : y < a
          · rw [List.dropWhile_cons_of_pos (by simpa using hy)] at hx
            exact ih hp.2 (fun h => hnn (List.mem_cons_of_mem _ h)) x hx
          · rw [List.dropWhile_cons_of_neg (by simpa using hy)] at hx
            have hya : y ≠ a := fun e => hnn (by rw [e]; exact List.mem_cons_self ..)
            rcases List.mem_cons.1 hx with rfl | hx
            · omega
            · have := hp.1 x hx; omega
      exact key xs h hn
    have h2 := h
    rw [← h1, List.pairwise_append] at h2
    rw [List.pairwise_append, List.pairwise_cons]
    refine ⟨h2.1, ⟨hd, h2.2.1⟩, fun x hx1 y hy => ?_⟩
    rcases List.mem_cons.1 hy with rfl | hy
    · exact hx x hx1
    · have := hx x hx1; have := hd y hy; omega
theorem insA_mem (xs : List Int) (a b : Int) : b ∈ insA xs a ↔ b = a ∨ b ∈ xs := by
  by_cases h : a ∈ xs
  · unfold insA; rw [if_pos h]
    constructor
    · exact Or.inr
    · rintro (rfl | h1)
      · exact h
      · exact h1
  · rw [(insA_perm h).mem_iff, List.mem_cons]
theorem fold_ins (l : List Int) : ∀ xs : List Int, xs.Pairwise (· < ·) → (l.foldl insA xs).Pairwise (· < ·) ∧ ∀ b, b ∈ l.foldl insA xs ↔ b ∈ l ∨ b ∈ xs := by
  induction l with
  | nil => intro xs h; exact ⟨h, fun b => by simp⟩
  | cons a l ih =>
    intro xs h
    obtain ⟨h1, h2⟩ := ih (insA xs a) (insA_sorted h a)
    refine ⟨h1, fun b => ?_⟩
    show b ∈ l.foldl insA (insA xs a) ↔ _
    rw [h2, insA_mem, List.mem_cons]
    constructor
    · rintro (h | h | h)
      · exact Or.inl (Or.inr h)
      · exact Or.inl (Or.inl h)
      · exact Or.inr h
    · rintro ((h | h) | h)
      · exact Or.inr (Or.inl h)
      · exact Or.inl h
      · exact Or.inr (Or.inr h)
/-- rising, each once: there is but one such list -/
theorem sorted_uniq : ∀ (xs ys : List Int), xs.Pairwise (· ≤ ·) → xs.Nodup → ys.Pairwise (· < ·) → (∀ a, a ∈ xs ↔ a ∈ ys) → xs = ys
  | [], [], _, _, _, _ => rfl
  | [], y :: ys, _, _, _, h => by have := (h y).2 (List.mem_cons_self ..); cases this
  | x :: xs, [], _, _, _, h => by have := (h x).1 (List.mem_cons_self ..); cases this
  | x :: xs, y :: ys, h1, h2, h3, h => by
    rw [List.pairwise_cons] at h1 h3
    rw [List.nodup_cons] at h2
    have hxy : x = y := by
      rcases List.mem_cons.1 ((h x).1 (List.mem_cons_self ..)) with e | e
      · exact e
      · rcases List.mem_cons.1 ((h y).2 (List.mem_cons_self ..)) with e' | e'
        · exact e'.symm
        · have := h3.1 x e; have := h1.1 y e'; omega
    subst hxy
    rw [sorted_uniq xs ys h1.2 h2.2 h3.2 fun a => ?_]
    constructor
    · intro ha
      rcases List.mem_cons.1 ((h a).1 (List.mem_cons_of_mem _ ha)) with e | e
      · exact absurd (e ▸ ha) h2.1
      · exact e
    · intro ha
      rcases List.mem_cons.1 ((h a).2 (List.mem_cons_of_mem _ ha)) with e | e
      · have := h3.1 a ha; omega
      · exact e
theorem Alike.used {A : SA} {n : Nat} {cs : List Int} {ls : List (Int × Int)} (h : Alike A n cs ls) {ys : List Int} (h1 : ys.Perm (usedA A.is)) (h2 : ys.Pairwise (· ≤ ·)) : ys = usedI ls := by
  obtain ⟨h3, h4⟩ := fold_ins (usedL ls) [] List.Pairwise.nil
  refine sorted_uniq _ _ h2 (h1.nodup_iff.2 (by rw [usedA_eq]; exact usedL_nodup h.ua)) h3 fun a => ?_
  show a ∈ ys ↔ a ∈ usedI ls
  unfold usedI
  rw [h1.mem_iff, usedA_eq, usedL_mem h.ua, h.is, h4, usedL_mem h.ul]
  simp

/-! ### room -/
theorem block_in {i c j : Nat} (hi : i < 64) (hc : 1 ≤ c ∧ c ≤ 3) (hj : j < nb c) : 1024 * ((i : Int) + 1) + 64 ≤ blockZ ((i : Int) + 1) c j ∧ blockZ ((i : Int) + 1) c j < 1024 * ((i : Int) + 2) := by
  have hnb := nb_eq c
  have ha := area_le (c : Int) (j : Int) (by omega) (by omega)
  unfold blockZ
  rw [if_pos ⟨by omega, by omega, by omega, by omega⟩]
  omega
theorem block_same {i i' c c' j j' : Nat} (hi : i < 64) (hi' : i' < 64) (hc : 1 ≤ c ∧ c ≤ 3) (hc' : 1 ≤ c' ∧ c' ≤ 3) (hj : j < nb c) (hj' : j' < nb c') (h : blockZ ((i : Int) + 1) c j = blockZ ((i' : Int) + 1) c' j') : i = i' := by
  have h1 := block_in hi hc hj
  have h2 := block_in hi' hc' hj'
  omega
theorem block_ne {i c j : Nat} (hi : i < 64) (hc : 1 ≤ c ∧ c ≤ 3) (hj : j < nb c) : blockZ ((i : Int) + 1) c j ≠ 0 := by
  have := block_in hi hc hj
  omega
def freeOne (cs : List Int) (ls : List (Int × Int)) (c i : Nat) : List Int :=
  if cs.getD i 0 = (c : Int) then ((List.range (nb c)).filter fun (j : Nat) => decide (isGet ls (blockZ ((i : Int) + 1) c j) = 0)).map fun (j : Nat) => blockZ ((i : Int) + 1) c j else []
def freeL (cs : List Int) (ls : List (Int × Int)) (c : Nat) : Nat → List Int
  | 0 => []
  | i + 1 => freeL cs ls c i ++ freeOne cs ls c i
theorem freeOne_mem (cs : List Int) (ls : List (Int × Int)) (c i : Nat) (a : Int) : a ∈ freeOne cs ls c i ↔ ∃ j : Nat, j < nb c ∧ cs.getD i 0 = (c : Int) ∧ a = blockZ ((i : Int) + 1) c j ∧ isGet ls a = 0 := by
  unfold freeOne
  by_cases h : cs.getD i 0 = (c : Int)
  · rw [if_pos h, List.mem_map]
    constructor
    · rintro ⟨j, hj, rfl⟩
      rw [List.mem_filter, List.mem_range] at hj
      exact ⟨j, hj.1, h, rfl, by simpa using hj.2⟩
    · rintro ⟨j, h1, _, rfl, h2⟩
      exact ⟨j, List.mem_filter.2 ⟨List.mem_range.2 h1, by simpa using h2⟩, rfl⟩
  · rw [if_neg h]
    constructor
    · intro h1; cases h1
    · rintro ⟨j, _, h1, _⟩; exact absurd h1 h
theorem freeL_mem (cs : List Int) (ls : List (Int × Int)) (c : Nat) (a : Int) : ∀ n, a ∈ freeL cs ls c n ↔ ∃ i j : Nat, i < n ∧ j < nb c ∧ cs.getD i 0 = (c : Int) ∧ a = blockZ ((i : Int) + 1) c j ∧ isGet ls a = 0
  | 0 => by
    constructor
    · intro h; cases h
    · rintro ⟨i, j, h, _⟩; omega
  | n + 1 => by
    show a ∈ freeL cs ls c n ++ freeOne cs ls c n ↔ _
    rw [List.mem_append, freeL_mem cs ls c a n, freeOne_mem]
    constructor
    · rintro (⟨i, j, h1, h2⟩ | ⟨j, h2⟩)
      · exact ⟨i, j, by omega, h2⟩
      · exact ⟨n, j, by omega, h2⟩
    · rintro ⟨i, j, h1, h2⟩
      by_cases hi : i = n
      · subst hi; exact Or.inr ⟨j, h2⟩
      · exact Or.inl ⟨i, j, by omega, h2⟩
theorem freeL_nodup (cs : List Int) (ls : List (Int × Int)) {c : Nat} (hc : 1 ≤ c ∧ c ≤ 3) : ∀ n, n ≤ 64 → (freeL cs ls c n).Nodup
  | 0, _ => List.nodup_nil
  | n + 1, hn => by
    show (freeL cs ls c n ++ freeOne cs ls c n).Nodup
    rw [List.nodup_append]
    refine ⟨freeL_nodup cs ls hc n (by omega), ?_, ?_⟩
    · unfold freeOne
      split
      · refine List.pairwise_map.2 (List.Pairwise.imp_of_mem (R := (· ≠ ·)) ?_ (List.nodup_range.sublist List.filter_sublist))
        intro j j' hj hj' hne e
        rw [List.mem_filter, List.mem_range] at hj hj'
        exact hne (blockZ_inj (i := n + 1) (by omega) hc hj.1 hj'.1 (by push_cast; exact e))
      · exact List.nodup_nil
    · intro x hx y hy e
      subst e
      obtain ⟨i, j, h1, h2, _, h3, _⟩ := (freeL_mem cs ls c x n).1 hx
      obtain ⟨j', h2', _, h3', _⟩ := (freeOne_mem cs ls c n x).1 hy
      have := block_same (by omega) (by omega) hc hc h2 h2' (h3.symm.trans h3')
      omega
def zeroC (cs : List Int) : Nat → Nat
  | 0 => 0
  | i + 1 => zeroC cs i + if cs.getD i 0 = 0 then 1 else 0
theorem roomW_eq (cs : List Int) (ls : List (Int × Int)) {c : Nat} (hc : 1 ≤ c ∧ c ≤ 3) : ∀ n, roomW cs ls c n = zeroC cs n * nb c + (freeL cs ls c n).length
  | 0 => by simp [roomW, zeroC, freeL]
  | n + 1 => by
    have ih := roomW_eq cs ls hc n
    show roomW cs ls c n + roomI1 cs ls c n (nb c) = (zeroC cs n + if cs.getD n 0 = 0 then 1 else 0) * nb c + (freeL cs ls c n ++ freeOne cs ls c n).length
    rw [ih, List.length_append, Nat.add_mul]
    have h1 : roomI1 cs ls c n (nb c) = (if cs.getD n 0 = 0 then 1 else 0) * nb c + (freeOne cs ls c n).length := by
      unfold roomI1 freeOne roomP
      by_cases h0 : cs.getD n 0 = 0
      · rw [if_pos h0, if_neg (by omega)]
        have : (List.range (nb c)).countP (fun (j : Nat) => decide (cs.getD n 0 = 0) || (decide (cs.getD n 0 = (c : Int)) && decide (isGet ls (blockZ ((n : Int) + 1) c j) = 0))) = (List.range (nb c)).length := by
          rw [List.countP_eq_length]
          intro x _
          rw [decide_eq_true h0]; rfl
        rw [this]; simp
      · rw [if_neg h0]
        by_cases h2 : cs.getD n 0 = (c : Int)
        · rw [if_pos h2, List.length_map, List.countP_eq_length_filter]
          simp only [Nat.zero_mul, Nat.zero_add]
          congr 1
          refine List.filter_congr fun j _ => ?_
          rw [decide_eq_false h0, decide_eq_true h2]; simp
        · rw [if_neg h2]
          simp only [Nat.zero_mul, Nat.zero_add, List.length_nil]
          rw [List.countP_eq_zero]
          intro j _
          rw [decide_eq_false h0, decide_eq_false h2]; simp
    omega
theorem zeroN_eq {A : SA} {n : Nat} {cs : List Int} (hl : A.hd.length = 1 + n) (hc : ∀ i, i < n → clsOf A (i + 1) = cs.getD i 0) : ∀ k, k ≤ n → zeroN A.hd (k + 1) = zeroC cs k
  | 0, _ => by
    unfold zeroN
    rw [List.drop_take]
    simp [zeroC]
  | k + 1, hk => by
    rw [zeroN_succ (by omega) (by omega), zeroN_eq hl hc k (by omega)]
    show _ = zeroC cs k + _
    have h1 := hc k (by omega)
    unfold clsOf at h1
    rw [List.getD_eq_getElem?_getD, List.getElem?_eq_getElem (show k + 1 < A.hd.length by omega)] at h1
    rw [← h1]
    rfl
theorem Alike.room {A : SA} {n : Nat} {cs : List Int} {ls : List (Int × Int)} (h : Alike A n cs ls) (hl : A.hd.length = 1 + n) (hn : n ≤ 64) {c : Nat} (hc : 1 ≤ c ∧ c ≤ 3) : roomSA A c = roomW cs ls c cs.length := by
  unfold roomSA
  have h1 : zeroN A.hd A.hd.length = zeroC cs n := by
    rw [hl, Nat.add_comm]
    exact zeroN_eq hl h.cls n (Nat.le_refl _)
  have h2 : (A.fr c).length = (freeL cs ls c n).length := by
    refine ((List.perm_ext_iff_of_nodup (h.nd c hc.1 hc.2) (freeL_nodup cs ls hc n hn)).2 fun a => ?_).length_eq
    rw [h.fr c hc.1 hc.2, freeL_mem]
  rw [h1, h2, h.cl, roomW_eq cs ls hc]
end Go.Proofs.YtbkaemajjaiklaaGreat

/- Blocks of any bytes: the code's and the document's are alike. No program. -/
namespace Go.Proofs.YtbkaemajjaiklaaGreat
open Go.RowKit
set_option linter.unusedVariables false
set_option linter.unusedSimpArgs false

theorem putL_iff (xs : List Int) (a b : Int) : b ∈ putL xs a ↔ b ∈ xs ∨ b = a := by
  constructor
  · exact putL_mem
  · intro h
    unfold putL
    split
    · rename_i ha
      rcases h with h | rfl
      · exact h
      · exact ha
    · rw [(upF_perm (xs.length + 1) (xs ++ [a]) xs.length (by simp)).mem_iff]
      simpa using h
theorem giveTo_iff (A : SA) (i c k : Nat) (a : Int) : a ∈ (giveTo A i c k).fr c ↔ a ∈ A.fr c ∨ ∃ j : Nat, j < k ∧ a = blockZ i c j := by
  induction k with
  | zero =>
    constructor
    · exact Or.inl
    · rintro (h | ⟨j, h, _⟩)
      · exact h
      · omega
  | succ k ih =>
    have e : (giveTo A i c (k + 1)).fr c = putL ((giveTo A i c k).fr c) (blockZ i c k) := by
      show updN (giveTo A i c k).fr c _ c = _
      unfold updN
      rw [if_pos rfl]
    rw [e, putL_iff, ih]
    constructor
    · rintro ((h | ⟨j, h1, h2⟩) | h)
      · exact Or.inl h
      · exact Or.inr ⟨j, by omega, h2⟩
      · exact Or.inr ⟨k, by omega, h⟩
    · rintro (h | ⟨j, h1, h2⟩)
      · exact Or.inl (Or.inl h)
      · by_cases hj : j = k
        · subst hj; exact Or.inr h2
        · exact Or.inl (Or.inr ⟨j, by omega, h2⟩)
theorem dropA_iff {xs : List Int} (hn : xs.Nodup) (a b : Int) : b ∈ dropA xs a ↔ b ∈ xs ∧ b ≠ a := by
  by_cases ha : a ∈ xs
  · rw [(dropA_perm ha).mem_iff, hn.mem_erase_iff]
    exact And.comm
  · unfold dropA
    rw [if_neg ha]
    constructor
    · intro h; exact ⟨h, fun e => ha (e ▸ h)⟩
    · exact fun h => h.1
theorem isGet_setTo (l : List (Int × Int)) (a v b : Int) : isGet (isSet l a v) b = if b = a then v else isGet l b := by
  induction l with
  | nil =>
    show (if a = b then v else 0) = _
    by_cases h : b = a
    · rw [if_pos h, if_pos h.symm]
    · rw [if_neg h, if_neg (fun e => h e.symm)]; rfl
  | cons x l ih =>
    show isGet (if x.1 = a then (a, v) :: l else x :: isSet l a v) b = _
    by_cases hx : x.1 = a
    · rw [if_pos hx]
      show (if a = b then v else isGet l b) = if b = a then v else (if x.1 = b then x.2 else isGet l b)
      by_cases h : b = a
      · rw [if_pos h, if_pos h.symm]
      · rw [if_neg h, if_neg (fun e => h e.symm), if_neg (fun e => h (e.symm.trans hx))]
    · rw [if_neg hx]
      show (if x.1 = b then x.2 else isGet (isSet l a v) b) = if b = a then v else (if x.1 = b then x.2 else isGet l b)
      rw [ih]
      by_cases h : b = a
      · rw [if_pos h, if_pos h, if_neg (fun e => hx (e.trans h))]
      · rw [if_neg h, if_neg h]
theorem isSet_nz {l : List (Int × Int)} (h : ∀ p ∈ l, p.2 ≠ 0) (a : Int) {v : Int} (hv : v ≠ 0) : ∀ p ∈ isSet l a v, p.2 ≠ 0 := by
  induction l with
  | nil => intro p hp; rw [List.mem_singleton.1 hp]; exact hv
  | cons x l ih =>
    intro p hp
    have hp' : p ∈ (if x.1 = a then (a, v) :: l else x :: isSet l a v) := hp
    split at hp'
    · rcases List.mem_cons.1 hp' with rfl | h1
      · exact hv
      · exact h p (List.mem_cons_of_mem _ h1)
    · rcases List.mem_cons.1 hp' with rfl | h1
      · exact h p (List.mem_cons_self ..)
      · exact ih (fun q hq => h q (List.mem_cons_of_mem _ hq)) p h1
theorem isGet_append (l1 l2 : List (Int × Int)) (a : Int) : isGet (l1 ++ l2) a = if a ∈ l1.map (·.1) then isGet l1 a else isGet l2 a := by
  induction l1 with
  | nil => rfl
  | cons x l ih =>
    show (if x.1 = a then x.2 else isGet (l ++ l2) a) = _
    by_cases h : x.1 = a
    · rw [if_pos h, if_pos (by rw [← h]; exact List.mem_cons_self ..)]
      show x.2 = if x.1 = a then x.2 else _
      rw [if_pos h]
    · rw [if_neg h, ih]
      show _ = if a ∈ x.1 :: l.map (·.1) then (if x.1 = a then x.2 else isGet l a) else _
      rw [if_neg h]
      by_cases h2 : a ∈ l.map (·.1)
      · rw [if_pos h2, if_pos (List.mem_cons_of_mem _ h2)]
      · rw [if_neg h2, if_neg (fun hm => by rcases List.mem_cons.1 hm with e | e; exact h e.symm; exact h2 e)]

/-- what comes of the used bits, one by one -/
structure BitsTo (A A' : SA) (i c : Nat) (l : List (Fin 64)) : Prop where
  hd : A'.hd = A.hd
  oth : ∀ d, d ≠ c → A'.fr d = A.fr d
  nd : (A'.fr c).Nodup
  fr : ∀ a, a ∈ A'.fr c ↔ a ∈ A.fr c ∧ ∀ j ∈ l, a ≠ blockZ i c (j.val : Int)
  is : ∀ a, isGet A'.is a = if (∃ j ∈ l, a = blockZ i c (j.val : Int)) then 2 else isGet A.is a
  ua : UniqA A'.is
  nz : ∀ p ∈ A'.is, p.2 ≠ 0
open Classical in
theorem bits_to (A : SA) (i c : Nat) (hn : (A.fr c).Nodup) (hu : UniqA A.is) (hz : ∀ p ∈ A.is, p.2 ≠ 0) : ∀ (l l0 : List (Fin 64)) (A0 : SA), BitsTo A A0 i c l0 → BitsTo A (bitsSA A0 i c l) i c (l0 ++ l)
  | [], l0, A0, h => by rw [List.append_nil]; exact h
  | j :: l, l0, A0, h => by
    have h1 : BitsTo A (useSA A0 i c j.val) i c (l0 ++ [j]) := by
      refine ⟨h.hd, fun d hd => ?_, ?_, fun a => ?_, fun a => ?_, h.ua.set _ _, isSet_nz h.nz _ (by decide)⟩
      · show updN A0.fr c _ d = _
        unfold updN
        rw [if_neg hd]; exact h.oth d hd
      · show (updN A0.fr c _ c).Nodup
        unfold updN
        rw [if_pos rfl]; exact dropA_nodup h.nd _
      · show a ∈ updN A0.fr c _ c ↔ _
        unfold updN
        rw [if_pos rfl, dropA_iff h.nd, h.fr]
        constructor
        · rintro ⟨⟨h2, h3⟩, h4⟩
          refine ⟨h2, fun j' hj' => ?_⟩
          rcases List.mem_append.1 hj' with h5 | h5
          · exact h3 j' h5
          · rw [List.mem_singleton.1 h5]; exact h4
        · rintro ⟨h2, h3⟩
          exact ⟨⟨h2, fun j' hj' => h3 j' (List.mem_append_left _ hj')⟩, h3 j (List.mem_append_right _ (List.mem_singleton.2 rfl))⟩
      · show isGet (isSet A0.is _ 2) a = _
        rw [isGet_setTo, h.is]
        by_cases ha : a = blockZ i c (j.val : Int)
        · rw [if_pos ha, if_pos ⟨j, List.mem_append_right _ (List.mem_singleton.2 rfl), ha⟩]
        · rw [if_neg ha]
          by_cases h2 : ∃ j ∈ l0, a = blockZ i c (j.val : Int)
          · obtain ⟨j', h3, h4⟩ := h2
            rw [if_pos ⟨j', h3, h4⟩, if_pos ⟨j', List.mem_append_left _ h3, h4⟩]
          · rw [if_neg h2, if_neg]
            rintro ⟨j', h3, h4⟩
            rcases List.mem_append.1 h3 with h5 | h5
            · exact h2 ⟨j', h5, h4⟩
            · rw [List.mem_singleton.1 h5] at h4; exact ha h4
    have h2 := bits_to A i c hn hu hz l (l0 ++ [j]) _ h1
    rw [List.append_assoc, List.singleton_append] at h2
    exact h2

theorem getD_app (cs : List Int) (c : Int) (i : Nat) : (cs ++ [c]).getD i 0 = if i = cs.length then c else cs.getD i 0 := by
  rw [List.getD_eq_getElem?_getD, List.getD_eq_getElem?_getD]
  by_cases h : i < cs.length
  · rw [if_neg (by omega), List.getElem?_append_left h]
  · rw [List.getElem?_append_right (by omega)]
    by_cases h2 : i = cs.length
    · rw [if_pos h2, h2, Nat.sub_self]; rfl
    · rw [if_neg h2, List.getElem?_eq_none (by simp; omega), List.getElem?_eq_none (by omega)]

open Classical in
theorem Alike.next {A : SA} {k : Nat} {cs : List Int} {ls : List (Int × Int)} (h : Alike A k cs ls) (hk : k < 64) (c b : Nat) (hc : c ≤ 3) (l : List (Fin 64)) (hl : ∀ j ∈ l, j.val < nb c) (hln : l.Nodup) (hlen : k + 1 < A.hd.length) (hnd : (A.fr c).Nodup) :
    Alike (bitsSA (giveSA (hdSA A (k + 1) b) (k + 1) c) (k + 1) c l) (k + 1) (cs ++ [(c : Int)]) (ls ++ l.map fun j => (blockZ ((k : Int) + 1) c (j.val : Int), 2)) := by
  have hck : ((k + 1 : Nat) : Int) = (k : Int) + 1 := by omega
  obtain ⟨A1, hA1⟩ : ∃ A1, A1 = giveSA (hdSA A (k + 1) b) (k + 1) c := ⟨_, rfl⟩
  rw [← hA1]
  have is1 : A1.is = A.is := by rw [hA1]; exact giveTo_is _ _ _ _
  have fr1 : ∀ a, a ∈ A1.fr c ↔ a ∈ A.fr c ∨ ∃ j : Nat, j < nb c ∧ a = blockZ ((k : Int) + 1) c j := fun a => by
    rw [hA1]
    have := giveTo_iff (hdSA A (k + 1) b) (k + 1) c (nb c) a
    rw [hck] at this
    exact this
  have nd1 : (A1.fr c).Nodup := by rw [hA1]; exact giveTo_nodup _ _ _ _ hnd
  have oth1 : ∀ d, d ≠ c → A1.fr d = A.fr d := fun d hd => by rw [hA1]; exact giveTo_other _ _ _ _ _ hd
  have cls1 : ∀ d, clsOf A1 d = if d = k + 1 then (c : Int) else clsOf A d := fun d => by
    rw [hA1, giveSA_cls _ _ _ _ (by show k + 1 < (A.hd.set _ _).length; rw [List.length_set]; exact hlen), hdSA_cls]
  have hB := bits_to A1 (k + 1) c nd1 (by rw [is1]; exact h.ua) (by rw [is1]; exact h.nz) l [] A1
    ⟨rfl, fun _ _ => rfl, nd1, fun a => ⟨fun h => ⟨h, fun j hj => (List.not_mem_nil hj).elim⟩, fun h => h.1⟩, fun a => (if_neg (fun ⟨j, hj, _⟩ => (List.not_mem_nil hj).elim)).symm, (by rw [is1]; exact h.ua), (by rw [is1]; exact h.nz)⟩
  rw [List.nil_append] at hB
  obtain ⟨A2, hA2⟩ : ∃ A2, A2 = bitsSA A1 (k + 1) c l := ⟨_, rfl⟩
  rw [← hA2] at hB ⊢
  have hcl := h.cl
  -- old addresses and new ones never meet
  have old : ∀ a, a ∈ ls.map (·.1) → ∀ j : Nat, j < nb c → 1 ≤ c → a ≠ blockZ ((k : Int) + 1) c j := by
    intro a ha j hj c1 e
    obtain ⟨p, hp, rfl⟩ := List.mem_map.1 ha
    obtain ⟨_, _, i, j', c', h1, h2, h3, h4, _, h5⟩ := h.blk p hp
    have := block_same (by omega) hk ⟨h3, h4⟩ ⟨c1, hc⟩ h2 hj (h5.symm.trans e)
    omega
  have cpos : ∀ j ∈ l, 1 ≤ c := fun j hj => by
    have := hl j hj
    rcases Nat.eq_zero_or_pos c with h0 | h0
    · rw [h0] at this; have : nb 0 = 0 := by decide
      omega
    · exact h0
  have newk : ∀ a, a ∈ (l.map fun j => (blockZ ((k : Int) + 1) c (j.val : Int), (2 : Int))).map (·.1) ↔ ∃ j ∈ l, a = blockZ ((k : Int) + 1) c (j.val : Int) := fun a => by
    rw [List.map_map, List.mem_map]
    constructor
    · rintro ⟨j, hj, rfl⟩; exact ⟨j, hj, rfl⟩
    · rintro ⟨j, hj, rfl⟩; exact ⟨j, hj, rfl⟩
  have unew : UniqA (l.map fun j => (blockZ ((k : Int) + 1) c (j.val : Int), (2 : Int))) := by
    unfold UniqA
    rw [List.map_map]
    refine List.pairwise_map.2 (List.Pairwise.imp_of_mem (R := (· ≠ ·)) ?_ hln)
    intro j j' hj hj' hne e
    have hcp := cpos j hj
    have := blockZ_inj (i := k + 1) (by omega) ⟨hcp, hc⟩ (hl j hj) (hl j' hj') (by rw [hck]; exact e)
    exact hne (Fin.ext this)
  have uall : UniqA (ls ++ l.map fun j => (blockZ ((k : Int) + 1) c (j.val : Int), (2 : Int))) := by
    unfold UniqA
    rw [List.map_append, List.nodup_append]
    refine ⟨h.ul, unew, fun x hx y hy e => ?_⟩
    subst e
    obtain ⟨j, hj, e⟩ := (newk x).1 hy
    exact old x hx j.val (hl j hj) (cpos j hj) e
  have isall : ∀ a, isGet (ls ++ l.map fun j => (blockZ ((k : Int) + 1) c (j.val : Int), (2 : Int))) a = if (∃ j ∈ l, a = blockZ ((k : Int) + 1) c (j.val : Int)) then 2 else isGet ls a := fun a => by
    rw [isGet_append]
    by_cases hm : ∃ j ∈ l, a = blockZ ((k : Int) + 1) c (j.val : Int)
    · rw [if_pos hm]
      obtain ⟨j, hj, e⟩ := hm
      rw [if_neg (fun ha => old a ha j.val (hl j hj) (cpos j hj) e)]
      exact unew.get (List.mem_map.2 ⟨j, hj, by rw [e]⟩)
    · rw [if_neg hm]
      by_cases ha : a ∈ ls.map (·.1)
      · rw [if_pos ha]
      · rw [if_neg ha, isGet_not ha, isGet_not (fun hx => hm ((newk a).1 hx))]
  refine ⟨by rw [List.length_append, hcl]; rfl, fun i hi => ?_, fun i hi => ?_, fun a => ?_, hB.ua, uall, hB.nz, fun d d1 d3 => ?_, fun d d1 d3 a => ?_, fun p hp => ?_⟩
  · have h1 : clsOf A2 (i + 1) = clsOf A1 (i + 1) := by unfold clsOf; rw [hB.hd]
    rw [h1, cls1, getD_app, hcl]
    by_cases e : i = k
    · rw [if_pos (by omega), if_pos e]
    · rw [if_neg (by omega), if_neg e]; exact h.cls i (by omega)
  · rw [getD_app, hcl]
    by_cases e : i = k
    · rw [if_pos e]; omega
    · rw [if_neg e]; exact h.le i (by omega)
  · rw [hB.is, isall, hck, is1, h.is]
  · by_cases e : d = c
    · rw [e]; exact hB.nd
    · rw [hB.oth d e, oth1 d e]; exact h.nd d d1 d3
  · -- what is free
    have far : ∀ i j : Nat, i < k → j < nb d → ∀ j' ∈ l, blockZ ((i : Int) + 1) d j ≠ blockZ ((k : Int) + 1) c (j'.val : Int) := by
      intro i j hi hj j' hj' e
      have := block_same (by omega) hk ⟨d1, d3⟩ ⟨cpos j' hj', hc⟩ hj (hl j' hj') e
      omega
    have fold : ∀ a, a ∈ A.fr d → ∃ i j : Nat, i < k + 1 ∧ j < nb d ∧ (cs ++ [(c : Int)]).getD i 0 = (d : Int) ∧ a = blockZ ((i : Int) + 1) d j ∧ isGet (ls ++ l.map fun j => (blockZ ((k : Int) + 1) c (j.val : Int), (2 : Int))) a = 0 := by
      intro a ha
      obtain ⟨i, j, h1, h2, h3, h4, h5⟩ := (h.fr d d1 d3 a).1 ha
      refine ⟨i, j, by omega, h2, by rw [getD_app, hcl, if_neg (by omega)]; exact h3, h4, ?_⟩
      rw [isall, if_neg, h5]
      rintro ⟨j', hj', e⟩
      exact far i j h1 h2 j' hj' (h4.symm.trans e)
    by_cases e : d = c
    · subst e
      rw [hB.fr, fr1]
      constructor
      · rintro ⟨h1 | ⟨j, h1, h2⟩, h3⟩
        · exact fold a h1
        · refine ⟨k, j, by omega, h1, by rw [getD_app, hcl, if_pos rfl], h2, ?_⟩
          rw [isall, if_neg, isGet_not]
          · intro ha; exact old a ha j h1 d1 h2
          · rintro ⟨j', hj', e⟩
            exact h3 j' hj' (by rw [hck]; exact e)
      · rintro ⟨i, j, h1, h2, h3, h4, h5⟩
        rw [isall] at h5
        have hno : ¬ ∃ j ∈ l, a = blockZ ((k : Int) + 1) d (j.val : Int) := fun hx => by rw [if_pos hx] at h5; exact absurd h5 (by decide)
        rw [if_neg hno] at h5
        refine ⟨?_, fun j' hj' e => hno ⟨j', hj', by rw [hck] at e; exact e⟩⟩
        by_cases hik : i = k
        · subst hik; exact Or.inr ⟨j, h2, h4⟩
        · rw [getD_app, hcl, if_neg hik] at h3
          exact Or.inl ((h.fr d d1 d3 a).2 ⟨i, j, by omega, h2, h3, h4, h5⟩)
    · rw [hB.oth d e, oth1 d e]
      constructor
      · exact fold a
      · rintro ⟨i, j, h1, h2, h3, h4, h5⟩
        rw [getD_app, hcl] at h3
        by_cases hik : i = k
        · rw [if_pos hik] at h3
          exfalso; omega
        · rw [if_neg hik] at h3
          rw [isall, if_neg (by rintro ⟨j', hj', e'⟩; exact far i j (by omega) h2 j' hj' (h4.symm.trans e'))] at h5
          exact (h.fr d d1 d3 a).2 ⟨i, j, by omega, h2, h3, h4, h5⟩
  · rcases List.mem_append.1 hp with h1 | h1
    · obtain ⟨h2, h3, i, j, d, h4, h5, h6, h7, h8, h9⟩ := h.blk p h1
      exact ⟨h2, h3, i, j, d, by omega, h5, h6, h7, by rw [getD_app, hcl, if_neg (by omega)]; exact h8, h9⟩
    · obtain ⟨j, hj, rfl⟩ := List.mem_map.1 h1
      exact ⟨by show (1:Int) ≤ 2; decide, by show (2:Int) ≤ 4; decide, k, j.val, c, by omega, hl j hj, cpos j hj, hc, by rw [getD_app, hcl, if_pos rfl], rfl⟩

theorem ofTo_alike (bs : List Int) (n : Nat) (hn : n ≤ 64) (hok : ∀ i, 1 ≤ i → i ≤ n → headOK bs i = true) : ∀ k, k ≤ n → Alike (ofTo bs n k) k (refC bs k) (refL bs k)
  | 0, _ => ⟨rfl, fun i hi => by omega, fun i hi => by omega, fun _ => rfl, List.nodup_nil, List.nodup_nil, fun p hp => (List.not_mem_nil hp).elim, fun c _ _ => List.nodup_nil,
      fun c _ _ a => ⟨fun h => (List.not_mem_nil h).elim, fun ⟨i, _, h, _⟩ => (Nat.not_lt_zero i h).elim⟩, fun p hp => (List.not_mem_nil hp).elim⟩
  | k + 1, hk => by
    have ih := ofTo_alike bs n hn hok k (by omega)
    have ho := hok (k + 1) (by omega) hk
    unfold headOK at ho
    rw [Bool.and_eq_true, decide_eq_true_eq] at ho
    rw [refC_succ, refL_succ]
    have hnb := nb_eq (clsAt bs (k + 1))
    refine ih.next (by omega) (clsAt bs (k + 1)) (bitAt bs (k + 1)) ho.1 (setBits (bitAt bs (k + 1))) (fun j hj => ?_) ?_ ?_ ((ofTo_fr bs n k (by omega) _).nd)
    · have h2 := ho.2
      unfold mayBits at h2
      rw [List.all_eq_true] at h2
      have := h2 j hj
      simp at this
      omega
    · exact (setBits_sorted _).imp fun h e => by rw [e] at h; omega
    · rw [ofTo_hd]; omega
end Go.Proofs.YtbkaemajjaiklaaGreat

/- Blocks that are alike: few entries, few free ones. Plainly. -/
namespace Go.Proofs.YtbkaemajjaiklaaGreat
open Go.RowKit
set_option linter.unusedVariables false
set_option linter.unusedSimpArgs false

theorem len_of_sub : ∀ (xs : List Int), xs.Nodup → (∀ x ∈ xs, ∃ i c j : Nat, i < 6 ∧ j < nb c ∧ x = blockZ ((i : Int) + 1) c j ∧ 1 ≤ c ∧ c ≤ 3) → xs.length ≤ 10000 := by
  intro xs hn hx
  have hsub : ∀ x ∈ xs, x ∈ (List.range 8192).map (fun k : Nat => (k : Int)) := by
    intro x hm
    obtain ⟨i, c, j, h1, h2, rfl, h3, h4⟩ := hx x hm
    have := block_in (i := i) (by omega) ⟨h3, h4⟩ h2
    exact List.mem_map.2 ⟨(blockZ ((i : Int) + 1) c j).toNat, List.mem_range.2 (by omega), by omega⟩
  have h1 : ∀ (xs ys : List Int), xs.Nodup → (∀ x ∈ xs, x ∈ ys) → xs.length ≤ ys.length := by
    intro xs
    induction xs with
    | nil => intro ys _ _; simp
    | cons x xs ih =>
      intro ys hn hs
      rw [List.nodup_cons] at hn
      have hm := hs x (List.mem_cons_self ..)
      have := ih (ys.erase x) hn.2 (fun y hy => by
        exact (List.mem_erase_of_ne (fun e : y = x => hn.1 (by rw [← e]; exact hy))).2 (hs y (List.mem_cons_of_mem _ hy)))
      rw [List.length_erase_of_mem hm] at this
      have hp := List.length_pos_of_mem hm
      simp only [List.length_cons]
      omega
  have := h1 xs _ hn hsub
  rw [List.length_map, List.length_range] at this
  omega
/-- few entries, few free ones -/
theorem Alike.few {A : SA} {n : Nat} {cs : List Int} {ls : List (Int × Int)} (h : Alike A n cs ls) (hn : n ≤ 6) : A.is.length ≤ 50000 ∧ ∀ c, 1 ≤ c → c ≤ 3 → (A.fr c).length ≤ 50000 := by
  constructor
  · have h1 := len_of_sub (A.is.map (fun p : Int × Int => p.1)) h.ua (fun x hx => by
      obtain ⟨p, hp, rfl⟩ := List.mem_map.1 hx
      have hv : isGet A.is p.1 = p.2 := h.ua.get hp
      have hz := h.nz p hp
      rw [h.is] at hv
      have hm := isGet_mem hz hv
      obtain ⟨_, _, i, j, c, h2, h3, h4, h5, _, h6⟩ := h.blk _ hm
      exact ⟨i, c, j, by omega, h3, h6, h4, h5⟩)
    rw [List.length_map] at h1
    omega
  · intro c c1 c3
    have h1 := len_of_sub (A.fr c) (h.nd c c1 c3) (fun x hx => by
      obtain ⟨i, j, h2, h3, _, h4, _⟩ := (h.fr c c1 c3 x).1 hx
      exact ⟨i, c, j, by omega, h3, h4, c1, c3⟩)
    omega

end Go.Proofs.YtbkaemajjaiklaaGreat
