/- Plain: what the document's list stands for. -/
import Derived.Test.YtdhnacajgmjmlaaRefB
namespace Go.Proofs.Ytdhnacajgmjmlaa
open Go.RowKit
set_option linter.unusedVariables false

theorem snocRec {α : Type} {P : List α → Prop} (nil : P []) (snoc : ∀ L p, P L → P (L ++ [p])) (L : List α) : P L := by
  have h : ∀ M : List α, P M.reverse := by
    intro M
    induction M with
    | nil => exact nil
    | cons p M ih => rw [List.reverse_cons]; exact snoc _ _ ih
  have := h L.reverse
  rwa [List.reverse_reverse] at this

def stepL (ps : PairL) (p : Int × ByteArray × Bool) : PairL := if p.2.2 then delM p.1 ps else putM p.1 p.2.1 ps
def absL (L : RL) : PairL := L.foldl stepL []
theorem absL_snoc (L : RL) (p : Int × ByteArray × Bool) : absL (L ++ [p]) = stepL (absL L) p := by unfold absL; rw [List.foldl_append]; rfl
theorem absL_put (L : RL) (k : Int) (s : ByteArray) : absL (L ++ [(k, s, false)]) = putM k s (absL L) := by rw [absL_snoc]; rfl
theorem absL_del (L : RL) (k : Int) (s : ByteArray) : absL (L ++ [(k, s, true)]) = delM k (absL L) := by rw [absL_snoc]; rfl
theorem rises_nil : Rises [] := fun i j hij hj => by simp at hj
theorem absL_rises (L : RL) : Rises (absL L) := by
  induction L using snocRec with
  | nil => exact rises_nil
  | snoc L p ih =>
    rw [absL_snoc]; unfold stepL; split
    · exact delM_rises ih
    · exact putM_rises ih
theorem absL_length (L : RL) : (absL L).length ≤ L.length := by
  induction L using snocRec with
  | nil => simp [absL]
  | snoc L p ih =>
    rw [absL_snoc]; unfold stepL; split
    · have := delM_length p.1 (absL L); simp; omega
    · have := putM_length p.1 p.2.1 (absL L); simp; omega

theorem mem_split {k : Int} {ps : PairL} (p : Int × ByteArray) : p ∈ ps ↔ p ∈ ps.take (placeI k ps) ∨ p ∈ ps.drop (placeI k ps) := by
  rw [← List.mem_append, List.take_append_drop]
theorem placeB_true {k : Int} {ps : PairL} (h : placeB k ps = true) : (ps[placeI k ps]'(placeB_lt h)).1 = k := by
  have hlt := placeB_lt h
  rw [placeB_in hlt] at h
  simpa using h
theorem drop_eq {k : Int} {ps : PairL} (h : placeB k ps = true) : ps.drop (placeI k ps) = ps[placeI k ps]'(placeB_lt h) :: ps.drop (placeI k ps + 1) :=
  List.drop_eq_getElem_cons (placeB_lt h)
theorem rest_iff {k : Int} {ps : PairL} (hr : Rises ps) (p : Int × ByteArray) :
    p ∈ ps.take (placeI k ps) ++ ps.drop (if placeB k ps then placeI k ps + 1 else placeI k ps) ↔ p ∈ ps ∧ p.1 ≠ k := by
  rw [List.mem_append]
  constructor
  · rintro (h | h)
    · exact ⟨List.mem_of_mem_take h, by have := take_lt p h; omega⟩
    · exact ⟨List.mem_of_mem_drop h, by have := drop_gt hr p h; omega⟩
  · rintro ⟨h, hne⟩
    rcases (mem_split (k := k) p).1 h with h | h
    · exact Or.inl h
    · right
      cases hb : placeB k ps with
      | true =>
        rw [drop_eq hb, List.mem_cons] at h
        rcases h with rfl | h
        · exact absurd (placeB_true hb) hne
        · simpa using h
      | false => simpa using h
theorem mem_putM {k : Int} {s : ByteArray} {ps : PairL} (hr : Rises ps) (p : Int × ByteArray) : p ∈ putM k s ps ↔ p = (k, s) ∨ (p ∈ ps ∧ p.1 ≠ k) := by
  unfold putM
  rw [← rest_iff hr, List.mem_append, List.mem_append, List.mem_append, List.mem_singleton]
  constructor
  · rintro ((h | h) | h)
    · exact Or.inr (Or.inl h)
    · exact Or.inl h
    · exact Or.inr (Or.inr h)
  · rintro (h | h | h)
    · exact Or.inl (Or.inr h)
    · exact Or.inl (Or.inl h)
    · exact Or.inr h
theorem mem_delM {k : Int} {ps : PairL} (hr : Rises ps) (p : Int × ByteArray) : p ∈ delM k ps ↔ p ∈ ps ∧ p.1 ≠ k := by
  rw [← rest_iff hr]
  unfold delM
  cases hb : placeB k ps with
  | true => simp
  | false => simp only [Bool.false_eq_true, if_false]; rw [List.take_append_drop]

theorem findN_snoc (k : Int) (L : RL) (p : Int × ByteArray × Bool) (i : Nat) (hi : i ≤ L.length) : findN k (L ++ [p]) i = findN k L i := by
  induction i with
  | zero => rfl
  | succ i ih =>
    have hil : i < L.length := by omega
    rw [findN, findN, List.getElem?_append_left hil, ih (by omega)]
theorem findZ_snoc (k : Int) (L : RL) (p : Int × ByteArray × Bool) : findZ k (L ++ [p]) = if p.1 = k then (if p.2.2 then -1 else (L.length : Int)) else findZ k L := by
  have hl : L.length < (L ++ [p]).length := by simp
  have hg : (L ++ [p])[L.length]'hl = p := by simp
  unfold findZ
  rw [List.length_append, List.length_singleton]
  by_cases h : p.1 = k
  · rw [findN_hit hl (by rw [hg]; simpa using h), hg, if_pos h]
  · rw [findN_miss hl (by rw [hg]; simpa using h), if_neg h, findN_snoc k L p _ (Nat.le_refl _)]
theorem findZ_lt (k : Int) (L : RL) : findZ k L < L.length ∧ -1 ≤ findZ k L := by
  have : ∀ i, i ≤ L.length → findN k L i < (i : Int) ∧ -1 ≤ findN k L i := by
    intro i
    induction i with
    | zero => intro _; simp [findN]
    | succ i ih =>
      intro hi
      have h1 := ih (by omega)
      have hil : i < L.length := by omega
      cases hk : (L[i].1 == k) with
      | true =>
        rw [findN_hit hil hk]
        split <;> omega
      | false => rw [findN_miss hil hk]; omega
  exact this L.length (Nat.le_refl _)

/-- an entry that counts -/
def LiveAt (L : RL) (i : Nat) (p : Int × ByteArray) : Prop := ∃ q, L[i]? = some q ∧ findZ p.1 L = (i : Int) ∧ q.1 = p.1 ∧ q.2.1 = p.2
theorem mem_absL (L : RL) (p : Int × ByteArray) : p ∈ absL L ↔ ∃ i, LiveAt L i p := by
  induction L using snocRec generalizing p with
  | nil =>
    constructor
    · intro h; simp [absL] at h
    · rintro ⟨i, q, h, _⟩; simp at h
  | snoc L q ih =>
    rw [absL_snoc]
    have hf := findZ_snoc p.1 L q
    by_cases hk : q.1 = p.1
    · rw [if_pos hk] at hf
      cases hg : q.2.2 with
      | true =>
        rw [hg] at hf
        simp only [if_true] at hf
        simp only [stepL, hg, if_true]
        rw [mem_delM (absL_rises L)]
        constructor
        · rintro ⟨_, h⟩; exact absurd hk.symm h
        · rintro ⟨i, r, _, h, _⟩; rw [hf] at h; omega
      | false =>
        rw [hg] at hf
        simp only [Bool.false_eq_true, if_false] at hf
        simp only [stepL, hg, Bool.false_eq_true, if_false]
        rw [mem_putM (absL_rises L)]
        constructor
        · rintro (h | ⟨_, h⟩)
          · exact ⟨L.length, q, by simp, hf, hk, by rw [h]⟩
          · exact absurd hk.symm h
        · rintro ⟨i, r, hr, h, h1, h2⟩
          rw [hf] at h
          obtain rfl : L.length = i := by omega
          simp at hr
          subst hr
          exact Or.inl (Prod.ext h1.symm h2.symm)
    · rw [if_neg hk] at hf
      have hst : p ∈ stepL (absL L) q ↔ p ∈ absL L := by
        unfold stepL
        split
        · rw [mem_delM (absL_rises L)]
          exact ⟨fun h => h.1, fun h => ⟨h, fun e => hk e.symm⟩⟩
        · rw [mem_putM (absL_rises L)]
          exact ⟨fun h => h.elim (fun e => absurd (by rw [e]) hk) (fun h => h.1), fun h => Or.inr ⟨h, fun e => hk e.symm⟩⟩
      rw [hst, ih]
      constructor
      · rintro ⟨i, r, hr, h, h1⟩
        exact ⟨i, r, by rw [List.getElem?_append_left (List.getElem?_eq_some_iff.1 hr).1]; exact hr, by rw [hf]; exact h, h1⟩
      · rintro ⟨i, r, hr, h, h1⟩
        have hl := findZ_lt p.1 L
        rw [hf] at h
        have hil : i < L.length := by omega
        rw [List.getElem?_append_left hil] at hr
        exact ⟨i, r, hr, h, h1⟩

/-- Find says whether a key is there, and Get's value is the entry's -/
theorem rises_inj {ps : PairL} (hr : Rises ps) {p q : Int × ByteArray} (hp : p ∈ ps) (hq : q ∈ ps) (h : p.1 = q.1) : p = q := by
  obtain ⟨i, hi, rfl⟩ := List.mem_iff_getElem.1 hp
  obtain ⟨j, hj, rfl⟩ := List.mem_iff_getElem.1 hq
  rcases Nat.lt_trichotomy i j with hij | hij | hij
  · have := hr i j hij hj; omega
  · subst hij; rfl
  · have := hr j i hij hi; omega
theorem placeB_iff {k : Int} {ps : PairL} (hr : Rises ps) : placeB k ps = true ↔ ∃ s, (k, s) ∈ ps := by
  constructor
  · intro h
    refine ⟨(ps[placeI k ps]'(placeB_lt h)).2, ?_⟩
    have h1 : (k, (ps[placeI k ps]'(placeB_lt h)).2) = ps[placeI k ps]'(placeB_lt h) := Prod.ext (placeB_true h).symm rfl
    rw [h1]; exact List.getElem_mem _
  · rintro ⟨s, hs⟩
    cases hb : placeB k ps with
    | true => rfl
    | false =>
      exfalso
      have := (rest_iff (k := k) hr (k, s)).1 (by rw [hb]; simpa using hs)
      exact this.2 rfl
theorem getM_mem {k : Int} {ps : PairL} (h : placeB k ps = true) : (k, getM k ps) ∈ ps := by
  rw [getM_in h]
  have h1 : (k, (ps[placeI k ps]'(placeB_lt h)).2) = ps[placeI k ps]'(placeB_lt h) := Prod.ext (placeB_true h).symm rfl
  rw [h1]; exact List.getElem_mem _
theorem find_there (k : Int) (L : RL) : placeB k (absL L) = true ↔ 0 ≤ findZ k L := by
  rw [placeB_iff (absL_rises L)]
  constructor
  · rintro ⟨s, hs⟩
    obtain ⟨i, q, _, h, _⟩ := (mem_absL L _).1 hs
    simp only at h; omega
  · intro h
    have hl := findZ_lt k L
    obtain ⟨i, hi⟩ := Int.eq_ofNat_of_zero_le h
    have hil : i < L.length := by omega
    -- the entry at the place has the key
    have hkey : L[i].1 = k := by
      have : ∀ j, j ≤ L.length → findN k L j = (i : Int) → L[i].1 = k := by
        intro j
        induction j with
        | zero => intro _ h; simp only [findN] at h; omega
        | succ j ih =>
          intro hj h
          have hjl : j < L.length := by omega
          cases hk : (L[j].1 == k) with
          | true =>
            rw [findN_hit hjl hk] at h
            split at h
            · omega
            · have : j = i := by omega
              subst this; simpa using hk
          | false => rw [findN_miss hjl hk] at h; exact ih (by omega) h
      exact this _ (Nat.le_refl _) hi
    exact ⟨L[i].2.1, (mem_absL L _).2 ⟨i, L[i], List.getElem?_eq_getElem hil, hi, hkey, rfl⟩⟩
theorem find_value {k : Int} {L : RL} {i : Nat} (h : findZ k L = (i : Int)) : ∃ hi : i < L.length, L[i].1 = k ∧ L[i].2.1 = getM k (absL L) := by
  have hl := findZ_lt k L
  have hil : i < L.length := by omega
  have hb := (find_there k L).2 (by omega)
  obtain ⟨j, q, hq, hj, h1, h2⟩ := (mem_absL L _).1 (getM_mem hb)
  simp only at hj h1 h2
  obtain rfl : i = j := by omega
  rw [List.getElem?_eq_getElem hil] at hq
  injection hq with hq
  exact ⟨hil, by rw [hq]; exact h1, by rw [hq]; exact h2⟩

end Go.Proofs.Ytdhnacajgmjmlaa
