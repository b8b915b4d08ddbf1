/- What may last of a memory's lines, plainly: a line's stores, its marks, cut anywhere. No program. -/
import Derived.Test.YtbkaemajjaiklaaGreatPmW
import Derived.Test.YtbkaemajjaiklaaGreatFreeM
import Derived.Test.YtbkaemajjaiklaaGreatGameN
import Derived.Test.YtbkaemajjaiklaaGreatGameC
import Derived.Test.YtbkaemajjaiklaaGreatPmT
import Derived.Test.YtbkaemajjaiklaaGreatRefM

namespace Go.Proofs.YtbkaemajjaiklaaGreat
open Go.RowKit
set_option linter.unusedVariables false
set_option linter.unusedSimpArgs false

def lineOf (m : MA) (A : Nat) : LP := (m.lines.find? (fun l => decide (l.adr = A))).getD ⟨A, [], ks0⟩
structure MAok (m : MA) : Prop where
  keys : m.lines.Pairwise fun a b => a.adr ≠ b.adr
  marks : ∀ l ∈ m.lines, l.ks.length = 65
  most : ∀ l ∈ m.lines, ∀ k ∈ l.ks, k ≤ l.ps.length
  puts : ∀ l ∈ m.lines, ∀ p ∈ l.ps, p.1 % 8 = 0 ∧ p.1 / 8 < m.view.length ∧ p.1 - p.1 % 64 = l.adr
  ne : ∀ l ∈ m.lines, l.ps ≠ []
  len : m.image.length = m.view.length
theorem MAok.of {w : World} {m : Nat} {B : MB} {M : MemS} (h : MemIs w m B M) : MAok (absM M) := by
  refine ⟨?_, fun l hl => ?_, fun l hl k hk => ?_, fun l hl p hp => ?_, fun l hl => ?_, h.len⟩
  · show (M.lines.map absL).Pairwise _
    rw [List.pairwise_map]
    exact h.keys
  · obtain ⟨L, hL, rfl⟩ := List.mem_map.1 hl; exact (h.ok L hL).marks
  · obtain ⟨L, hL, rfl⟩ := List.mem_map.1 hl; exact (h.ok L hL).most k hk
  · obtain ⟨L, hL, rfl⟩ := List.mem_map.1 hl; exact (h.ok L hL).puts p hp
  · obtain ⟨L, hL, rfl⟩ := List.mem_map.1 hl; exact (h.ok L hL).some_
theorem find_adr : ∀ {ls : List LP}, ls.Pairwise (fun a b => a.adr ≠ b.adr) → ∀ {l : LP}, l ∈ ls → ls.find? (fun x => decide (x.adr = l.adr)) = some l
  | [], _, l, h => by cases h
  | x :: ls, hp, l, h => by
    have hp' := List.pairwise_cons.1 hp
    rcases List.mem_cons.1 h with rfl | h1
    · rw [List.find?_cons_of_pos (by simp)]
    · rw [List.find?_cons_of_neg (by simpa using hp'.1 l h1)]
      exact find_adr hp'.2 h1
theorem lineOf_mem {m : MA} (hk : MAok m) {l : LP} (h : l ∈ m.lines) : lineOf m l.adr = l := by
  unfold lineOf; rw [find_adr hk.keys h]; rfl
theorem lineOf_none {m : MA} {A : Nat} (h : ∀ l ∈ m.lines, l.adr ≠ A) : lineOf m A = ⟨A, [], ks0⟩ := by
  unfold lineOf
  rw [List.find?_eq_none.2 (fun l hl => by simpa using h l hl)]; rfl
theorem lineOf_or {m : MA} (hk : MAok m) (A : Nat) : (lineOf m A ∈ m.lines ∧ (lineOf m A).adr = A) ∨ ((∀ l ∈ m.lines, l.adr ≠ A) ∧ lineOf m A = ⟨A, [], ks0⟩) := by
  by_cases h : ∃ l ∈ m.lines, l.adr = A
  · obtain ⟨l, hl, rfl⟩ := h
    rw [lineOf_mem hk hl]
    exact Or.inl ⟨hl, rfl⟩
  · have h' : ∀ l ∈ m.lines, l.adr ≠ A := fun l hl e => h ⟨l, hl, e⟩
    exact Or.inr ⟨h', lineOf_none h'⟩
theorem markP_ks0 (A : Nat) (d : Nat) : markP ⟨A, [], ks0⟩ d = 0 := by
  unfold markP ks0
  rw [List.getElem?_replicate]
  split <;> rfl
theorem markP_le {m : MA} (hk : MAok m) (A d : Nat) : markP (lineOf m A) d ≤ (lineOf m A).ps.length := by
  rcases lineOf_or hk A with ⟨h, _⟩ | ⟨_, h⟩
  · unfold markP
    cases hd : (lineOf m A).ks[d]? with
    | none => exact Nat.zero_le _
    | some k => exact hk.most _ h k (List.mem_of_getElem? hd)
  · rw [h, markP_ks0]; exact Nat.zero_le _
theorem lineOf_puts {m : MA} (hk : MAok m) (A : Nat) : ∀ p ∈ (lineOf m A).ps, p.1 % 8 = 0 ∧ p.1 / 8 < m.view.length ∧ p.1 - p.1 % 64 = A := by
  intro p hp
  rcases lineOf_or hk A with ⟨h, e⟩ | ⟨_, h⟩
  · have := hk.puts _ h p hp
    rw [e] at this; exact this
  · rw [h] at hp; cases hp

/-- a store -/
theorem find_addP (adr : Nat) (p : Nat × Int) (A : Nat) : ∀ ls : List LP, (addP adr p ls).find? (fun l => decide (l.adr = A)) =
    if A = adr then some ⟨adr, ((ls.find? (fun l => decide (l.adr = adr))).getD ⟨adr, [], ks0⟩).ps ++ [p], ((ls.find? (fun l => decide (l.adr = adr))).getD ⟨adr, [], ks0⟩).ks⟩ else ls.find? (fun l => decide (l.adr = A))
  | [] => by
    show List.find? _ [(⟨adr, [p], ks0⟩ : LP)] = _
    by_cases h : A = adr
    · rw [if_pos h, List.find?_cons_of_pos (by simp [h])]; rfl
    · rw [if_neg h, List.find?_cons_of_neg (by simpa using fun e => h e.symm)]
  | x :: ls => by
    show List.find? _ (if x.adr = adr then ⟨x.adr, x.ps ++ [p], x.ks⟩ :: ls else x :: addP adr p ls) = _
    by_cases hx : x.adr = adr
    · rw [if_pos hx]
      by_cases h : A = adr
      · rw [if_pos h, List.find?_cons_of_pos (by simp [h, hx]), List.find?_cons_of_pos (by simp [hx])]
        simp [hx]
      · rw [if_neg h, List.find?_cons_of_neg (by simpa [hx] using fun e => h e.symm), List.find?_cons_of_neg (by simpa [hx] using fun e => h e.symm)]
    · rw [if_neg hx]
      have ih := find_addP adr p A ls
      by_cases h : A = adr
      · have hxA : ¬ x.adr = A := by rw [h]; exact hx
        rw [if_pos h] at ih ⊢
        rw [List.find?_cons_of_neg (by simpa using hxA), ih, List.find?_cons_of_neg (by simpa using hx)]
      · rw [if_neg h] at ih ⊢
        by_cases hxA : x.adr = A
        · rw [List.find?_cons_of_pos (by simpa using hxA), List.find?_cons_of_pos (by simpa using hxA)]
        · rw [List.find?_cons_of_neg (by simpa using hxA), List.find?_cons_of_neg (by simpa using hxA), ih]
theorem store_line (m : MA) (k : Nat) (x : Int) (A : Nat) : lineOf (storeA m k x) A = if A = lineAt k then ⟨A, (lineOf m A).ps ++ [(8 * k, x)], (lineOf m A).ks⟩ else lineOf m A := by
  unfold lineOf storeA
  simp only [find_addP]
  by_cases h : A = lineAt k
  · subst h; simp
  · rw [if_neg h, if_neg h]
/-- a flush -/
theorem find_map (f : LP → LP) (hf : ∀ l, (f l).adr = l.adr) (A : Nat) : ∀ ls : List LP, (ls.map f).find? (fun l => decide (l.adr = A)) = (ls.find? (fun l => decide (l.adr = A))).map f
  | [] => rfl
  | x :: ls => by
    rw [List.map_cons]
    by_cases h : x.adr = A
    · rw [List.find?_cons_of_pos (by simp [hf, h]), List.find?_cons_of_pos (by simp [h])]; rfl
    · rw [List.find?_cons_of_neg (by simp [hf, h]), List.find?_cons_of_neg (by simp [h]), find_map f hf A ls]
theorem flushL_adr (c k : Nat) (l : LP) : (flushL c k l).adr = l.adr := by unfold flushL; split <;> rfl
theorem flush_line {m : MA} (hk : MAok m) (c k : Nat) (hc : c ≤ 64) (A : Nat) : (lineOf (flushA m c k) A).ps = (lineOf m A).ps ∧ ∀ d, markP (lineOf (flushA m c k) A) d = if A = lineAt k ∧ d = c then (lineOf m A).ps.length else markP (lineOf m A) d := by
  have e : lineOf (flushA m c k) A = ((m.lines.find? (fun l => decide (l.adr = A))).map (flushL c k)).getD ⟨A, [], ks0⟩ := by
    unfold lineOf flushA
    simp only [find_map _ (flushL_adr c k)]
  rcases lineOf_or hk A with ⟨h, ha⟩ | ⟨h, h0⟩
  · have hf : m.lines.find? (fun l => decide (l.adr = A)) = some (lineOf m A) := by
      have := find_adr hk.keys h
      rw [ha] at this; exact this
    rw [e, hf]
    show (flushL c k (lineOf m A)).ps = _ ∧ ∀ d, markP (flushL c k (lineOf m A)) d = _
    unfold flushL
    rw [ha]
    by_cases hA : A = lineAt k
    · rw [if_pos hA]
      refine ⟨rfl, fun d => ?_⟩
      have hl := hk.marks _ h
      unfold markP
      by_cases hd : d = c
      · rw [if_pos ⟨hA, hd⟩, hd]
        show (((lineOf m A).ks.set c (lineOf m A).ps.length)[c]?).getD 0 = _
        rw [List.getElem?_set_self (by omega)]; rfl
      · rw [if_neg (fun hh => hd hh.2)]
        show (((lineOf m A).ks.set c (lineOf m A).ps.length)[d]?).getD 0 = _
        rw [List.getElem?_set_ne (fun e => hd e.symm)]
    · rw [if_neg hA]
      exact ⟨rfl, fun d => by rw [if_neg (fun hh => hA hh.1)]⟩
  · have hf : m.lines.find? (fun l => decide (l.adr = A)) = none := List.find?_eq_none.2 (fun l hl => by simpa using h l hl)
    rw [e, hf, h0]
    refine ⟨rfl, fun d => ?_⟩
    show markP ⟨A, [], ks0⟩ d = _
    split
    · rw [markP_ks0]; rfl
    · rfl
/-- stores let last -/
theorem find_cut (f : LP → Nat) (A : Nat) : ∀ ls : List LP, ls.Pairwise (fun a b => a.adr ≠ b.adr) → (ls.flatMap fun l => cutP l (f l)).find? (fun l => decide (l.adr = A)) = (ls.find? (fun l => decide (l.adr = A))).bind fun l => (cutP l (f l)).head?
  | [], _ => rfl
  | x :: ls, hp => by
    have hp' := List.pairwise_cons.1 hp
    have ih := find_cut f A ls hp'.2
    rw [List.flatMap_cons, List.find?_append]
    by_cases h : x.adr = A
    · rw [List.find?_cons_of_pos (by simp [h])]
      have hn : ls.find? (fun l => decide (l.adr = A)) = none := List.find?_eq_none.2 (fun l hl => by simpa using fun e => hp'.1 l hl (h.trans e.symm))
      rw [ih, hn, Option.bind_none, Option.or_none]
      show _ = (cutP x (f x)).head?
      unfold cutP
      by_cases hx : f x = x.ps.length
      · rw [if_pos hx]; rfl
      · rw [if_neg hx, List.find?_cons_of_pos (by simp [h])]; rfl
    · rw [List.find?_cons_of_neg (by simp [h]), ← ih]
      have : (cutP x (f x)).find? (fun l => decide (l.adr = A)) = none := by
        unfold cutP
        split
        · rfl
        · simp [h]
      rw [this]; rfl
theorem cut_line {m m' : MA} (hk : MAok m) (f : LP → Nat) (hl : m'.lines = m.lines.flatMap fun l => cutP l (f l)) (hf : ∀ A, f (lineOf m A) ≤ (lineOf m A).ps.length) (A : Nat) :
    (lineOf m' A).ps = (lineOf m A).ps.drop (f (lineOf m A)) ∧ ∀ d, markP (lineOf m' A) d = markP (lineOf m A) d - f (lineOf m A) := by
  have e : lineOf m' A = ((m.lines.find? (fun l => decide (l.adr = A))).bind fun l => (cutP l (f l)).head?).getD ⟨A, [], ks0⟩ := by
    unfold lineOf
    rw [hl, find_cut f A _ hk.keys]
  rcases lineOf_or hk A with ⟨h, ha⟩ | ⟨h, h0⟩
  · have hfd : m.lines.find? (fun l => decide (l.adr = A)) = some (lineOf m A) := by
      have := find_adr hk.keys h
      rw [ha] at this; exact this
    rw [e, hfd]
    show (((cutP (lineOf m A) (f (lineOf m A))).head?).getD ⟨A, [], ks0⟩).ps = _ ∧ ∀ d, markP (((cutP (lineOf m A) (f (lineOf m A))).head?).getD ⟨A, [], ks0⟩) d = _
    unfold cutP
    by_cases hx : f (lineOf m A) = (lineOf m A).ps.length
    · rw [if_pos hx]
      refine ⟨by show [] = _; rw [hx, List.drop_length], fun d => ?_⟩
      show markP ⟨A, [], ks0⟩ d = _
      have := markP_le hk A d
      rw [markP_ks0]; omega
    · rw [if_neg hx]
      refine ⟨rfl, fun d => ?_⟩
      show (((lineOf m A).ks.map (· - f (lineOf m A)))[d]?).getD 0 = (((lineOf m A).ks[d]?).getD 0) - _
      rw [List.getElem?_map]
      cases (lineOf m A).ks[d]? with
      | none => simp
      | some k => rfl
  · have hfd : m.lines.find? (fun l => decide (l.adr = A)) = none := List.find?_eq_none.2 (fun l hl => by simpa using h l hl)
    rw [e, hfd, h0]
    refine ⟨by simp, fun d => ?_⟩
    show markP ⟨A, [], ks0⟩ d = _
    rw [markP_ks0]; omega

/-- which word a line's stores turn -/
theorem lastPut_other {m : MA} (hk : MAok m) {A i : Nat} (h : A ≠ lineAt i) (k : Nat) (b : Int) : lastPut ((lineOf m A).ps.take k) i b = b := by
  refine lastPut_id (fun p hp e => ?_) b
  obtain ⟨h1, _, h3⟩ := lineOf_puts hk A p (List.mem_of_mem_take hp)
  apply h
  unfold lineAt
  have : p.1 = 8 * i := by omega
  omega
theorem fold_last (f : LP → Nat) (i : Nat) : ∀ (ls : List LP), ls.Pairwise (fun a b => a.adr ≠ b.adr) → (∀ l ∈ ls, l.adr ≠ lineAt i → ∀ b k, lastPut (l.ps.take k) i b = b) → ∀ b : Int,
    ls.foldl (fun b l => lastPut (l.ps.take (f l)) i b) b = lastPut (((ls.find? (fun l => decide (l.adr = lineAt i))).getD ⟨lineAt i, [], ks0⟩).ps.take (f ((ls.find? (fun l => decide (l.adr = lineAt i))).getD ⟨lineAt i, [], ks0⟩))) i b
  | [], _, _, b => by simp [lastPut]
  | x :: ls, hp, ho, b => by
    have hp' := List.pairwise_cons.1 hp
    rw [List.foldl_cons]
    by_cases h : x.adr = lineAt i
    · rw [List.find?_cons_of_pos (by simp [h])]
      have : ∀ (ls : List LP), (∀ l ∈ ls, l.adr ≠ lineAt i ∧ ∀ b k, lastPut (l.ps.take k) i b = b) → ∀ b, ls.foldl (fun b l => lastPut (l.ps.take (f l)) i b) b = b := by
        intro ls
        induction ls with
        | nil => intro _ b; rfl
        | cons y ls ih =>
          intro hy b
          rw [List.foldl_cons, (hy y (List.mem_cons_self ..)).2]
          exact ih (fun l hl => hy l (List.mem_cons_of_mem _ hl)) b
      rw [this ls (fun l hl => ⟨fun e => hp'.1 l hl (h.trans e.symm), ho l (List.mem_cons_of_mem _ hl) (fun e => hp'.1 l hl (h.trans e.symm))⟩)]
      rfl
    · rw [List.find?_cons_of_neg (by simp [h]), ho x (List.mem_cons_self ..) h]
      exact fold_last f i ls hp'.2 (fun l hl => ho l (List.mem_cons_of_mem _ hl)) b
/-- a header's word, behind so many of its line's stores -/
def wordAt (m : MA) (i k : Nat) : Int := lastPut ((lineOf m (lineAt i)).ps.take k) i (at0 m.image i)
theorem wordAt_zero (m : MA) (i : Nat) : wordAt m i 0 = at0 m.image i := by unfold wordAt; rw [List.take_zero]; rfl
theorem lastPut_app (xs ys : List (Nat × Int)) (i : Nat) (b : Int) : lastPut (xs ++ ys) i b = lastPut ys i (lastPut xs i b) := List.foldl_append
theorem wordAt_cut {m m' : MA} {i k : Nat} (hp : (lineOf m' (lineAt i)).ps = (lineOf m (lineAt i)).ps.drop k) (hi : at0 m'.image i = wordAt m i k) (r : Nat) : wordAt m' i r = wordAt m i (k + r) := by
  unfold wordAt at hi ⊢
  rw [hp, hi, ← lastPut_app]
  congr 1
  rw [List.take_add]
theorem wordAt_store {m : MA} (hk : MAok m) (k : Nat) (x : Int) (i r : Nat) : wordAt (storeA m k x) i r = if lineAt i = lineAt k ∧ (lineOf m (lineAt i)).ps.length < r then (if i = k then x else wordAt m i (lineOf m (lineAt i)).ps.length) else wordAt m i r := by
  unfold wordAt
  rw [store_line]
  by_cases h : lineAt i = lineAt k
  · rw [if_pos h]
    show lastPut (((lineOf m (lineAt i)).ps ++ [(8 * k, x)]).take r) i (at0 m.image i) = _
    by_cases hr : (lineOf m (lineAt i)).ps.length < r
    · rw [if_pos ⟨h, hr⟩, List.take_of_length_le (by simp; omega), lastPut_app, List.take_length]
      show (if 8 * k / 8 = i then x else _) = _
      by_cases hik : i = k
      · rw [if_pos hik, if_pos (by omega)]
      · rw [if_neg hik, if_neg (by omega)]
    · rw [if_neg (fun hh => hr hh.2), List.take_append_of_le_length (by omega)]
  · rw [if_neg h, if_neg (fun hh => h hh.1)]
    rfl
theorem wordAt_flush {m : MA} (hk : MAok m) (c k : Nat) (hc : c ≤ 64) (i r : Nat) : wordAt (flushA m c k) i r = wordAt m i r := by
  unfold wordAt
  rw [(flush_line hk c k hc _).1]
  rfl
/-- a fence: each line is cut where the client marked -/
theorem fence_line {m : MA} (hk : MAok m) (c A : Nat) : (lineOf (fenceA m c) A).ps = (lineOf m A).ps.drop (markP (lineOf m A) c) ∧ ∀ d, markP (lineOf (fenceA m c) A) d = markP (lineOf m A) d - markP (lineOf m A) c :=
  cut_line hk (fun l => markP l c) rfl (fun A => markP_le hk A c) A
theorem fence_image {m : MA} (hk : MAok m) (c i : Nat) (hi : i < m.view.length) : at0 (fenceA m c).image i = wordAt m i (markP (lineOf m (lineAt i)) c) := by
  have hl := hk.len
  show at0 (m.image.mapIdx fun i b => m.lines.foldl (fun b l => lastPut (l.ps.take (markP l c)) i b) b) i = _
  unfold at0 wordAt at0
  rw [List.getElem?_mapIdx, List.getElem?_eq_getElem (by omega)]
  show m.lines.foldl (fun b l => lastPut (l.ps.take (markP l c)) i b) (m.image[i]) = lastPut _ i (m.image[i])
  rw [fold_last (fun l => markP l c) i m.lines hk.keys (fun l hl hne b k => ?_)]
  · rfl
  · have := lastPut_other hk hne k b
    rw [lineOf_mem hk hl] at this; exact this
theorem wordAt_fence {m : MA} (hk : MAok m) (c i : Nat) (hi : i < m.view.length) (r : Nat) : wordAt (fenceA m c) i r = wordAt m i (markP (lineOf m (lineAt i)) c + r) :=
  wordAt_cut (fence_line hk c _).1 (fence_image hk c i hi) r
theorem flatMap_same {α β : Type} (f g : α → List β) : ∀ ls : List α, (∀ l ∈ ls, f l = g l) → ls.flatMap f = ls.flatMap g
  | [], _ => rfl
  | x :: ls, h => by rw [List.flatMap_cons, List.flatMap_cons, h x (List.mem_cons_self ..), flatMap_same f g ls (fun l hl => h l (List.mem_cons_of_mem _ hl))]
/-- an eviction: one line is cut -/
def evK (k n : Nat) (l : LP) : Nat := if l.adr = lineAt k then min n l.ps.length else 0
theorem evict_line {m : MA} (hk : MAok m) (k n A : Nat) : (lineOf (evictA m k n) A).ps = (lineOf m A).ps.drop (evK k n (lineOf m A)) ∧ ∀ d, markP (lineOf (evictA m k n) A) d = markP (lineOf m A) d - evK k n (lineOf m A) := by
  refine cut_line hk (evK k n) ?_ (fun A => ?_) A
  · show m.lines.flatMap (evictL k n) = _
    have : ∀ l ∈ m.lines, evictL k n l = cutP l (evK k n l) := by
      intro l hl
      unfold evictL evK
      by_cases h : l.adr = lineAt k
      · rw [if_pos h, if_pos h]
      · rw [if_neg h, if_neg h]
        unfold cutP
        have hne := hk.ne l hl
        rw [if_neg (fun e => hne (List.length_eq_zero_iff.1 e.symm))]
        simp
    exact flatMap_same _ _ _ this
  · unfold evK
    split
    · exact Nat.min_le_right _ _
    · exact Nat.zero_le _
theorem evict_image {m : MA} (hk : MAok m) (k n i : Nat) : at0 (evictA m k n).image i = wordAt m i (evK k n (lineOf m (lineAt i))) := by
  show at0 (m.lines.foldl (evictI k n) m.image) i = _
  have key : ∀ (ls : List LP), ls.Pairwise (fun a b => a.adr ≠ b.adr) → (∀ l ∈ ls, l ∈ m.lines) → ∀ im : List Int, im.length = m.image.length → (ls.foldl (evictI k n) im)[i]? = im[i]?.map (fun b => ls.foldl (fun b l => lastPut (l.ps.take (evK k n l)) i b) b) := by
    intro ls
    induction ls with
    | nil => intro _ _ im _; simp
    | cons x ls ih =>
      intro hp hm im him
      have hp' := List.pairwise_cons.1 hp
      rw [List.foldl_cons]
      have hx : (evictI k n im x)[i]? = im[i]?.map (fun b => lastPut (x.ps.take (evK k n x)) i b) := by
        unfold evictI evK
        by_cases h : x.adr = lineAt k
        · rw [if_pos h, if_pos h, applyPuts_get]
        · rw [if_neg h, if_neg h, List.take_zero]
          simp [lastPut]
      have hlen : (evictI k n im x).length = m.image.length := by
        unfold evictI
        split
        · rw [applyPuts_length, him]
        · exact him
      rw [ih hp'.2 (fun l hl => hm l (List.mem_cons_of_mem _ hl)) _ hlen, hx, Option.map_map]
      rfl
  unfold at0 wordAt at0
  rw [key m.lines hk.keys (fun _ h => h) m.image rfl]
  cases hmi : m.image[i]? with
  | none =>
    -- no such word: no store of a line lies there
    show (0 : Int) = lastPut _ i 0
    rw [lastPut_id]
    intro p hp e
    have h1 := lineOf_puts hk (lineAt i) p (List.mem_of_mem_take hp)
    have h2 := List.getElem?_eq_none_iff.1 hmi
    have h3 := hk.len
    omega
  | some b =>
    show m.lines.foldl (fun b l => lastPut (l.ps.take (evK k n l)) i b) b = lastPut _ i b
    rw [fold_last (evK k n) i m.lines hk.keys (fun l hl hne b r => ?_)]
    · rfl
    · have := lastPut_other hk hne r b
      rw [lineOf_mem hk hl] at this; exact this
theorem wordAt_evict {m : MA} (hk : MAok m) (k n i r : Nat) : wordAt (evictA m k n) i r = wordAt m i (evK k n (lineOf m (lineAt i)) + r) :=
  wordAt_cut (evict_line hk k n _).1 (evict_image hk k n i) r

end Go.Proofs.YtbkaemajjaiklaaGreat

/- What may last of the headers, plainly: each state of a header, as its stores last, fits what the blocks are. No program. -/
namespace Go.Proofs.YtbkaemajjaiklaaGreat
open Go.RowKit
set_option linter.unusedVariables false
set_option linter.unusedSimpArgs false

theorem lineAt_c (i : Nat) : lineAt (128 * i) = 1024 * i := by unfold lineAt; omega
theorem lineAt_b (i : Nat) : lineAt (128 * i + 1) = 1024 * i := by unfold lineAt; omega
def psN (m : MA) (i : Nat) : Nat := (lineOf m (1024 * i)).ps.length
def mkN (m : MA) (i d : Nat) : Nat := markP (lineOf m (1024 * i)) d
def clsW (m : MA) (i k : Nat) : Int := wordAt m (128 * i) k
def bitW (m : MA) (i k : Nat) : Int := wordAt m (128 * i + 1) k
/-- one state of a header fits -/
structure FitS (cs : List Int) (ls : List (Int × Int)) (i : Nat) (x y : Int) : Prop where
  out : ∃ c b : Nat, x = (c : Int) ∧ y = (b : Int) ∧ b < 18446744073709551616 ∧ (c = 0 ∧ b = 0 ∨ 1 ≤ c ∧ c ≤ 3 ∧ cs.getD (i - 1) 0 = (c : Int)) ∧
    (∀ j, b.testBit j = true → j < nb c ∧ (isGet ls (blockZ (i : Int) c j) = 2 ∨ isGet ls (blockZ (i : Int) c j) = 3 ∨ isGet ls (blockZ (i : Int) c j) = 4)) ∧
    (∀ c' j : Nat, 1 ≤ c' → c' ≤ 3 → cs.getD (i - 1) 0 = (c' : Int) → j < nb c' → isGet ls (blockZ (i : Int) c' j) = 2 → b.testBit j = true)
structure Lst (n : Nat) (g : GA) : Prop where
  fit : ∀ i, 1 ≤ i → i ≤ n → ∀ k, k ≤ psN g.ma i → FitS g.cs g.ls i (clsW g.ma i k) (bitW g.ma i k)
  hd : ∀ i, 1 ≤ i → i ≤ n → bitW g.ma i (psN g.ma i) = (g.A.hd.getD i (0, 0)).2
  turn : ∀ x ∈ g.T, ∀ i c j : Nat, 1 ≤ i → i ≤ n → 1 ≤ c → c ≤ 3 → j < nb c → g.cs.getD (i - 1) 0 = (c : Int) → x.a = blockZ (i : Int) c j →
    (1 ≤ x.ph → clsW g.ma i (psN g.ma i) = (c : Int)) ∧ (2 ≤ x.ph → ∃ p, p ≤ psN g.ma i ∧ (∀ k, p ≤ k → k ≤ psN g.ma i → ∀ b : Nat, bitW g.ma i k = (b : Int) → b.testBit j = decide (x.tb = 2)) ∧ (x.ph = 3 → p ≤ mkN g.ma i x.cl))
  busy : ∀ a, isGet g.ls a = 3 ∨ isGet g.ls a = 4 → ∃ x ∈ g.T, x.a = a
/-- what is known of a game, plainly -/
structure GOk (n : Nat) (g : GA) : Prop where
  al : Alike g.A n g.cs g.ls
  ok : MAok g.ma
  vl : g.ma.view.length = 128 * (1 + n)
  n1 : 1 ≤ n
  n6 : n ≤ 6
  hl : g.A.hd.length = 1 + n
  fits : ∀ x ∈ g.T, TurnFits g.ls x
  ta : (g.T.map (·.a)).Nodup
  tt : (g.T.map (·.t)).Nodup
/-- a line's stores let last, as far as K says -/
structure CutTo (n : Nat) (m m' : MA) (K : Nat → Nat) : Prop where
  le : ∀ i, 1 ≤ i → i ≤ n → K i ≤ psN m i
  ps : ∀ i, 1 ≤ i → i ≤ n → psN m' i = psN m i - K i
  cl : ∀ i, 1 ≤ i → i ≤ n → ∀ r, clsW m' i r = clsW m i (K i + r)
  bt : ∀ i, 1 ≤ i → i ≤ n → ∀ r, bitW m' i r = bitW m i (K i + r)
  mkk : ∀ i, 1 ≤ i → i ≤ n → ∀ d, mkN m' i d = mkN m i d - K i
theorem fence_cut {n : Nat} {m : MA} (hk : MAok m) (vl : m.view.length = 128 * (1 + n)) (c : Nat) : CutTo n m (fenceA m c) (fun i => mkN m i c) := by
  refine ⟨fun i _ _ => markP_le hk _ _, fun i _ _ => ?_, fun i _ hi r => ?_, fun i _ hi r => ?_, fun i _ _ d => ?_⟩
  · unfold psN; rw [(fence_line hk c _).1, List.length_drop]; rfl
  · unfold clsW; rw [wordAt_fence hk c _ (by omega), lineAt_c]; rfl
  · unfold bitW; rw [wordAt_fence hk c _ (by omega), lineAt_b]; rfl
  · exact (fence_line hk c _).2 d
theorem evict_cut {n : Nat} {m : MA} (hk : MAok m) (k e : Nat) : CutTo n m (evictA m k e) (fun i => evK k e (lineOf m (1024 * i))) := by
  refine ⟨fun i _ _ => ?_, fun i _ _ => ?_, fun i _ hi r => ?_, fun i _ hi r => ?_, fun i _ _ d => ?_⟩
  · show evK k e _ ≤ _
    unfold evK psN
    split
    · exact Nat.min_le_right _ _
    · exact Nat.zero_le _
  · unfold psN; rw [(evict_line hk k e _).1, List.length_drop]
  · unfold clsW; rw [wordAt_evict hk k e, lineAt_c]
  · unfold bitW; rw [wordAt_evict hk k e, lineAt_b]
  · exact (evict_line hk k e _).2 d

theorem getD_natC {cs : List Int} {i c c' : Nat} (h : cs.getD i 0 = (c : Int)) (h' : cs.getD i 0 = (c' : Int)) : c = c' := by rw [h] at h'; omega
/-- two blocks of one address are one -/
theorem pos_same {n i i' c c' j j' : Nat} {cs : List Int} (hn : n ≤ 6) (hi : 1 ≤ i ∧ i ≤ n) (hi' : 1 ≤ i' ∧ i' ≤ n) (hc : 1 ≤ c ∧ c ≤ 3) (hc' : 1 ≤ c' ∧ c' ≤ 3) (hj : j < nb c) (hj' : j' < nb c') (h1 : cs.getD (i - 1) 0 = (c : Int)) (h2 : cs.getD (i' - 1) 0 = (c' : Int)) (h : blockZ (i : Int) c j = blockZ (i' : Int) c' j') : i = i' ∧ c = c' ∧ j = j' := by
  obtain ⟨k, rfl⟩ : ∃ k, i = k + 1 := ⟨i - 1, by omega⟩
  obtain ⟨k', rfl⟩ : ∃ k', i' = k' + 1 := ⟨i' - 1, by omega⟩
  have e1 : ((k + 1 : Nat) : Int) = (k : Int) + 1 := rfl
  have e2 : ((k' + 1 : Nat) : Int) = (k' : Int) + 1 := rfl
  rw [e1, e2] at h
  have hk := block_same (by omega) (by omega) hc hc' hj hj' h
  subst hk
  have hcc := getD_natC h1 h2
  subst hcc
  have a1 := idx_of (i := k) (by omega) hc hj
  have a2 := idx_of (i := k) (by omega) hc hj'
  rw [h] at a1
  refine ⟨rfl, rfl, ?_⟩
  omega
/-- what a block is, is told anew -/
theorem FitS.setTo {cs : List Int} {ls : List (Int × Int)} {i : Nat} {x y : Int} (h : FitS cs ls i x y) (a v : Int)
    (hset : ∀ c b j : Nat, x = (c : Int) → y = (b : Int) → b.testBit j = true → blockZ (i : Int) c j = a → v = 2 ∨ v = 3 ∨ v = 4)
    (h2 : v = 2 → ∀ c' j b : Nat, 1 ≤ c' → c' ≤ 3 → cs.getD (i - 1) 0 = (c' : Int) → j < nb c' → blockZ (i : Int) c' j = a → y = (b : Int) → b.testBit j = true) : FitS cs (setW ls a v) i x y := by
  obtain ⟨c, b, rfl, rfl, h3, h4, h5, h6⟩ := h.out
  refine ⟨c, b, rfl, rfl, h3, h4, fun j hj => ?_, fun c' j c1 c3 hc hj hg => ?_⟩
  · refine ⟨(h5 j hj).1, ?_⟩
    rw [isGet_setW]
    split
    · rename_i e; exact hset c b j rfl rfl hj e
    · exact (h5 j hj).2
  · rw [isGet_setW] at hg
    split at hg
    · rename_i e; exact h2 hg c' j b c1 c3 hc hj e rfl
    · exact h6 c' j c1 c3 hc hj hg

end Go.Proofs.YtbkaemajjaiklaaGreat

/- What may last of the headers, plainly: kept by every act. No program. -/
namespace Go.Proofs.YtbkaemajjaiklaaGreat
open Go.RowKit
set_option linter.unusedVariables false
set_option linter.unusedSimpArgs false

theorem FitS.bit {cs : List Int} {ls : List (Int × Int)} {i : Nat} {x y : Int} (h : FitS cs ls i x y) {c b j : Nat} (hx : x = (c : Int)) (hy : y = (b : Int)) (hb : b.testBit j = true) : j < nb c ∧ (isGet ls (blockZ (i : Int) c j) = 2 ∨ isGet ls (blockZ (i : Int) c j) = 3 ∨ isGet ls (blockZ (i : Int) c j) = 4) := by
  obtain ⟨c0, b0, e1, e2, _, _, h5, _⟩ := h.out
  obtain rfl : c = c0 := by rw [hx] at e1; omega
  obtain rfl : b = b0 := by rw [hy] at e2; omega
  exact h5 j hb
theorem Lst.cut {n : Nat} {g : GA} (h : Lst n g) {m' : MA} {K : Nat → Nat} (hc : CutTo n g.ma m' K) : Lst n { g with ma := m' } := by
  refine ⟨fun i i1 i2 k hk => ?_, fun i i1 i2 => ?_, fun x hx i c j i1 i2 c1 c3 hj hcs ha => ?_, h.busy⟩
  · have hle := hc.le i i1 i2
    have hps := hc.ps i i1 i2
    show FitS g.cs g.ls i (clsW m' i k) (bitW m' i k)
    rw [hc.cl i i1 i2, hc.bt i i1 i2]
    refine h.fit i i1 i2 _ ?_
    have hk' : k ≤ psN m' i := hk
    omega
  · show bitW m' i (psN m' i) = _
    have hle := hc.le i i1 i2
    rw [hc.bt i i1 i2, hc.ps i i1 i2, show K i + (psN g.ma i - K i) = psN g.ma i by omega]
    exact h.hd i i1 i2
  · obtain ⟨h1, h2⟩ := h.turn x hx i c j i1 i2 c1 c3 hj hcs ha
    have hle := hc.le i i1 i2
    have hps := hc.ps i i1 i2
    refine ⟨fun hp => ?_, fun hp => ?_⟩
    · show clsW m' i (psN m' i) = _
      rw [hc.cl i i1 i2, hps, show K i + (psN g.ma i - K i) = psN g.ma i by omega]
      exact h1 hp
    · obtain ⟨p, p1, p2, p3⟩ := h2 hp
      refine ⟨p - K i, by show p - K i ≤ psN m' i; omega, fun k k1 k2 b hb => ?_, fun h3 => ?_⟩
      · have hb' : bitW m' i k = (b : Int) := hb
        rw [hc.bt i i1 i2] at hb'
        have k2' : k ≤ psN m' i := k2
        exact p2 (K i + k) (by omega) (by omega) b hb'
      · show p - K i ≤ mkN m' i x.cl
        rw [hc.mkk i i1 i2]
        have := p3 h3
        omega
/-- told anew; nothing else turned -/
theorem Lst.tell {n : Nat} {g : GA} (h : Lst n g) {A' : SA} {ls' : List (Int × Int)} {T' : List TR} (hfit : ∀ i, 1 ≤ i → i ≤ n → ∀ k, k ≤ psN g.ma i → FitS g.cs ls' i (clsW g.ma i k) (bitW g.ma i k)) (hhd : ∀ i, (A'.hd.getD i (0, 0)).2 = (g.A.hd.getD i (0, 0)).2)
    (hT : ∀ x ∈ T', x ∈ g.T ∨ x.ph = 0) (hb : ∀ a, isGet ls' a = 3 ∨ isGet ls' a = 4 → ∃ x ∈ T', x.a = a) : Lst n { g with A := A', ls := ls', T := T' } := by
  refine ⟨hfit, fun i i1 i2 => (h.hd i i1 i2).trans (hhd i).symm, fun x hx i c j i1 i2 c1 c3 hj hcs ha => ?_, hb⟩
  rcases hT x hx with h1 | h1
  · exact h.turn x h1 i c j i1 i2 c1 c3 hj hcs ha
  · exact ⟨fun hp => by omega, fun hp => by omega⟩
theorem giveSA_two (A : SA) (i c k : Nat) : ((giveSA A i c).hd.getD k (0, 0)).2 = (A.hd.getD k (0, 0)).2 := by
  unfold giveSA
  rw [giveTo_hd]
  by_cases e : k = i
  · subst e
    by_cases hl : k < A.hd.length
    · rw [List.getD_eq_getElem?_getD, List.getElem?_set_self hl]; rfl
    · rw [List.set_eq_of_length_le (Nat.le_of_not_lt hl)]
  · rw [List.getD_eq_getElem?_getD, List.getElem?_set_ne (Ne.symm e), ← List.getD_eq_getElem?_getD]
/-- told anew that a block is v, where its bit is not set anywhere, or that fits -/
theorem Lst.setV {n : Nat} {g : GA} (h : Lst n g) (a u v : Int) (hu : isGet g.ls a = u) (huv : u = 1 ∨ u = 0 ∨ v = 3 ∨ v = 4) (hv2 : v ≠ 2) : ∀ i, 1 ≤ i → i ≤ n → ∀ k, k ≤ psN g.ma i → FitS g.cs (setW g.ls a v) i (clsW g.ma i k) (bitW g.ma i k) := by
  intro i i1 i2 k hk
  have hf := h.fit i i1 i2 k hk
  refine hf.setTo a v (fun c b j hx hy hb e => ?_) (fun e => absurd e hv2)
  have := (hf.bit hx hy hb).2
  rw [e, hu] at this
  omega
theorem Rsvd.two {A : SA} {c n : Nat} {a x : Int} {A' : SA} {cs' : List Int} {ls' : List (Int × Int)} (h : Rsvd A c n a x A' cs' ls') (i : Nat) : (A'.hd.getD i (0, 0)).2 = (A.hd.getD i (0, 0)).2 := by
  cases h with
  | old => rfl
  | new k => exact giveSA_two A (k + 1) c i
  | full => rfl
/-- a slab of no class has no block that is not free -/
theorem Alike.noBlk {A : SA} {n : Nat} {cs : List Int} {ls : List (Int × Int)} (h : Alike A n cs ls) (hn : n ≤ 64) {k : Nat} (hk : k < n) (h0 : cs.getD k 0 = 0) {c j : Nat} (hc : 1 ≤ c ∧ c ≤ 3) (hj : j < nb c) : isGet ls (blockZ ((k : Int) + 1) c j) = 0 := by
  apply Classical.byContradiction
  intro hne
  obtain ⟨i, j', c', h1, h2, h3, h4, h5, h6⟩ := h.blkOf hne
  have := block_same (by omega) (by omega) hc ⟨h3, h4⟩ hj h2 h6
  subst this
  rw [h0] at h5
  omega
theorem Lst.rsv {n : Nat} {g : GA} (h : Lst n g) (hp : GOk n g) {c : Nat} {a x : Int} {A' : SA} {cs' : List Int} {ls' : List (Int × Int)} (hc : 1 ≤ c ∧ c ≤ 3) (hw : RsvW g.cs g.ls c n a x cs' ls') (hr : Rsvd g.A c n a x A' cs' ls') : Lst n { g with A := A', cs := cs', ls := ls' } := by
  have hn64 : n ≤ 64 := by have := hp.n6; omega
  have h2 := hr.two
  cases hw with
  | old k j hk hj hcs h0 hno =>
    refine h.tell (h.setV _ 0 1 h0 (Or.inr (Or.inl rfl)) (by decide)) h2 (fun x hx => Or.inl hx) (fun b hb => ?_)
    rw [isGet_setW] at hb
    split at hb
    · omega
    · exact h.busy b hb
  | full hf hno => exact h.tell h.fit h2 (fun x hx => Or.inl hx) h.busy
  | new k hk h0 hf hno =>
    have hz := hp.al.noBlk hn64 hk h0 hc (nb_pos hc)
    have hcl := hp.al.cl
    have hfit := h.setV _ 0 1 hz (Or.inr (Or.inl rfl)) (by decide)
    refine ⟨fun i i1 i2 r hr' => ?_, fun i i1 i2 => (h.hd i i1 i2).trans (h2 i).symm, fun y hy i c' j i1 i2 c1 c3 hj hcs ha => ?_, fun b hb => ?_⟩
    · by_cases hik : i - 1 = k
      · obtain ⟨c0, b0, e1, e2, e3, e4, e5, e6⟩ := (h.fit i i1 i2 r hr').out
        have hz0 : c0 = 0 ∧ b0 = 0 := by
          rcases e4 with e4 | ⟨q1, q2, q3⟩
          · exact e4
          · rw [hik, h0] at q3; omega
        refine ⟨0, 0, by rw [e1, hz0.1], by rw [e2, hz0.2], by decide, Or.inl ⟨rfl, rfl⟩, fun j hj => by simp at hj, fun c' j c1 c3 hcs hj hg => ?_⟩
        exfalso
        rw [isGet_setW] at hg
        split at hg
        · exact absurd hg (by decide)
        · have := hp.al.noBlk hn64 hk h0 ⟨c1, c3⟩ hj
          rw [show ((k : Nat) : Int) + 1 = (i : Int) by omega] at this
          rw [this] at hg
          exact absurd hg (by decide)
      · obtain ⟨c0, b0, e1, e2, e3, e4, e5, e6⟩ := (hfit i i1 i2 r hr').out
        have hg0 : (g.cs.set k (c : Int)).getD (i - 1) 0 = g.cs.getD (i - 1) 0 := by rw [getD_set _ _ _ _ (by omega), if_neg hik]
        exact ⟨c0, b0, e1, e2, e3, e4.imp id (fun q => ⟨q.1, q.2.1, by show (g.cs.set k (c : Int)).getD (i - 1) 0 = _; rw [hg0]; exact q.2.2⟩), e5, fun c' j c1 c3 hcs hj hg => e6 c' j c1 c3 (by rw [← hg0]; exact hcs) hj hg⟩
    · have hcs' : (g.cs.set k (c : Int)).getD (i - 1) 0 = (c' : Int) := hcs
      rw [getD_set _ _ _ _ (by omega)] at hcs'
      split at hcs'
      · rename_i hik
        exfalso
        have hz' := hp.al.noBlk hn64 hk h0 ⟨c1, c3⟩ hj
        rw [show ((k : Nat) : Int) + 1 = (i : Int) by omega, ← ha] at hz'
        have hf' := (hp.fits y hy).2.2
        rw [hz'] at hf'
        omega
      · exact h.turn y hy i c' j i1 i2 c1 c3 hj hcs' ha
    · rw [isGet_setW] at hb
      split at hb
      · omega
      · exact h.busy b hb
theorem Lst.rel {n : Nat} {g : GA} (h : Lst n g) {a : Int} (c : Nat) (ha : isGet g.ls a = 1) : Lst n { g with A := freeSA g.A c a, ls := setW g.ls a 0 } :=
  h.tell (h.setV a 1 0 ha (Or.inl rfl) (by decide)) (fun i => rfl) (fun x hx => Or.inl hx) (fun b hb => by
    rw [isGet_setW] at hb
    split at hb
    · omega
    · exact h.busy b hb)
theorem Lst.begun {n : Nat} {g : GA} (h : Lst n g) {a u v : Int} (x : TR) (hu : isGet g.ls a = u) (huv : v = 3 ∨ v = 4) (hx : x.a = a) (h0 : x.ph = 0) : Lst n { g with A := { g.A with is := isSet g.A.is a v }, ls := setW g.ls a v, T := g.T ++ [x] } :=
  h.tell (h.setV a u v hu (by omega) (by omega)) (fun i => rfl) (fun y hy => (List.mem_append.1 hy).imp id (fun h1 => by rw [List.mem_singleton.1 h1]; exact h0)) (fun b hb => by
    by_cases hba : b = a
    · exact ⟨x, List.mem_append.2 (Or.inr (List.mem_singleton.2 rfl)), by rw [hx, hba]⟩
    · rw [isGet_setW, if_neg hba] at hb
      obtain ⟨y, hy, e⟩ := h.busy b hb
      exact ⟨y, List.mem_append.2 (Or.inl hy), e⟩)

end Go.Proofs.YtbkaemajjaiklaaGreat

/- What may last of the headers, plainly: kept by a step of a turn, by an eviction; so by every act. No program. -/
namespace Go.Proofs.YtbkaemajjaiklaaGreat
open Go.RowKit
set_option linter.unusedVariables false
set_option linter.unusedSimpArgs false

theorem newB_bit {tb : Int} {b j : Nat} (hb : b < 18446744073709551616) (hj : j < 64) (htb : tb = 2 ∨ tb = 0) (i : Nat) : (newB tb b j).testBit i = if i = j then decide (tb = 2) else b.testBit i := by
  unfold newB
  rcases htb with rfl | rfl
  · rw [if_pos rfl, setB_bit]
    by_cases h : i = j
    · rw [if_pos h, h]; simp
    · rw [if_neg h, decide_eq_false (fun e : j = i => h e.symm), Bool.or_false]
  · rw [if_neg (by decide)]
    by_cases hi : i < 64
    · rw [clrB_bit _ _ _ hi hj]
      by_cases h : i = j
      · rw [if_pos h, h]; simp
      · rw [if_neg h, decide_eq_false (fun e : j = i => h e.symm)]; simp
    · rw [if_neg (by omega)]
      have h64 : 18446744073709551616 ≤ 2 ^ i := by
        have : (2 : Nat) ^ 64 ≤ 2 ^ i := Nat.pow_le_pow_right (by decide) (by omega)
        exact this
      rw [Nat.testBit_lt_two_pow (Nat.lt_of_lt_of_le (clrB_lt b j) h64), Nat.testBit_lt_two_pow (Nat.lt_of_lt_of_le hb h64)]
theorem psN_storeC (m : MA) (i : Nat) (x : Int) (k : Nat) : psN (storeA m (128 * i) x) k = if k = i then psN m k + 1 else psN m k := by
  unfold psN
  rw [store_line, lineAt_c]
  by_cases h : k = i
  · rw [if_pos h, if_pos (by rw [h])]; simp
  · rw [if_neg h, if_neg (by omega)]
theorem psN_storeB (m : MA) (i : Nat) (x : Int) (k : Nat) : psN (storeA m (128 * i + 1) x) k = if k = i then psN m k + 1 else psN m k := by
  unfold psN
  rw [store_line, lineAt_b]
  by_cases h : k = i
  · rw [if_pos h, if_pos (by rw [h])]; simp
  · rw [if_neg h, if_neg (by omega)]
theorem mkN_store (m : MA) (q : Nat) (x : Int) (k d : Nat) : mkN (storeA m q x) k d = mkN m k d := by
  unfold mkN
  rw [store_line]
  split <;> rfl
theorem clsW_storeC {m : MA} (hk : MAok m) (i : Nat) (x : Int) (k r : Nat) : clsW (storeA m (128 * i) x) k r = if k = i ∧ psN m k < r then x else clsW m k r := by
  unfold clsW
  rw [wordAt_store hk, lineAt_c, lineAt_c]
  by_cases h : k = i ∧ psN m k < r
  · rw [if_pos h, if_pos ⟨by rw [h.1], h.2⟩, if_pos (by rw [h.1])]
  · rw [if_neg h, if_neg (fun hh => h ⟨by omega, hh.2⟩)]
theorem bitW_storeC {m : MA} (hk : MAok m) (i : Nat) (x : Int) (k r : Nat) : bitW (storeA m (128 * i) x) k r = if k = i ∧ psN m k < r then bitW m k (psN m k) else bitW m k r := by
  unfold bitW
  rw [wordAt_store hk, lineAt_c, lineAt_b]
  by_cases h : k = i ∧ psN m k < r
  · rw [if_pos h, if_pos ⟨by rw [h.1], h.2⟩, if_neg (by omega)]; rfl
  · rw [if_neg h, if_neg (fun hh => h ⟨by omega, hh.2⟩)]
theorem clsW_storeB {m : MA} (hk : MAok m) (i : Nat) (x : Int) (k r : Nat) : clsW (storeA m (128 * i + 1) x) k r = if k = i ∧ psN m k < r then clsW m k (psN m k) else clsW m k r := by
  unfold clsW
  rw [wordAt_store hk, lineAt_c, lineAt_b]
  by_cases h : k = i ∧ psN m k < r
  · rw [if_pos h, if_pos ⟨by rw [h.1], h.2⟩, if_neg (by omega)]; rfl
  · rw [if_neg h, if_neg (fun hh => h ⟨by omega, hh.2⟩)]
theorem bitW_storeB {m : MA} (hk : MAok m) (i : Nat) (x : Int) (k r : Nat) : bitW (storeA m (128 * i + 1) x) k r = if k = i ∧ psN m k < r then x else bitW m k r := by
  unfold bitW
  rw [wordAt_store hk, lineAt_b, lineAt_b]
  by_cases h : k = i ∧ psN m k < r
  · rw [if_pos h, if_pos ⟨by rw [h.1], h.2⟩, if_pos (by rw [h.1])]
  · rw [if_neg h, if_neg (fun hh => h ⟨by omega, hh.2⟩)]
theorem set_has {T : List TR} {i : Nat} {x y : TR} (hx : T[i]? = some x) (hy : y ∈ T) : ∃ z ∈ T.set i x.next, z.a = y.a := by
  obtain ⟨hi, hxe⟩ := List.getElem?_eq_some_iff.1 hx
  obtain ⟨k, hk, rfl⟩ := List.mem_iff_getElem.1 hy
  by_cases e : k = i
  · subst e
    exact ⟨x.next, List.mem_set hi _, by rw [hxe]; rfl⟩
  · refine ⟨T[k], List.mem_iff_getElem.2 ⟨k, by rw [List.length_set]; exact hk, ?_⟩, rfl⟩
    rw [List.getElem_set_ne (fun h => e h.symm)]
theorem erase_has {T : List TR} {i : Nat} {x y : TR} (hx : T[i]? = some x) (hy : y ∈ T) (hne : y.a ≠ x.a) : y ∈ T.eraseIdx i := by
  obtain ⟨hi, hxe⟩ := List.getElem?_eq_some_iff.1 hx
  obtain ⟨k, hk, rfl⟩ := List.mem_iff_getElem.1 hy
  rw [List.mem_eraseIdx_iff_getElem]
  refine ⟨k, hk, fun e => hne ?_, rfl⟩
  subst e
  rw [hxe]
theorem turn_inj {T : List TR} (h : (T.map (·.a)).Nodup) {x y : TR} (hy : y ∈ T) (hx : x ∈ T) (e : y.a = x.a) : y.t = x.t := by
  obtain ⟨k, hk, rfl⟩ := List.mem_iff_getElem.1 hy
  obtain ⟨q, hq, rfl⟩ := List.mem_iff_getElem.1 hx
  have hk' : k < (T.map (·.a)).length := by rw [List.length_map]; exact hk
  have hq' : q < (T.map (·.a)).length := by rw [List.length_map]; exact hq
  have : k = q := (List.getElem_inj (h₀ := hk') (h₁ := hq') h).1 (by rw [List.getElem_map, List.getElem_map]; exact e)
  subst this; rfl
section
variable {n : Nat} {g : GA} {idx : Nat} {x : TR} {i c j b : Nat}
theorem TurnAt.cs (ta : TurnAt n g x i c j b) (hp : GOk n g) : g.cs.getD (i - 1) 0 = (c : Int) := by
  have := hp.al.cls (i - 1) (by have := ta.i1; omega)
  rw [← this, show i - 1 + 1 = i by have := ta.i1; omega]
  exact ta.cc
theorem TurnAt.same (ta : TurnAt n g x i c j b) (hp : GOk n g) {i' c' j' : Nat} (i1 : 1 ≤ i') (i2 : i' ≤ n) (c1 : 1 ≤ c') (c3 : c' ≤ 3) (hj : j' < nb c') (hcs : g.cs.getD (i' - 1) 0 = (c' : Int)) (ha : x.a = blockZ (i' : Int) c' j') : i' = i ∧ c' = c ∧ j' = j := by
  obtain ⟨e1, e2, e3⟩ := pos_same hp.n6 ta.i1 ⟨i1, i2⟩ ta.c3 ⟨c1, c3⟩ ta.j1 hj (ta.cs hp) hcs (ta.aa.symm.trans ha)
  exact ⟨e1.symm, e2.symm, e3.symm⟩
theorem TurnAt.j64 (ta : TurnAt n g x i c j b) : j < 64 := by have := nb_le c; have := ta.j1; omega
theorem TurnAt.tbb (ta : TurnAt n g x i c j b) : x.tb = 2 ∨ x.tb = 0 := ta.tb.imp And.left And.left
theorem Lst.bits (h : Lst n g) (ta : TurnAt n g x i c j b) : bitW g.ma i (psN g.ma i) = (b : Int) := (h.hd i ta.i1.1 ta.i1.2).trans ta.bb
/-- the class is stored -/
theorem Lst.step0 (h : Lst n g) (hp : GOk n g) (hx : g.T[idx]? = some x) (ta : TurnAt n g x i c j b) (h0 : x.ph = 0) : Lst n { g with ma := storeA g.ma (128 * i) (c : Int), T := g.T.set idx x.next } := by
  have hxm := List.mem_of_getElem? hx
  have hcs0 := ta.cs hp
  refine ⟨fun k k1 k2 r hr => ?_, fun k k1 k2 => ?_, fun y hy i' c' j' i1 i2 c1 c3 hj hcs ha => ?_, fun a ha => ?_⟩
  · have hr' : r ≤ psN (storeA g.ma (128 * i) (c : Int)) k := hr
    show FitS g.cs g.ls k (clsW (storeA g.ma (128 * i) (c : Int)) k r) (bitW (storeA g.ma (128 * i) (c : Int)) k r)
    rw [clsW_storeC hp.ok, bitW_storeC hp.ok]
    rw [psN_storeC] at hr'
    by_cases hk : k = i ∧ psN g.ma k < r
    · rw [if_pos hk, if_pos hk]
      obtain ⟨c0, b0, e1, e2, e3, e4, e5, e6⟩ := (h.fit k k1 k2 (psN g.ma k) (Nat.le_refl _)).out
      refine ⟨c, b0, rfl, e2, e3, Or.inr ⟨ta.c3.1, ta.c3.2, by rw [hk.1]; exact hcs0⟩, fun q hq => ?_, e6⟩
      rcases e4 with ⟨q1, q2⟩ | ⟨q1, q2, q3⟩
      · rw [q2] at hq; simp at hq
      · rw [hk.1, hcs0] at q3
        have : c0 = c := by omega
        rw [← this]; exact e5 q hq
    · rw [if_neg hk, if_neg hk]
      refine h.fit k k1 k2 r ?_
      split at hr'
      · rename_i e
        have : ¬ psN g.ma k < r := fun hh => hk ⟨e, hh⟩
        omega
      · exact hr'
  · show bitW (storeA g.ma (128 * i) (c : Int)) k (psN (storeA g.ma (128 * i) (c : Int)) k) = (g.A.hd.getD k (0, 0)).2
    rw [bitW_storeC hp.ok, psN_storeC, ← h.hd k k1 k2]
    by_cases hk : k = i
    · rw [if_pos hk, if_pos ⟨hk, by omega⟩]
    · rw [if_neg hk, if_neg (fun hh => hk hh.1)]
  · show (1 ≤ y.ph → clsW (storeA g.ma (128 * i) (c : Int)) i' (psN (storeA g.ma (128 * i) (c : Int)) i') = (c' : Int)) ∧ (2 ≤ y.ph → ∃ p, p ≤ psN (storeA g.ma (128 * i) (c : Int)) i' ∧ (∀ k, p ≤ k → k ≤ psN (storeA g.ma (128 * i) (c : Int)) i' → ∀ bb : Nat, bitW (storeA g.ma (128 * i) (c : Int)) i' k = (bb : Int) → bb.testBit j' = decide (y.tb = 2)) ∧ (y.ph = 3 → p ≤ mkN (storeA g.ma (128 * i) (c : Int)) i' y.cl))
    rw [clsW_storeC hp.ok, psN_storeC]
    rcases set_mem hx hp.tt hy with rfl | ⟨hyT, hyt⟩
    · obtain ⟨rfl, rfl, rfl⟩ := ta.same hp i1 i2 c1 c3 hj hcs ha
      refine ⟨fun _ => by rw [if_pos rfl, if_pos ⟨rfl, by omega⟩], fun hh => ?_⟩
      have : x.next.ph = 1 := by show x.ph + 1 = 1; omega
      omega
    · obtain ⟨g1, g2⟩ := h.turn y hyT i' c' j' i1 i2 c1 c3 hj hcs ha
      by_cases hk : i' = i
      · subst hk
        have hcc : c' = c := getD_natC hcs hcs0
        refine ⟨fun _ => by rw [if_pos rfl, if_pos ⟨rfl, by omega⟩, hcc], fun hh => ?_⟩
        obtain ⟨p, p1, p2, p3⟩ := g2 hh
        rw [if_pos rfl]
        refine ⟨p, by omega, fun k q1 q2 bb hb => ?_, fun h3 => by rw [mkN_store]; exact p3 h3⟩
        rw [bitW_storeC hp.ok] at hb
        split at hb
        · exact p2 (psN g.ma i') p1 (Nat.le_refl _) bb hb
        · rename_i hk
          exact p2 k q1 (by have : ¬ psN g.ma i' < k := fun hh => hk ⟨rfl, hh⟩; omega) bb hb
      · rw [if_neg hk, if_neg (fun hh => hk hh.1)]
        refine ⟨g1, fun hh => ?_⟩
        obtain ⟨p, p1, p2, p3⟩ := g2 hh
        refine ⟨p, p1, fun k q1 q2 bb hb => ?_, fun h3 => by rw [mkN_store]; exact p3 h3⟩
        rw [bitW_storeC hp.ok, if_neg (fun hh => hk hh.1)] at hb
        exact p2 k q1 q2 bb hb
  · obtain ⟨y, hy, e⟩ := h.busy a ha
    obtain ⟨z, hz, e2⟩ := set_has hx hy
    exact ⟨z, hz, e2.trans e⟩
/-- the bit is turned -/
theorem Lst.step1 (h : Lst n g) (hp : GOk n g) (hx : g.T[idx]? = some x) (ta : TurnAt n g x i c j b) (h0 : x.ph = 1) : Lst n { g with ma := storeA g.ma (128 * i + 1) (newB x.tb b j : Int), A := hdSA g.A i (newB x.tb b j), T := g.T.set idx x.next } := by
  have hxm := List.mem_of_getElem? hx
  have hcs0 := ta.cs hp
  have hbits := h.bits ta
  have hnb := newB_bit ta.b64 ta.j64 ta.tbb
  have hcl := (h.turn x hxm i c j ta.i1.1 ta.i1.2 ta.c3.1 ta.c3.2 ta.j1 hcs0 ta.aa).1 (by omega)
  refine ⟨fun k k1 k2 r hr => ?_, fun k k1 k2 => ?_, fun y hy i' c' j' i1 i2 c1 c3 hj hcs ha => ?_, fun a ha => ?_⟩
  · have hr' : r ≤ psN (storeA g.ma (128 * i + 1) (newB x.tb b j : Int)) k := hr
    show FitS g.cs g.ls k (clsW (storeA g.ma (128 * i + 1) (newB x.tb b j : Int)) k r) (bitW (storeA g.ma (128 * i + 1) (newB x.tb b j : Int)) k r)
    rw [clsW_storeB hp.ok, bitW_storeB hp.ok]
    rw [psN_storeB] at hr'
    by_cases hk : k = i ∧ psN g.ma k < r
    · rw [if_pos hk, if_pos hk]
      obtain ⟨rfl, _⟩ := hk
      obtain ⟨c0, b0, e1, e2, e3, e4, e5, e6⟩ := (h.fit k k1 k2 (psN g.ma k) (Nat.le_refl _)).out
      rw [hcl] at e1 ⊢
      rw [hbits] at e2
      obtain rfl : c = c0 := by omega
      obtain rfl : b = b0 := by omega
      refine ⟨c, newB x.tb b j, rfl, rfl, newB_lt ta.b64 ta.j64, Or.inr ⟨ta.c3.1, ta.c3.2, hcs0⟩, fun q hq => ?_, fun c' q c1 c3 hcs hq hg => ?_⟩
      · rw [hnb] at hq
        split at hq
        · rename_i e
          subst e
          refine ⟨ta.j1, ?_⟩
          rw [← ta.aa]
          have htb : x.tb = 2 := of_decide_eq_true hq
          rcases ta.tb with ⟨_, e⟩ | ⟨e, _⟩
          · exact Or.inr (Or.inr e)
          · omega
        · exact e5 q hq
      · rw [hnb]
        split
        · rename_i e
          subst e
          have hcc : c' = c := getD_natC hcs hcs0
          subst hcc
          rw [← ta.aa] at hg
          rcases ta.tb with ⟨_, e⟩ | ⟨_, e⟩ <;> omega
        · exact e6 c' q c1 c3 hcs hq hg
    · rw [if_neg hk, if_neg hk]
      refine h.fit k k1 k2 r ?_
      split at hr'
      · rename_i e
        have : ¬ psN g.ma k < r := fun hh => hk ⟨e, hh⟩
        omega
      · exact hr'
  · show bitW (storeA g.ma (128 * i + 1) (newB x.tb b j : Int)) k (psN (storeA g.ma (128 * i + 1) (newB x.tb b j : Int)) k) = ((g.A.hd.set i ((g.A.hd.getD i (0, 0)).1, ((newB x.tb b j : Nat) : Int))).getD k (0, 0)).2
    rw [bitW_storeB hp.ok, psN_storeB]
    by_cases hk : k = i
    · subst hk
      rw [if_pos rfl, if_pos ⟨rfl, by omega⟩, List.getD_eq_getElem?_getD, List.getElem?_set_self (by have := hp.hl; omega)]; rfl
    · rw [if_neg hk, if_neg (fun hh => hk hh.1), List.getD_eq_getElem?_getD, List.getElem?_set_ne (fun e => hk e.symm), ← List.getD_eq_getElem?_getD]
      exact h.hd k k1 k2
  · show (1 ≤ y.ph → clsW (storeA g.ma (128 * i + 1) (newB x.tb b j : Int)) i' (psN (storeA g.ma (128 * i + 1) (newB x.tb b j : Int)) i') = (c' : Int)) ∧ (2 ≤ y.ph → ∃ p, p ≤ psN (storeA g.ma (128 * i + 1) (newB x.tb b j : Int)) i' ∧ (∀ k, p ≤ k → k ≤ psN (storeA g.ma (128 * i + 1) (newB x.tb b j : Int)) i' → ∀ bb : Nat, bitW (storeA g.ma (128 * i + 1) (newB x.tb b j : Int)) i' k = (bb : Int) → bb.testBit j' = decide (y.tb = 2)) ∧ (y.ph = 3 → p ≤ mkN (storeA g.ma (128 * i + 1) (newB x.tb b j : Int)) i' y.cl))
    rw [clsW_storeB hp.ok, psN_storeB]
    rcases set_mem hx hp.tt hy with rfl | ⟨hyT, hyt⟩
    · obtain ⟨rfl, rfl, rfl⟩ := ta.same hp i1 i2 c1 c3 hj hcs ha
      refine ⟨fun _ => by rw [if_pos rfl, if_pos ⟨rfl, by omega⟩]; exact hcl, fun hh => ⟨psN g.ma i' + 1, (by rw [if_pos rfl]; exact Nat.le_refl _), fun k q1 q2 bb hb => ?_, fun h3 => ?_⟩⟩
      · rw [bitW_storeB hp.ok, if_pos ⟨rfl, by omega⟩] at hb
        have hb2 : newB x.tb b j' = bb := by omega
        rw [← hb2, hnb, if_pos rfl]; rfl
      · have : x.next.ph = 2 := by show x.ph + 1 = 2; omega
        omega
    · obtain ⟨g1, g2⟩ := h.turn y hyT i' c' j' i1 i2 c1 c3 hj hcs ha
      by_cases hk : i' = i
      · subst hk
        have hcc : c' = c := getD_natC hcs hcs0
        have hjj : j' ≠ j := by
          intro e
          subst e; subst hcc
          have hya : y.a = x.a := ha.trans ta.aa.symm
          exact hyt (turn_inj hp.ta hyT hxm hya)
        refine ⟨fun hh => by rw [if_pos rfl, if_pos ⟨rfl, by omega⟩]; exact g1 hh, fun hh => ?_⟩
        obtain ⟨p, p1, p2, p3⟩ := g2 hh
        rw [if_pos rfl]
        refine ⟨p, by omega, fun k q1 q2 bb hb => ?_, fun h3 => by rw [mkN_store]; exact p3 h3⟩
        rw [bitW_storeB hp.ok] at hb
        split at hb
        · have hb2 : newB x.tb b j = bb := by omega
          rw [← hb2, hnb, if_neg hjj]
          exact p2 (psN g.ma i') p1 (Nat.le_refl _) b hbits
        · rename_i hk
          exact p2 k q1 (by have : ¬ psN g.ma i' < k := fun hh => hk ⟨rfl, hh⟩; omega) bb hb
      · rw [if_neg hk, if_neg (fun hh => hk hh.1)]
        refine ⟨g1, fun hh => ?_⟩
        obtain ⟨p, p1, p2, p3⟩ := g2 hh
        refine ⟨p, p1, fun k q1 q2 bb hb => ?_, fun h3 => by rw [mkN_store]; exact p3 h3⟩
        rw [bitW_storeB hp.ok, if_neg (fun hh => hk hh.1)] at hb
        exact p2 k q1 q2 bb hb
  · obtain ⟨y, hy, e⟩ := h.busy a ha
    obtain ⟨z, hz, e2⟩ := set_has hx hy
    exact ⟨z, hz, e2.trans e⟩
end

end Go.Proofs.YtbkaemajjaiklaaGreat

/- What may last of the headers, plainly: kept by a flush, a fence, an eviction; so by every act. No program. -/
namespace Go.Proofs.YtbkaemajjaiklaaGreat
open Go.RowKit
set_option linter.unusedVariables false
set_option linter.unusedSimpArgs false

section
variable {n : Nat} {g : GA} {idx : Nat} {x : TR} {i c j b : Nat}
/-- a line is marked -/
theorem Lst.step2 (h : Lst n g) (hp : GOk n g) (hx : g.T[idx]? = some x) (ta : TurnAt n g x i c j b) (h0 : x.ph = 2) : Lst n { g with ma := flushA g.ma x.cl (128 * i), T := g.T.set idx x.next } := by
  have hxm := List.mem_of_getElem? hx
  have hcs0 := ta.cs hp
  have fps : ∀ k, psN (flushA g.ma x.cl (128 * i)) k = psN g.ma k := fun k => by unfold psN; rw [(flush_line hp.ok x.cl (128 * i) ta.cl _).1]
  have fcl : ∀ k r, clsW (flushA g.ma x.cl (128 * i)) k r = clsW g.ma k r := fun k r => wordAt_flush hp.ok _ _ ta.cl _ _
  have fbt : ∀ k r, bitW (flushA g.ma x.cl (128 * i)) k r = bitW g.ma k r := fun k r => wordAt_flush hp.ok _ _ ta.cl _ _
  have fmk : ∀ k d, mkN (flushA g.ma x.cl (128 * i)) k d = if k = i ∧ d = x.cl then psN g.ma k else mkN g.ma k d := fun k d => by
    unfold mkN psN
    rw [(flush_line hp.ok x.cl (128 * i) ta.cl _).2, lineAt_c]
    by_cases hk : k = i ∧ d = x.cl
    · rw [if_pos hk, if_pos ⟨by rw [hk.1], hk.2⟩]
    · rw [if_neg hk, if_neg (fun hh => hk ⟨by omega, hh.2⟩)]
  refine ⟨fun k k1 k2 r hr => ?_, fun k k1 k2 => ?_, fun y hy i' c' j' i1 i2 c1 c3 hj hcs ha => ?_, fun a ha => ?_⟩
  · have hr' : r ≤ psN (flushA g.ma x.cl (128 * i)) k := hr
    rw [fps] at hr'
    show FitS g.cs g.ls k (clsW (flushA g.ma x.cl (128 * i)) k r) (bitW (flushA g.ma x.cl (128 * i)) k r)
    rw [fcl, fbt]
    exact h.fit k k1 k2 r hr'
  · show bitW (flushA g.ma x.cl (128 * i)) k (psN (flushA g.ma x.cl (128 * i)) k) = (g.A.hd.getD k (0, 0)).2
    rw [fbt, fps]; exact h.hd k k1 k2
  · show (1 ≤ y.ph → clsW (flushA g.ma x.cl (128 * i)) i' (psN (flushA g.ma x.cl (128 * i)) i') = (c' : Int)) ∧ (2 ≤ y.ph → ∃ p, p ≤ psN (flushA g.ma x.cl (128 * i)) i' ∧ (∀ k, p ≤ k → k ≤ psN (flushA g.ma x.cl (128 * i)) i' → ∀ bb : Nat, bitW (flushA g.ma x.cl (128 * i)) i' k = (bb : Int) → bb.testBit j' = decide (y.tb = 2)) ∧ (y.ph = 3 → p ≤ mkN (flushA g.ma x.cl (128 * i)) i' y.cl))
    rw [fcl, fps]
    simp only [fbt, fmk]
    rcases set_mem hx hp.tt hy with rfl | ⟨hyT, hyt⟩
    · obtain ⟨rfl, rfl, rfl⟩ := ta.same hp i1 i2 c1 c3 hj hcs ha
      obtain ⟨g1, g2⟩ := h.turn x hxm i' c' j' i1 i2 c1 c3 hj hcs ha
      obtain ⟨p, p1, p2, p3⟩ := g2 (by omega)
      exact ⟨fun _ => g1 (by omega), fun _ => ⟨p, p1, p2, fun _ => by rw [if_pos ⟨rfl, rfl⟩]; exact p1⟩⟩
    · obtain ⟨g1, g2⟩ := h.turn y hyT i' c' j' i1 i2 c1 c3 hj hcs ha
      refine ⟨g1, fun hh => ?_⟩
      obtain ⟨p, p1, p2, p3⟩ := g2 hh
      refine ⟨p, p1, p2, fun h3 => ?_⟩
      split
      · exact p1
      · exact p3 h3
  · obtain ⟨y, hy, e⟩ := h.busy a ha
    obtain ⟨z, hz, e2⟩ := set_has hx hy
    exact ⟨z, hz, e2.trans e⟩
/-- what was marked lasts; the turn is done -/
theorem Lst.step3 (h : Lst n g) (hp : GOk n g) (hx : g.T[idx]? = some x) (ta : TurnAt n g x i c j b) (h0 : x.ph = 3) {A' : SA} (hA : ∀ i, (A'.hd.getD i (0, 0)).2 = (g.A.hd.getD i (0, 0)).2) : Lst n { g with ma := fenceA g.ma x.cl, A := A', ls := setW g.ls x.a x.tb, T := g.T.eraseIdx idx } := by
  have hxm := List.mem_of_getElem? hx
  have hcs0 := ta.cs hp
  have hc := fence_cut (n := n) hp.ok hp.vl x.cl
  have h1 := h.cut hc
  obtain ⟨_, g2⟩ := h.turn x hxm i c j ta.i1.1 ta.i1.2 ta.c3.1 ta.c3.2 ta.j1 hcs0 ta.aa
  obtain ⟨p, p1, p2, p3⟩ := g2 (by omega)
  have hpk := p3 h0
  have hbit : ∀ k, k ≤ psN (fenceA g.ma x.cl) i → ∀ bb : Nat, bitW (fenceA g.ma x.cl) i k = (bb : Int) → bb.testBit j = decide (x.tb = 2) := fun k hk bb hb => by
    rw [hc.bt i ta.i1.1 ta.i1.2] at hb
    rw [hc.ps i ta.i1.1 ta.i1.2] at hk
    have hle : mkN g.ma i x.cl ≤ psN g.ma i := hc.le i ta.i1.1 ta.i1.2
    exact p2 _ (by show p ≤ mkN g.ma i x.cl + k; omega) (by show mkN g.ma i x.cl + k ≤ _; omega) bb hb
  have hsub := List.eraseIdx_sublist (l := g.T) (k := idx)
  refine h1.tell (g := { g with ma := fenceA g.ma x.cl }) (fun k k1 k2 r hr => ?_) hA (fun y hy => Or.inl (hsub.subset hy)) (fun a ha => ?_)
  · have hf := h1.fit k k1 k2 r hr
    refine hf.setTo x.a x.tb (fun c0 b0 j0 e1 e2 hb e => ?_) (fun htb c' j' b0 c1 c3 hcs hj e e2 => ?_)
    · -- a bit that is set at the block
      have hpos := hf.bit e1 e2 hb
      obtain ⟨c4, b4, q1, q2, q3, q4, q5, q6⟩ := hf.out
      have ec : c0 = c4 := by omega
      have eb : b0 = b4 := by omega
      subst ec; subst eb
      rcases q4 with ⟨z1, z2⟩ | ⟨z1, z2, z3⟩
      · rw [z2] at hb; simp at hb
      · obtain ⟨f1, f2, f3⟩ := ta.same hp k1 k2 z1 z2 hpos.1 z3 e.symm
        subst f1; subst f2; subst f3
        have := hbit r hr b0 e2
        rw [hb] at this
        exact Or.inl (of_decide_eq_true this.symm)
    · obtain ⟨f1, f2, f3⟩ := ta.same hp k1 k2 c1 c3 hj hcs e.symm
      subst f1; subst f2; subst f3
      rw [hbit r hr b0 e2]
      exact decide_eq_true htb
  · rw [isGet_setW] at ha
    split at ha
    · have := ta.tbb; omega
    · rename_i hne
      obtain ⟨y, hy, e⟩ := h.busy a ha
      exact ⟨y, erase_has hx hy (by rw [e]; exact hne), e⟩
end
theorem Lst.step {n : Nat} {nn : Int} {g g' : GA} (h : Lst n g) (hp : GOk n g) (hs : Stepd n nn g g') : Lst n g' := by
  cases hs with
  | none _ => exact h
  | mid idx x i c j b hi hx ta hph =>
    rcases (by omega : x.ph = 0 ∨ x.ph = 1 ∨ x.ph = 2) with h0 | h0 | h0
    · have := h.step0 hp hx ta h0
      rw [h0]; exact this
    · have := h.step1 hp hx ta h0
      rw [h0]; exact this
    · have := h.step2 hp hx ta h0
      rw [h0]; exact this
  | fin idx x i c j b hi hx ta hph =>
    refine h.step3 hp hx ta hph (A' := nextSA g.A i c j b x.a x.tb 3) (fun k => ?_)
    unfold nextSA
    rw [if_neg (by decide), if_pos rfl]
    split <;> rfl
/-- every act -/
theorem Lst.did {n : Nat} {kd nn aa cc : Int} {g g' : GA} (h : Lst n g) (hp : GOk n g) (hd : Did n kd nn aa cc g g') : Lst n g' := by
  cases hd with
  | other _ => exact h
  | rsvArg _ _ => exact h
  | rsv c a x A' cs' ls' _ _ hc hw hr => exact h.rsv hp hc hw hr
  | relNo _ _ => exact h
  | rel i j c _ ha _ _ _ _ _ => exact h.rel c ha
  | pubNo _ _ => exact h
  | pub t cl _ _ _ ha => exact h.begun _ ha (Or.inr rfl) rfl rfl
  | freNo _ _ => exact h
  | fre t cl _ _ _ ha => exact h.begun _ ha (Or.inl rfl) rfl rfl
  | step g' _ hs => exact h.step hp hs
  | evNo _ _ => exact h
  | ev k _ _ _ => exact h.cut (evict_cut hp.ok _ _)

end Go.Proofs.YtbkaemajjaiklaaGreat

/- What may last of the headers, plainly: at a game's beginning; which words there are. No program. -/
namespace Go.Proofs.YtbkaemajjaiklaaGreat
open Go.RowKit
set_option linter.unusedVariables false
set_option linter.unusedSimpArgs false

theorem setBits_mem {b : Nat} {j : Fin 64} : j ∈ setBits b ↔ b.testBit j.val = true := by
  unfold setBits
  rw [List.mem_filter]
  exact ⟨fun h => h.2, fun h => ⟨List.mem_finRange j, h⟩⟩
theorem bit_high {b j : Nat} (hb : b < 18446744073709551616) (h : b.testBit j = true) : j < 64 := by
  apply Classical.byContradiction
  intro hj
  have h64 : 18446744073709551616 ≤ 2 ^ j := by
    have : (2 : Nat) ^ 64 ≤ 2 ^ j := Nat.pow_le_pow_right (by decide) (by omega)
    exact this
  rw [Nat.testBit_lt_two_pow (Nat.lt_of_lt_of_le hb h64)] at h
  cases h
theorem mayBits_bit {b : Nat} {n : Int} (h : mayBits b n = true) {j : Nat} (hj : b.testBit j = true) (hb : b < 18446744073709551616) : (j : Int) < n := by
  unfold mayBits at h
  rw [List.all_eq_true] at h
  have := h ⟨j, bit_high hb hj⟩ (setBits_mem.2 hj)
  exact of_decide_eq_true this
theorem zero_bits {b : Nat} (h : ∀ j, b.testBit j = false) : b = 0 := Nat.eq_of_testBit_eq (fun j => by rw [h j]; simp)
theorem leW_range {bs : List Int} (hb : ∀ x ∈ bs, 0 ≤ x ∧ x < 256) (i : Nat) : 0 ≤ wAt bs i ∧ wAt bs i < 18446744073709551616 := by
  unfold wAt
  have h1 := leW_bounds (bs := (bs.drop (8 * i)).take 8) (fun x hx => hb x (List.mem_of_mem_drop (List.mem_of_mem_take hx)))
  have h2 : ((bs.drop (8 * i)).take 8).length ≤ 8 := by rw [List.length_take]; omega
  have h3 : (2 : Int) ^ (8 * ((bs.drop (8 * i)).take 8).length) ≤ 18446744073709551616 := by
    have h4 : (2 : Nat) ^ (8 * ((bs.drop (8 * i)).take 8).length) ≤ 2 ^ 64 := Nat.pow_le_pow_right (by decide) (by omega)
    have h5 : ((2 : Nat) ^ 64 : Nat) = 18446744073709551616 := by decide
    have h6 : ((2 ^ (8 * ((bs.drop (8 * i)).take 8).length) : Nat) : Int) = (2 : Int) ^ (8 * ((bs.drop (8 * i)).take 8).length) := by push_cast; rfl
    rw [← h6]; omega
  omega
theorem at0_words {bs : List Int} {i : Nat} (h : 8 * i + 8 ≤ bs.length) : at0 (wordsOf bs) i = wAt bs i := by
  unfold at0 wordsOf
  rw [List.getElem?_map, List.getElem?_range (by omega)]; rfl
theorem clsAt_w {bs : List Int} (hb : ∀ x ∈ bs, 0 ≤ x ∧ x < 256) (i : Nat) : wAt bs (128 * i) = (clsAt bs i : Int) := by
  have := leW_range hb (128 * i)
  unfold wAt at this ⊢
  unfold clsAt
  rw [show 8 * (128 * i) = 1024 * i by omega] at this ⊢
  omega
theorem bitAt_w {bs : List Int} (hb : ∀ x ∈ bs, 0 ≤ x ∧ x < 256) (i : Nat) : wAt bs (128 * i + 1) = (bitAt bs i : Int) := by
  have := leW_range hb (128 * i + 1)
  unfold wAt at this ⊢
  unfold bitAt
  rw [show 8 * (128 * i + 1) = 1024 * i + 8 by omega] at this ⊢
  omega
theorem ofTo_two (bs : List Int) (n : Nat) : ∀ k i, k ≤ n → 1 ≤ i → i ≤ k → ((ofTo bs n k).hd.getD i (0, 0)).2 = (bitAt bs i : Int)
  | 0, i, _, h1, h2 => by omega
  | k + 1, i, hk, h1, h2 => by
    show ((bitsSA (giveSA (hdSA (ofTo bs n k) (k + 1) (bitAt bs (k + 1))) (k + 1) (clsAt bs (k + 1))) (k + 1) (clsAt bs (k + 1)) (setBits (bitAt bs (k + 1)))).hd.getD i (0, 0)).2 = _
    rw [bitsSA_hd, giveSA_two]
    show (((ofTo bs n k).hd.set (k + 1) (((ofTo bs n k).hd.getD (k + 1) (0, 0)).1, (bitAt bs (k + 1) : Int))).getD i (0, 0)).2 = _
    have hl := ofTo_hd bs n k
    by_cases e : i = k + 1
    · subst e
      rw [List.getD_eq_getElem?_getD, List.getElem?_set_self (by omega)]; rfl
    · rw [List.getD_eq_getElem?_getD, List.getElem?_set_ne (fun h => e h.symm), ← List.getD_eq_getElem?_getD]
      exact ofTo_two bs n k i (by omega) h1 (by omega)
theorem refC_get {bs : List Int} {n i : Nat} (h1 : 1 ≤ i) (h2 : i ≤ n) : (refC bs n).getD (i - 1) 0 = (clsAt bs i : Int) := by
  unfold refC
  rw [List.getD_eq_getElem?_getD, List.getElem?_map, List.getElem?_range (by omega)]
  show ((clsAt bs (i - 1 + 1) : Nat) : Int) = _
  rw [show i - 1 + 1 = i by omega]
theorem refL_mem {bs : List Int} {n : Nat} {p : Int × Int} : p ∈ refL bs n ↔ p.2 = 2 ∧ ∃ i j : Nat, 1 ≤ i ∧ i ≤ n ∧ j < 64 ∧ (bitAt bs i).testBit j = true ∧ p.1 = blockZ (i : Int) (clsAt bs i) (j : Int) := by
  unfold refL refLi
  rw [List.mem_flatMap]
  constructor
  · rintro ⟨k, hk, hp⟩
    obtain ⟨j, hj, rfl⟩ := List.mem_map.1 hp
    exact ⟨rfl, k + 1, j.val, by omega, by have := List.mem_range.1 hk; omega, j.isLt, setBits_mem.1 hj, rfl⟩
  · rintro ⟨h2, i, j, i1, i2, hj, hb, h1⟩
    refine ⟨i - 1, List.mem_range.2 (by omega), List.mem_map.2 ⟨⟨j, hj⟩, ?_, ?_⟩⟩
    · rw [show i - 1 + 1 = i by omega]; exact setBits_mem.2 hb
    · have e : ((i - 1 : Nat) : Int) + 1 = (i : Int) := by omega
      rw [e, show i - 1 + 1 = i by omega, ← h1, ← h2]
theorem Lst.begin {bs : List Int} {n : Nat} (hn : 1 ≤ n ∧ n ≤ 6) (hl : bs.length = 1024 * (n + 1)) (hb : ∀ x ∈ bs, 0 ≤ x ∧ x < 256) (hok : ∀ i, 1 ≤ i → i ≤ n → headOK bs i = true) : Lst n (beginG bs n) := by
  have hal := ofTo_alike bs n (by omega) hok n (Nat.le_refl _)
  have hps : ∀ i, psN (beginG bs n).ma i = 0 := fun i => rfl
  have hcl : ∀ i r, 1 ≤ i → i ≤ n → clsW (beginG bs n).ma i r = (clsAt bs i : Int) := fun i r i1 i2 => by
    show lastPut (([] : List (Nat × Int)).take r) _ (at0 (wordsOf bs) (128 * i)) = _
    rw [List.take_nil, at0_words (by omega), ← clsAt_w hb]; rfl
  have hbt : ∀ i r, 1 ≤ i → i ≤ n → bitW (beginG bs n).ma i r = (bitAt bs i : Int) := fun i r i1 i2 => by
    show lastPut (([] : List (Nat × Int)).take r) _ (at0 (wordsOf bs) (128 * i + 1)) = _
    rw [List.take_nil, at0_words (by omega), ← bitAt_w hb]; rfl
  have hhd : ∀ i, 1 ≤ i → i ≤ n → clsAt bs i ≤ 3 ∧ mayBits (bitAt bs i) (blocksZ (clsAt bs i)) = true := fun i i1 i2 => by
    have := hok i i1 i2
    unfold headOK at this
    rw [Bool.and_eq_true] at this
    exact ⟨of_decide_eq_true this.1, this.2⟩
  refine ⟨fun i i1 i2 k hk => ?_, fun i i1 i2 => ?_, fun x hx => (by cases hx), fun a ha => ?_⟩
  · rw [hcl i k i1 i2, hbt i k i1 i2]
    obtain ⟨q1, q2⟩ := hhd i i1 i2
    have hlt := bitAt_lt hb i
    have hnb := nb_eq (clsAt bs i)
    have hj : ∀ j, (bitAt bs i).testBit j = true → j < nb (clsAt bs i) := fun j hj => by
      have := mayBits_bit q2 hj hlt
      omega
    refine ⟨clsAt bs i, bitAt bs i, rfl, rfl, hlt, ?_, fun j hbj => ⟨hj j hbj, ?_⟩, fun c' j c1 c3 hcs hjn hg => ?_⟩
    · by_cases h0 : clsAt bs i = 0
      · refine Or.inl ⟨h0, zero_bits fun j => ?_⟩
        cases hbj : (bitAt bs i).testBit j with
        | false => rfl
        | true =>
          have := hj j hbj
          rw [h0] at this
          have h00 : nb 0 = 0 := by decide
          omega
      · exact Or.inr ⟨by omega, q1, refC_get i1 i2⟩
    · refine Or.inl (hal.ul.get (refL_mem.2 ⟨rfl, i, j, i1, i2, bit_high hlt hbj, hbj, rfl⟩))
    · have hm := isGet_mem (by decide) hg
      obtain ⟨_, i', j', g1, g2, g3, g4, g5⟩ := refL_mem.1 hm
      have hcc : c' = clsAt bs i := by
        have h5 : (refC bs n).getD (i - 1) 0 = (c' : Int) := hcs
        have := refC_get (bs := bs) i1 i2
        rw [h5] at this; omega
      have hcs' : (beginG bs n).cs.getD (i' - 1) 0 = (clsAt bs i' : Int) := refC_get g1 g2
      have q' := hhd i' g1 g2
      have hnb' := nb_eq (clsAt bs i')
      have hj' : j' < nb (clsAt bs i') := by have := mayBits_bit q'.2 g4 (bitAt_lt hb i'); omega
      have hc1 : 1 ≤ clsAt bs i' := by
        apply Classical.byContradiction
        intro h0
        have : clsAt bs i' = 0 := by omega
        rw [this] at hj'
        have h00 : nb 0 = 0 := by decide
        omega
      have g5' : blockZ (i : Int) c' j = blockZ (i' : Int) (clsAt bs i') j' := g5
      obtain ⟨rfl, rfl, rfl⟩ := pos_same hn.2 ⟨i1, i2⟩ ⟨g1, g2⟩ ⟨c1, c3⟩ ⟨hc1, q'.1⟩ hjn hj' hcs hcs' g5'
      exact g4
  · rw [hps, hbt i 0 i1 i2]
    exact (ofTo_two bs n n i (Nat.le_refl _) i1 i2).symm
  · exfalso
    have hv : isGet (refL bs n) a = 3 ∨ isGet (refL bs n) a = 4 := ha
    have hne : isGet (refL bs n) a ≠ 0 := by omega
    have hm := isGet_mem hne rfl
    have := (refL_mem.1 hm).1
    have h2 : isGet (refL bs n) a = 2 := this
    omega

/-- all words of a memory are words -/
def WordR (x : Int) : Prop := 0 ≤ x ∧ x < 18446744073709551616
structure Rng (m : MA) : Prop where
  im : ∀ x ∈ m.image, WordR x
  pt : ∀ l ∈ m.lines, ∀ p ∈ l.ps, WordR p.2
theorem lastPut_r {ps : List (Nat × Int)} (h : ∀ p ∈ ps, WordR p.2) (i : Nat) {b : Int} (hb : WordR b) : WordR (lastPut ps i b) := by
  unfold lastPut
  induction ps generalizing b with
  | nil => exact hb
  | cons p ps ih =>
    rw [List.foldl_cons]
    refine ih (fun q hq => h q (List.mem_cons_of_mem _ hq)) ?_
    split
    · exact h p (List.mem_cons_self ..)
    · exact hb
theorem addP_mem {adr : Nat} {p : Nat × Int} : ∀ {ls : List LP} {l : LP}, l ∈ addP adr p ls → ∀ q ∈ l.ps, q = p ∨ ∃ l' ∈ ls, q ∈ l'.ps
  | [], l, h, q, hq => by
    have : l = ⟨adr, [p], ks0⟩ := by simpa [addP] using h
    rw [this] at hq
    exact Or.inl (List.mem_singleton.1 hq)
  | x :: ls, l, h, q, hq => by
    have h' : l ∈ (if x.adr = adr then ⟨x.adr, x.ps ++ [p], x.ks⟩ :: ls else x :: addP adr p ls) := h
    split at h'
    · rcases List.mem_cons.1 h' with rfl | h1
      · rcases List.mem_append.1 hq with h2 | h2
        · exact Or.inr ⟨x, List.mem_cons_self .., h2⟩
        · exact Or.inl (List.mem_singleton.1 h2)
      · exact Or.inr ⟨l, List.mem_cons_of_mem _ h1, hq⟩
    · rcases List.mem_cons.1 h' with rfl | h1
      · exact Or.inr ⟨l, List.mem_cons_self .., hq⟩
      · rcases addP_mem h1 q hq with h2 | ⟨l', h2, h3⟩
        · exact Or.inl h2
        · exact Or.inr ⟨l', List.mem_cons_of_mem _ h2, h3⟩
theorem Rng.store {m : MA} (h : Rng m) (k : Nat) {x : Int} (hx : WordR x) : Rng (storeA m k x) :=
  ⟨h.im, fun l hl p hp => by
    rcases addP_mem hl p hp with rfl | ⟨l', h1, h2⟩
    · exact hx
    · exact h.pt l' h1 p h2⟩
theorem Rng.flush {m : MA} (h : Rng m) (c k : Nat) : Rng (flushA m c k) :=
  ⟨h.im, fun l hl p hp => by
    obtain ⟨l', h1, rfl⟩ := List.mem_map.1 hl
    refine h.pt l' h1 p ?_
    unfold flushL at hp
    split at hp <;> exact hp⟩
theorem cutP_mem {l l' : LP} {k : Nat} (h : l' ∈ cutP l k) : ∀ p ∈ l'.ps, p ∈ l.ps := by
  unfold cutP at h
  split at h
  · cases h
  · rw [List.mem_singleton.1 h]
    exact fun p hp => List.mem_of_mem_drop hp
theorem fold_r (f : LP → Nat) (i : Nat) : ∀ (ls : List LP), (∀ l ∈ ls, ∀ p ∈ l.ps, WordR p.2) → ∀ b : Int, WordR b → WordR (ls.foldl (fun b l => lastPut (l.ps.take (f l)) i b) b)
  | [], _, b, hb => hb
  | x :: ls, h, b, hb => by
    rw [List.foldl_cons]
    exact fold_r f i ls (fun l hl => h l (List.mem_cons_of_mem _ hl)) _ (lastPut_r (fun p hp => h x (List.mem_cons_self ..) p (List.mem_of_mem_take hp)) i hb)
theorem Rng.fence {m : MA} (h : Rng m) (c : Nat) : Rng (fenceA m c) := by
  refine ⟨fun x hx => ?_, fun l hl p hp => ?_⟩
  · obtain ⟨i, hi, rfl⟩ := List.mem_iff_getElem.1 hx
    have hi' : i < m.image.length := by simpa [fenceA] using hi
    show WordR ((m.image.mapIdx fun i b => m.lines.foldl (fun b l => lastPut (l.ps.take (markP l c)) i b) b)[i]'(by simpa [fenceA] using hi))
    rw [List.getElem_mapIdx]
    exact fold_r (fun l => markP l c) i m.lines h.pt _ (h.im _ (List.getElem_mem hi'))
  · obtain ⟨l', h1, h2⟩ := List.mem_flatMap.1 hl
    exact h.pt l' h1 p (cutP_mem h2 p hp)
theorem applyPuts_r {ps : List (Nat × Int)} (h : ∀ p ∈ ps, WordR p.2) : ∀ {im : List Int}, (∀ x ∈ im, WordR x) → ∀ x ∈ applyPuts im ps, WordR x := by
  unfold applyPuts
  induction ps with
  | nil => intro im hi; exact hi
  | cons p ps ih =>
    intro im hi
    rw [List.foldl_cons]
    refine ih (fun q hq => h q (List.mem_cons_of_mem _ hq)) (fun x hx => ?_)
    rcases List.mem_or_eq_of_mem_set hx with h1 | h1
    · exact hi x h1
    · rw [h1]; exact h p (List.mem_cons_self ..)
theorem Rng.evict {m : MA} (h : Rng m) (k n : Nat) : Rng (evictA m k n) := by
  refine ⟨?_, fun l hl p hp => ?_⟩
  · show ∀ x ∈ m.lines.foldl (evictI k n) m.image, WordR x
    have key : ∀ (ls : List LP), (∀ l ∈ ls, ∀ p ∈ l.ps, WordR p.2) → ∀ im : List Int, (∀ x ∈ im, WordR x) → ∀ x ∈ ls.foldl (evictI k n) im, WordR x := by
      intro ls
      induction ls with
      | nil => intro _ im hi; exact hi
      | cons y ls ih =>
        intro hy im hi
        rw [List.foldl_cons]
        refine ih (fun l hl => hy l (List.mem_cons_of_mem _ hl)) _ ?_
        unfold evictI
        split
        · exact applyPuts_r (fun p hp => hy y (List.mem_cons_self ..) p (List.mem_of_mem_take hp)) hi
        · exact hi
    exact key m.lines h.pt m.image h.im
  · obtain ⟨l', h1, h2⟩ := List.mem_flatMap.1 hl
    refine h.pt l' h1 p ?_
    unfold evictL at h2
    split at h2
    · exact cutP_mem h2 p hp
    · rw [List.mem_singleton.1 h2] at hp; exact hp
theorem Rng.did {n : Nat} {kd nn aa cc : Int} {g g' : GA} (h : Rng g.ma) (hd : Did n kd nn aa cc g g') : Rng g'.ma := by
  have st : ∀ (x : TR) (i c j b : Nat), TurnAt n g x i c j b → ∀ ph, Rng (nextMA g.ma i c j b x.tb x.cl ph) := fun x i c j b ta ph => by
    unfold nextMA
    split
    · exact h.store _ ⟨by omega, by have := ta.c3; omega⟩
    · split
      · exact h.store _ ⟨by omega, by have := newB_lt (tb := x.tb) ta.b64 ta.j64; omega⟩
      · split
        · exact h.flush _ _
        · exact h.fence _
  cases hd with
  | step g' _ hs =>
    cases hs with
    | none _ => exact h
    | mid idx x i c j b _ _ ta _ => exact st x i c j b ta x.ph
    | fin idx x i c j b _ _ ta _ => exact st x i c j b ta 3
  | ev k _ _ _ => exact h.evict _ _
  | _ => exact h
theorem Rng.begin {bs : List Int} {n : Nat} (hb : ∀ x ∈ bs, 0 ≤ x ∧ x < 256) : Rng (beginG bs n).ma :=
  ⟨fun x hx => by
    obtain ⟨i, hi, rfl⟩ := List.mem_map.1 (show x ∈ (List.range (bs.length / 8)).map (wAt bs) from hx)
    exact leW_range hb i, fun l hl => by cases hl⟩

end Go.Proofs.YtbkaemajjaiklaaGreat

/- SlabMixed, plainly: one slab, whose blocks that are used go, whose others come. No program. -/
namespace Go.Proofs.YtbkaemajjaiklaaGreat
open Go.RowKit
set_option linter.unusedVariables false
set_option linter.unusedSimpArgs false

/-- the slab's j-th block -/
def Bk (c j : Nat) : Int := blockZ ((1 : Nat) : Int) (c : Int) (j : Int)
theorem Bk_inj {c j j' : Nat} (hc : 1 ≤ c ∧ c ≤ 3) (hj : j < nb c) (hj' : j' < nb c) (h : Bk c j = Bk c j') : j = j' :=
  (pos_same (n := 1) (cs := [(c : Int)]) (by decide) ⟨Nat.le_refl 1, Nat.le_refl 1⟩ ⟨Nat.le_refl 1, Nat.le_refl 1⟩ hc hc hj hj' rfl rfl h).2.2
/-- one slab of the class c -/
structure One (c : Nat) (g : GA) : Prop where
  ok : GOk 1 g
  lst : Lst 1 g
  rng : Rng g.ma
  hc : 1 ≤ c ∧ c ≤ 3
  cs : g.cs.getD 0 0 = (c : Int)
theorem One.pos {c : Nat} {g : GA} (h : One c g) {a : Int} (ha : isGet g.ls a ≠ 0) : ∃ j, j < nb c ∧ a = Bk c j := by
  obtain ⟨i, j, c', h1, h2, h3, h4, h5, h6⟩ := h.ok.al.blkOf ha
  have h0 : i = 0 := by omega
  subst h0
  have hcc := getD_natC h5 h.cs
  subst hcc
  exact ⟨j, h2, h6⟩
/-- so many of those that are used are being given back -/
structure MixA (c u : Nat) (gone : List Int) (k : Nat) (g : GA) : Prop where
  one : One c g
  st : ∀ j, j < nb c → isGet g.ls (Bk c j) = if u.testBit j then (if Bk c j ∈ gone.take k then 3 else 2) else 0
  ph : ∀ x ∈ g.T, x.ph = 0
/-- others are being published -/
structure MixB (c u : Nat) (g : GA) : Prop where
  one : One c g
  st : ∀ j, j < nb c → (u.testBit j = true → isGet g.ls (Bk c j) = 3) ∧ (u.testBit j = false → isGet g.ls (Bk c j) = 0 ∨ isGet g.ls (Bk c j) = 4)
/-- turns go on, and end -/
structure MixC (c u : Nat) (g : GA) : Prop where
  one : One c g
  st : ∀ j, j < nb c → (u.testBit j = true → isGet g.ls (Bk c j) = 3 ∨ isGet g.ls (Bk c j) = 0) ∧ (u.testBit j = false → isGet g.ls (Bk c j) = 4 ∨ isGet g.ls (Bk c j) = 2)
theorem blkG_A (ls : List (Int × Int)) (a : Int) : blkG ls (-1) a = a := by unfold blkG; rw [if_neg (by omega)]
/-- one more is given back -/
theorem MixA.next {c u k : Nat} {gone : List Int} {g g' : GA} (h : MixA c u gone k g) (ok' : GOk 1 g') (l' : Lst 1 g') (r' : Rng g'.ma) {a : Int} (ha : gone[k]? = some a) (hn : gone.Nodup) (hu : ∀ a ∈ gone, ∃ j, j < nb c ∧ u.testBit j = true ∧ a = Bk c j) (hd : Did 1 4 (-1) a 0 g g') : MixA c u gone (k + 1) g' ∧ g'.T.length = g.T.length + 1 := by
  obtain ⟨hk, hak⟩ := List.getElem?_eq_some_iff.1 ha
  obtain ⟨j, hj, huj, rfl⟩ := hu a (List.mem_of_getElem? ha)
  have hnot : Bk c j ∉ gone.take k := by
    intro hm
    obtain ⟨q, hq, e⟩ := List.mem_iff_getElem.1 hm
    rw [List.length_take] at hq
    rw [List.getElem_take] at e
    have := (List.getElem_inj (h₀ := by omega) (h₁ := hk) hn).1 (e.trans hak.symm)
    omega
  have hg := h.st j hj
  rw [huj, if_pos rfl, if_neg hnot] at hg
  have htk : gone.take (k + 1) = gone.take k ++ [Bk c j] := by rw [List.take_succ_eq_append_getElem hk, hak]
  cases hd with
  | other h0 => exact absurd (by decide) h0
  | rsvArg h0 => exact absurd h0 (by decide)
  | rsv _ _ _ _ _ _ h0 => exact absurd h0 (by decide)
  | relNo h0 => exact absurd h0 (by decide)
  | rel _ _ _ h0 => exact absurd h0 (by decide)
  | pubNo h0 => exact absurd h0 (by decide)
  | pub _ _ h0 => exact absurd h0 (by decide)
  | freNo _ h1 => rw [blkG_A] at h1; exact absurd ⟨by decide, by decide, hg⟩ h1
  | step _ h0 => exact absurd h0 (by decide)
  | evNo h0 => exact absurd h0 (by decide)
  | ev _ h0 => exact absurd h0 (by decide)
  | fre t cl _ _ _ _ =>
    refine ⟨⟨⟨ok', l', r', h.one.hc, h.one.cs⟩, fun q hq => ?_, fun x hx => ?_⟩, by show (g.T ++ [_]).length = _; rw [List.length_append]; rfl⟩
    · show isGet (setW g.ls (blkG g.ls (-1) (Bk c j)) 3) (Bk c q) = _
      rw [blkG_A, isGet_setW, htk]
      by_cases e : Bk c q = Bk c j
      · have := Bk_inj h.one.hc hq hj e
        subst this
        rw [if_pos rfl, huj, if_pos rfl, if_pos (List.mem_append.2 (Or.inr (List.mem_singleton.2 rfl)))]
      · rw [if_neg e, h.st q hq]
        by_cases huq : u.testBit q = true
        · rw [huq, if_pos rfl, if_pos rfl]
          by_cases hm : Bk c q ∈ gone.take k
          · rw [if_pos hm, if_pos (List.mem_append.2 (Or.inl hm))]
          · rw [if_neg hm, if_neg (fun hh => (List.mem_append.1 hh).elim hm (fun h1 => e (List.mem_singleton.1 h1)))]
        · rw [if_neg huq, if_neg huq]
    · rcases List.mem_append.1 hx with h1 | h1
      · exact h.ph x h1
      · rw [List.mem_singleton.1 h1]
/-- one more is reserved, and its publishing begun -/
theorem MixB.next {c u : Nat} {g g1 g' : GA} (h : MixB c u g) (ok' : GOk 1 g') (l' : Lst 1 g') (r' : Rng g'.ma) {a : Int} {j : Nat} (hj : j < nb c) (ha : a = Bk c j) (h0 : isGet g.ls a = 0) (hls : g1.ls = setW g.ls a 1) (hcs : g1.cs = g.cs) (hT : g1.T = g.T) (hd : Did 1 3 (-1) a 0 g1 g') : MixB c u g' ∧ g'.T.length = g.T.length + 1 := by
  have hg1 : isGet g1.ls a = 1 := by rw [hls, isGet_setW, if_pos rfl]
  cases hd with
  | other h0 => exact absurd (by decide) h0
  | rsvArg h0 => exact absurd h0 (by decide)
  | rsv _ _ _ _ _ _ h0 => exact absurd h0 (by decide)
  | relNo h0 => exact absurd h0 (by decide)
  | rel _ _ _ h0 => exact absurd h0 (by decide)
  | freNo h0 => exact absurd h0 (by decide)
  | fre _ _ h0 => exact absurd h0 (by decide)
  | pubNo _ h1 => rw [blkG_A] at h1; exact absurd ⟨by decide, by decide, hg1⟩ h1
  | step _ h0 => exact absurd h0 (by decide)
  | evNo h0 => exact absurd h0 (by decide)
  | ev _ h0 => exact absurd h0 (by decide)
  | pub t cl _ _ _ _ =>
    refine ⟨⟨⟨ok', l', r', h.one.hc, by show g1.cs.getD 0 0 = _; rw [hcs]; exact h.one.cs⟩, fun q hq => ?_⟩, by show (g1.T ++ [_]).length = _; rw [List.length_append, hT]; rfl⟩
    show (_ → isGet (setW g1.ls (blkG g1.ls (-1) a) 4) (Bk c q) = 3) ∧ (_ → isGet (setW g1.ls (blkG g1.ls (-1) a) 4) (Bk c q) = 0 ∨ isGet (setW g1.ls (blkG g1.ls (-1) a) 4) (Bk c q) = 4)
    rw [blkG_A, isGet_setW, hls, isGet_setW]
    by_cases e : Bk c q = a
    · have hqj := Bk_inj h.one.hc hq hj (e.trans ha)
      subst hqj
      rw [if_pos e]
      refine ⟨fun huq => ?_, fun _ => Or.inr rfl⟩
      have := (h.st q hq).1 huq
      rw [e, h0] at this
      exact absurd this (by decide)
    · rw [if_neg e, if_neg e]
      exact h.st q hq
theorem len_in : ∀ (xs ys : List Int), xs.Nodup → (∀ x ∈ xs, x ∈ ys) → xs.length ≤ ys.length
  | [], ys, _, _ => Nat.zero_le _
  | x :: xs, ys, hn, hs => by
    have hx := hs x (List.mem_cons_self ..)
    have h1 := List.nodup_cons.1 hn
    have h2 := len_in xs (ys.erase x) h1.2 (fun y hy => (List.mem_erase_of_ne (fun e : y = x => h1.1 (by rw [← e]; exact hy))).2 (hs y (List.mem_cons_of_mem _ hy)))
    rw [List.length_erase_of_mem hx] at h2
    have := List.length_pos_of_mem hx
    rw [List.length_cons]
    omega
theorem One.turns {c : Nat} {g : GA} (h : One c g) : g.T.length ≤ 15 := by
  have := len_in (g.T.map (·.a)) ((List.range (nb c)).map fun j => Bk c j) h.ok.ta (fun a ha => by
    obtain ⟨x, hx, rfl⟩ := List.mem_map.1 ha
    obtain ⟨f1, f2, f3⟩ := h.ok.fits x hx
    have hne : isGet g.ls x.a ≠ 0 := by rcases f3 with ⟨_, e⟩ | ⟨_, e⟩ <;> rw [e] <;> decide
    obtain ⟨j, hj, e⟩ := h.pos hne
    exact List.mem_map.2 ⟨j, List.mem_range.2 hj, e.symm⟩)
  rw [List.length_map, List.length_map, List.length_range] at this
  have := nb_le c
  omega
theorem One.ph {c : Nat} {g : GA} (h : One c g) : ∀ x ∈ g.T, x.ph < 4 := fun x hx => (h.ok.fits x hx).1
/-- how many steps the turns still take -/
def pot (T : List TR) : Nat := (T.map fun x => 4 - x.ph).sum
theorem pot_next : ∀ {T : List TR} {i : Nat} {x : TR}, T[i]? = some x → x.ph < 4 → pot (T.set i x.next) + 1 = pot T
  | [], _, _, h, _ => by cases h
  | y :: T, 0, x, h, hp => by
    obtain rfl : y = x := by simpa using h
    show (4 - (y.ph + 1)) + (T.map fun x => 4 - x.ph).sum + 1 = (4 - y.ph) + (T.map fun x => 4 - x.ph).sum
    omega
  | y :: T, i + 1, x, h, hp => by
    have ih := pot_next (T := T) (i := i) (x := x) (by simpa using h) hp
    show (4 - y.ph) + pot (T.set i x.next) + 1 = (4 - y.ph) + pot T
    omega
theorem pot_erase : ∀ {T : List TR} {i : Nat} {x : TR}, T[i]? = some x → x.ph = 3 → pot (T.eraseIdx i) + 1 = pot T
  | [], _, _, h, _ => by cases h
  | y :: T, 0, x, h, hp => by
    obtain rfl : y = x := by simpa using h
    show (T.map fun x => 4 - x.ph).sum + 1 = (4 - y.ph) + (T.map fun x => 4 - x.ph).sum
    omega
  | y :: T, i + 1, x, h, hp => by
    have ih := pot_erase (T := T) (i := i) (x := x) (by simpa using h) hp
    show (4 - y.ph) + pot (T.eraseIdx i) + 1 = (4 - y.ph) + pot T
    omega
theorem MixC.next {c u : Nat} {nn : Int} {g g' : GA} (h : MixC c u g) (ok' : GOk 1 g') (l' : Lst 1 g') (r' : Rng g'.ma) (hs : Stepd 1 nn g g') : MixC c u g' ∧ (g.T = [] ∧ g'.T = [] ∨ pot g'.T + 1 = pot g.T) := by
  cases hs with
  | none h0 => exact ⟨h, Or.inl ⟨h0, h0⟩⟩
  | mid idx x i c' j b hi hx ta hph => exact ⟨⟨⟨ok', l', r', h.one.hc, h.one.cs⟩, h.st⟩, Or.inr (pot_next hx ta.ph)⟩
  | fin idx x i c' j b hi hx ta hph =>
    refine ⟨⟨⟨ok', l', r', h.one.hc, h.one.cs⟩, fun q hq => ?_⟩, Or.inr (pot_erase hx hph)⟩
    show (_ → isGet (setW g.ls x.a x.tb) (Bk c q) = 3 ∨ isGet (setW g.ls x.a x.tb) (Bk c q) = 0) ∧ (_ → isGet (setW g.ls x.a x.tb) (Bk c q) = 4 ∨ isGet (setW g.ls x.a x.tb) (Bk c q) = 2)
    rw [isGet_setW]
    by_cases e : Bk c q = x.a
    · rw [if_pos e]
      obtain ⟨g1, g2⟩ := h.st q hq
      rw [e] at g1 g2
      rcases ta.tb with ⟨e1, e2⟩ | ⟨e1, e2⟩
      · rw [e1]
        refine ⟨fun hu => ?_, fun _ => Or.inr rfl⟩
        have := g1 hu
        omega
      · rw [e1]
        refine ⟨fun _ => Or.inr rfl, fun hu => ?_⟩
        have := g2 hu
        omega
    · rw [if_neg e]
      exact h.st q hq
/-- room, or none -/
theorem One.room {c : Nat} {g : GA} (h : One c g) : roomW g.cs g.ls c g.cs.length = (freeL g.cs g.ls c 1).length := by
  have hcl := h.ok.al.cl
  have e := roomW_eq g.cs g.ls h.hc 1
  have hz : zeroC g.cs 1 = 0 := by
    have hcs := h.cs
    have := h.hc
    show (zeroC g.cs 0 + if g.cs.getD 0 0 = 0 then 1 else 0) = 0
    rw [if_neg (by omega)]; rfl
  rw [hcl, e, hz]
  omega
/-- what is reserved where there is room -/
theorem One.rsv {c : Nat} {g : GA} (h : One c g) (h0 : roomW g.cs g.ls c g.cs.length ≠ 0) {a x : Int} {cs' : List Int} {ls' : List (Int × Int)} (hw : RsvW g.cs g.ls c 1 a x cs' ls') : x = 0 ∧ cs' = g.cs ∧ ls' = setW g.ls a 1 ∧ isGet g.ls a = 0 ∧ ∃ j, j < nb c ∧ a = Bk c j := by
  cases hw with
  | old k j hk hj hc h1 hno =>
    have : k = 0 := by omega
    subst this
    exact ⟨rfl, rfl, rfl, h1, j, hj, rfl⟩
  | new k hk h1 _ _ =>
    have : k = 0 := by omega
    subst this
    have := h.cs
    have := h.hc
    omega
  | full _ hno =>
    exfalso
    rw [h.room] at h0
    obtain ⟨a, ha⟩ := List.exists_mem_of_length_pos (Nat.pos_of_ne_zero h0)
    obtain ⟨i, j, i1, j1, c1, e, hg⟩ := (freeL_mem g.cs g.ls c a 1).1 ha
    rw [e] at hg
    exact hno.1 i j i1 j1 c1 hg
/-- the end: no turn goes on -/
theorem MixC.fin {c u : Nat} {g : GA} (h : MixC c u g) (h0 : g.T = []) : ∀ j, j < nb c → isGet g.ls (Bk c j) = if u.testBit j then 0 else 2 := by
  intro j hj
  obtain ⟨g1, g2⟩ := h.st j hj
  have hno : ∀ a, ¬ (isGet g.ls a = 3 ∨ isGet g.ls a = 4) := fun a ha => by
    obtain ⟨x, hx, _⟩ := h.one.lst.busy a ha
    rw [h0] at hx; cases hx
  have hn := hno (Bk c j)
  cases hu : u.testBit j with
  | true =>
    rcases g1 hu with e | e
    · exact absurd (Or.inl e) hn
    · rw [e]; rfl
  | false =>
    rcases g2 hu with e | e
    · exact absurd (Or.inr e) hn
    · rw [e]; rfl

end Go.Proofs.YtbkaemajjaiklaaGreat

/- The image's headers, plainly; the end of SlabMixed. No program. -/
namespace Go.Proofs.YtbkaemajjaiklaaGreat
open Go.RowKit
set_option linter.unusedVariables false
set_option linter.unusedSimpArgs false

theorem bytesW_drop : ∀ (ws : List Int) (k : Nat), (bytesW ws).drop (8 * k) = bytesW (ws.drop k)
  | [], k => by rw [List.drop_nil, show bytesW [] = [] from rfl, List.drop_nil]
  | x :: ws, 0 => rfl
  | x :: ws, k + 1 => by
    rw [List.drop_succ_cons, ← bytesW_drop ws k]
    show (wB x ++ bytesW ws).drop (8 * (k + 1)) = _
    rw [show 8 * (k + 1) = (wB x).length + 8 * k by rw [wB_len]; omega, List.drop_append]
    simp
theorem wB_word {x : Int} (h : WordR x) : leW (wB x) = x := by
  obtain ⟨n, rfl⟩ : ∃ n : Nat, x = (n : Int) := ⟨x.toNat, by have := h.1; omega⟩
  have hn : n < 18446744073709551616 := by have := h.2; omega
  have e : wB (n : Int) = (List.range 8).map (byteN n) := by
    unfold wB
    apply List.map_congr_left
    intro j _
    unfold byteN
    rw [Int.natCast_emod, Int.natCast_ediv, Int.natCast_pow]
    rfl
  rw [e, leW_word hn]
theorem wAt_bytes {ws : List Int} (h : ∀ x ∈ ws, WordR x) {k : Nat} (hk : k < ws.length) : wAt (bytesW ws) k = at0 ws k := by
  unfold wAt at0
  rw [bytesW_drop, List.getElem?_eq_getElem hk, List.drop_eq_getElem_cons hk]
  show leW ((wB ws[k] ++ bytesW (ws.drop (k + 1))).take 8) = ws[k]
  rw [show (8 : Nat) = (wB ws[k]).length from rfl, List.take_left']
  · exact wB_word (h _ (List.getElem_mem hk))
  · rfl
section
variable {n : Nat} {g : GA}
theorem Lst.image (h : Lst n g) (hp : GOk n g) (hr : Rng g.ma) : (bytesW g.ma.image).length = 1024 * (n + 1) ∧ ∀ i, 1 ≤ i → i ≤ n → (clsAt (bytesW g.ma.image) i : Int) = clsW g.ma i 0 ∧ (bitAt (bytesW g.ma.image) i : Int) = bitW g.ma i 0 := by
  have hlen : g.ma.image.length = 128 * (1 + n) := hp.ok.len.trans hp.vl
  refine ⟨by rw [bytesW_len, hlen]; omega, fun i i1 i2 => ⟨?_, ?_⟩⟩
  · rw [← clsAt_w (bytesW_byte _), wAt_bytes hr.im (by omega)]
    exact (wordAt_zero _ _).symm
  · rw [← bitAt_w (bytesW_byte _), wAt_bytes hr.im (by omega)]
    exact (wordAt_zero _ _).symm
/-- what is known of a slab of the image -/
theorem Lst.imageS (h : Lst n g) (hp : GOk n g) (hr : Rng g.ma) {i : Nat} (i1 : 1 ≤ i) (i2 : i ≤ n) : FitS g.cs g.ls i (clsAt (bytesW g.ma.image) i : Int) (bitAt (bytesW g.ma.image) i : Int) := by
  obtain ⟨e1, e2⟩ := (h.image hp hr).2 i i1 i2
  rw [e1, e2]
  exact h.fit i i1 i2 0 (Nat.zero_le _)
theorem mayBits_all {b : Nat} {m : Int} (h : ∀ j, j < 64 → b.testBit j = true → (j : Int) < m) : mayBits b m = true := by
  unfold mayBits
  rw [List.all_eq_true]
  intro j hj
  exact decide_eq_true (h j.val j.isLt (setBits_mem.1 hj))
theorem FitS.head {cs : List Int} {ls : List (Int × Int)} {i : Nat} {bs : List Int} (h : FitS cs ls i (clsAt bs i : Int) (bitAt bs i : Int)) : headOK bs i = true := by
  obtain ⟨c, b, e1, e2, h3, h4, h5, _⟩ := h.out
  have ec : clsAt bs i = c := by omega
  have eb : bitAt bs i = b := by omega
  unfold headOK
  rw [ec, eb, Bool.and_eq_true]
  refine ⟨decide_eq_true (by rcases h4 with h4 | h4 <;> omega), mayBits_all fun j _ hj => ?_⟩
  have := (h5 j hj).1
  have hn := nb_eq c
  omega
theorem Lst.heads (h : Lst n g) (hp : GOk n g) (hr : Rng g.ma) : ∀ i, 1 ≤ i → i ≤ n → headOK (bytesW g.ma.image) i = true := fun i i1 i2 => (h.imageS hp hr i1 i2).head
end
/-- used: rising, just those -/
theorem usedI_same {l1 l2 : List (Int × Int)} (h1 : UniqA l1) (h2 : UniqA l2) (h : ∀ a, isGet l1 a = 2 ∨ isGet l1 a = 3 ↔ isGet l2 a = 2 ∨ isGet l2 a = 3) : usedI l1 = usedI l2 := by
  unfold usedI
  obtain ⟨s1, m1⟩ := fold_ins (usedL l1) [] List.Pairwise.nil
  obtain ⟨s2, m2⟩ := fold_ins (usedL l2) [] List.Pairwise.nil
  refine sorted_uniq _ _ (s1.imp (fun h => Int.le_of_lt h)) (s1.imp (fun h => by omega)) s2 (fun a => ?_)
  rw [m1, m2, usedL_mem h1, usedL_mem h2]
  constructor
  · rintro (h3 | h3)
    · exact Or.inl ((h a).1 h3)
    · cases h3
  · rintro (h3 | h3)
    · exact Or.inl ((h a).2 h3)
    · cases h3
theorem count_two {α : Type} (p q r : α → Bool) : ∀ (l : List α), (∀ x ∈ l, (p x = true ∧ q x = false ∧ r x = true) ∨ (p x = false ∧ q x = true ∧ r x = true) ∨ (p x = false ∧ q x = false ∧ r x = false)) → (l.filter p).length + (l.filter q).length = (l.filter r).length
  | [], _ => rfl
  | x :: l, h => by
    have ih := count_two p q r l (fun y hy => h y (List.mem_cons_of_mem _ hy))
    rcases h x (List.mem_cons_self ..) with ⟨a, b, c⟩ | ⟨a, b, c⟩ | ⟨a, b, c⟩ <;> simp [List.filter_cons, a, b, c] <;> omega
theorem nb_count {c : Nat} (hc : 1 ≤ c ∧ c ≤ 3) : ((List.finRange 64).filter fun j => decide (j.val < nb c)).length = nb c := by
  rcases (by omega : c = 1 ∨ c = 2 ∨ c = 3) with rfl | rfl | rfl <;> decide
/-- the end of SlabMixed -/
theorem MixC.done {c u : Nat} {g : GA} (h : MixC c u g) (h0 : g.T = []) (hu : ∀ j, u.testBit j = true → j < nb c) (hu64 : u < 18446744073709551616) :
    (∀ i, 1 ≤ i → i ≤ 1 → headOK (bytesW g.ma.image) i = true) ∧ usedI (refL (bytesW g.ma.image) 1) = usedI g.ls ∧ ((refL (bytesW g.ma.image) 1).length : Int) = (nb c : Int) - ((setBits u).length : Int) := by
  have hf := h.fin h0
  have hok := h.one.lst.heads h.one.ok h.one.rng
  have hS := h.one.lst.imageS h.one.ok h.one.rng (Nat.le_refl 1) (Nat.le_refl 1)
  obtain ⟨c0, b, e1, e2, h3, h4, h5, h6⟩ := hS.out
  have ec : clsAt (bytesW g.ma.image) 1 = c0 := by omega
  have eb : bitAt (bytesW g.ma.image) 1 = b := by omega
  have hcs := h.one.cs
  have hcc : b ≠ 0 → c0 = c := fun hb => by
    rcases h4 with ⟨_, h4⟩ | ⟨_, _, h4⟩
    · exact absurd h4 hb
    · exact getD_natC h4 hcs
  have hbits : ∀ j, b.testBit j = true ↔ j < nb c ∧ u.testBit j = false := by
    intro j
    constructor
    · intro hj
      have hb : b ≠ 0 := fun e => by rw [e] at hj; simp at hj
      obtain ⟨q1, q2⟩ := h5 j hj
      rw [hcc hb] at q1 q2
      have q3 := hf j q1
      have q2' : isGet g.ls (Bk c j) = 2 ∨ isGet g.ls (Bk c j) = 3 ∨ isGet g.ls (Bk c j) = 4 := q2
      rw [q3] at q2'
      refine ⟨q1, ?_⟩
      cases hu' : u.testBit j with
      | false => rfl
      | true => rw [hu', if_pos rfl] at q2'; omega
    · rintro ⟨q1, q2⟩
      refine h6 c j h.one.hc.1 h.one.hc.2 hcs q1 ?_
      have := hf j q1
      rw [q2] at this
      exact this
  have hal := ofTo_alike (bytesW g.ma.image) 1 (by decide) hok 1 (Nat.le_refl _)
  refine ⟨hok, usedI_same hal.ul h.one.ok.al.ul (fun a => ?_), ?_⟩
  · constructor
    · intro ha
      have hne : isGet (refL (bytesW g.ma.image) 1) a ≠ 0 := by omega
      obtain ⟨_, i, j, i1, i2, hj, hbj, hae⟩ := refL_mem.1 (isGet_mem hne rfl)
      obtain rfl : i = 1 := by omega
      rw [eb] at hbj
      have hb : b ≠ 0 := fun e => by rw [e] at hbj; simp at hbj
      obtain ⟨q1, q2⟩ := (hbits j).1 hbj
      have hae' : a = Bk c j := by
        show a = blockZ ((1 : Nat) : Int) (c : Int) (j : Int)
        rw [← hcc hb, ← ec]; exact hae
      rw [hae', hf j q1, q2]
      exact Or.inl rfl
    · intro ha
      have hne : isGet g.ls a ≠ 0 := by omega
      obtain ⟨j, hj, rfl⟩ := h.one.pos hne
      have hg := hf j hj
      cases hu' : u.testBit j with
      | true => rw [hu', if_pos rfl] at hg; omega
      | false =>
        have hbj := (hbits j).2 ⟨hj, hu'⟩
        have hb : b ≠ 0 := fun e => by rw [e] at hbj; simp at hbj
        refine Or.inl (hal.ul.get (refL_mem.2 ⟨rfl, 1, j, Nat.le_refl _, Nat.le_refl _, bit_high h3 hbj, by rw [eb]; exact hbj, ?_⟩))
        show Bk c j = blockZ ((1 : Nat) : Int) (clsAt (bytesW g.ma.image) 1 : Int) (j : Int)
        rw [ec, hcc hb]; rfl
  · have hl : (refL (bytesW g.ma.image) 1).length = (setBits b).length := by
      show ((List.range 1).flatMap fun i => refLi (bytesW g.ma.image) i (setBits (bitAt (bytesW g.ma.image) (i + 1)))).length = _
      rw [show List.range 1 = [0] from rfl]
      simp [refLi, eb]
    have hcount := count_two (fun j : Fin 64 => hasB b j.val) (fun j => hasB u j.val) (fun j => decide (j.val < nb c)) (List.finRange 64) (fun j _ => by
      show (b.testBit j.val = true ∧ u.testBit j.val = false ∧ _) ∨ (b.testBit j.val = false ∧ u.testBit j.val = true ∧ _) ∨ (b.testBit j.val = false ∧ u.testBit j.val = false ∧ _)
      by_cases hj : j.val < nb c
      · cases hu' : u.testBit j.val with
        | true =>
          refine Or.inr (Or.inl ⟨?_, rfl, decide_eq_true hj⟩)
          cases hb' : b.testBit j.val with
          | false => rfl
          | true => rw [((hbits j.val).1 hb').2] at hu'; cases hu'
        | false => exact Or.inl ⟨(hbits j.val).2 ⟨hj, hu'⟩, rfl, decide_eq_true hj⟩
      · refine Or.inr (Or.inr ⟨?_, ?_, decide_eq_false hj⟩)
        · cases hb' : b.testBit j.val with
          | false => rfl
          | true => exact absurd ((hbits j.val).1 hb').1 hj
        · cases hu' : u.testBit j.val with
          | false => rfl
          | true => exact absurd (hu _ hu') hj)
    rw [nb_count h.one.hc] at hcount
    have e3 : (setBits b).length + (setBits u).length = nb c := hcount
    omega

end Go.Proofs.YtbkaemajjaiklaaGreat

/- SlabMixed: a block given back, and what is kept. -/
namespace Go.Proofs.YtbkaemajjaiklaaGreat
open Go.RowKit
set_option linter.unusedVariables false
set_option linter.unusedSimpArgs false

end Go.Proofs.YtbkaemajjaiklaaGreat
