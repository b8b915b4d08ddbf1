/- A memory of words: what a fence comes to. Plain. -/
import Derived.Test.YtbkaemajjaiklaaPmK
namespace Go.Proofs.Ytbkaemajjaiklaa
open Go.RowKit
set_option linter.unusedVariables false
set_option linter.unusedSimpArgs false

/-- what a word is behind stores -/
def lastPut (ps : List (Nat × Int)) (i : Nat) (b : Int) : Int := ps.foldl (fun b p => if p.1 / 8 = i then p.2 else b) b
theorem lastPut_id {ps : List (Nat × Int)} {i : Nat} (h : ∀ p ∈ ps, p.1 / 8 ≠ i) (b : Int) : lastPut ps i b = b := by
  induction ps generalizing b with
  | nil => rfl
  | cons p ps ih =>
    show lastPut ps i (if p.1 / 8 = i then p.2 else b) = b
    rw [if_neg (h p (List.mem_cons_self ..))]
    exact ih (fun q hq => h q (List.mem_cons_of_mem _ hq)) b
theorem applyPuts_get (ps : List (Nat × Int)) (im : List Int) (i : Nat) : (applyPuts im ps)[i]? = im[i]?.map (lastPut ps i) := by
  induction ps generalizing im with
  | nil => cases h : im[i]? <;> simp [applyPuts, lastPut, h]
  | cons p ps ih =>
    show (applyPuts (im.set (p.1 / 8) p.2) ps)[i]? = _
    rw [ih, List.getElem?_set]
    by_cases h : p.1 / 8 = i
    · subst h
      by_cases hl : p.1 / 8 < im.length
      · simp [hl, lastPut]
      · simp [hl]
    · rw [if_neg h]
      cases im[i]? <;> simp [lastPut, h]
/-- how much of a line a client marked -/
def markOf (L : LineA) (c : Nat) : Nat := (L.ks[c]?).getD 0
def cutO (L : LineA) (k : Nat) : List LineA := if k = L.ps.length then [] else [cutL L k]
def imgOf (im : List Int) (k : LineA → Nat) (Ls : List LineA) : List Int := im.mapIdx fun i b => Ls.foldl (fun b L => lastPut (L.ps.take (k L)) i b) b
/-- the lines of which S holds have lasted, each as far as k says -/
def partM (M : MemS) (k : LineA → Nat) (S : LineA → Bool) : MemS :=
  { M with image := imgOf M.image k (M.lines.filter S), lines := M.lines.flatMap fun L => if S L then cutO L (k L) else [L] }
theorem fold_id {k : LineA → Nat} {i : Nat} : ∀ {Ls : List LineA}, (∀ L ∈ Ls, ∀ p ∈ L.ps, p.1 / 8 ≠ i) → ∀ b, Ls.foldl (fun b L => lastPut (L.ps.take (k L)) i b) b = b
  | [], _, b => rfl
  | L :: Ls, h, b => by
    rw [List.foldl_cons, lastPut_id (fun p hp => h L (List.mem_cons_self ..) p (List.mem_of_mem_take hp))]
    exact fold_id (fun L' h' => h L' (List.mem_cons_of_mem _ h')) b
theorem mem_filter' {S : LineA → Bool} {Ls : List LineA} {L : LineA} (h : L ∈ Ls.filter S) : L ∈ Ls := (List.mem_filter.1 h).1
theorem part_step {M : MemS} {n : Nat} {k : LineA → Nat} {S S' : LineA → Bool} {pre post : List LineA} {L : LineA} (hM : M.lines = pre ++ L :: post) (hok : ∀ x ∈ M.lines, LineOK n x) (hkeys : M.lines.Pairwise fun a b => a.adr ≠ b.adr)
    (hS : S L = false) (hS' : S' L = true) (hother : ∀ x ∈ pre ++ post, S' x = S x) (hk : k L ≤ L.ps.length) :
    lastM (partM M k S) (pre.flatMap fun L => if S L then cutO L (k L) else [L]) L (post.flatMap fun L => if S L then cutO L (k L) else [L]) (k L) = partM M k S' := by
  have e1 : ∀ Ls : List LineA, (∀ x ∈ Ls, S' x = S x) → (Ls.flatMap fun L => if S' L then cutO L (k L) else [L]) = Ls.flatMap fun L => if S L then cutO L (k L) else [L] := by
    intro Ls h
    induction Ls with
    | nil => rfl
    | cons x xs ih => simp only [List.flatMap_cons, h x (List.mem_cons_self ..), ih fun y hy => h y (List.mem_cons_of_mem _ hy)]
  have e2 : ∀ Ls : List LineA, (∀ x ∈ Ls, S' x = S x) → Ls.filter S' = Ls.filter S := fun Ls h => List.filter_congr fun x hx => h x hx
  have hpre : ∀ x ∈ pre, S' x = S x := fun x hx => hother x (List.mem_append_left _ hx)
  have hpost : ∀ x ∈ post, S' x = S x := fun x hx => hother x (List.mem_append_right _ hx)
  have hL : (if k L = L.ps.length then ([] : List LineA) else [cutL L (k L)]) = cutO L (k L) := rfl
  unfold lastM partM
  rw [hM]
  simp only [List.flatMap_append, List.flatMap_cons, List.filter_append, hS', if_true, List.filter_cons, hS, e1 pre hpre, e1 post hpost, e2 pre hpre, e2 post hpost, hL, Bool.false_eq_true, if_false, MemS.mk.injEq, true_and, and_true, List.append_assoc]
  apply List.ext_getElem?
  intro i
  rw [applyPuts_get]
  simp only [imgOf, List.getElem?_mapIdx, List.foldl_append, List.foldl_cons]
  cases M.image[i]? with
  | none => rfl
  | some b =>
    simp only [Option.map_some, Option.some.injEq]
    generalize (pre.filter S).foldl (fun b L => lastPut (L.ps.take (k L)) i b) b = b'
    by_cases hi : ∃ p ∈ L.ps, p.1 / 8 = i
    · obtain ⟨p, hp, rfl⟩ := hi
      have hid : ∀ x ∈ post.filter S, ∀ q ∈ x.ps, q.1 / 8 ≠ p.1 / 8 := by
        intro x hx q hq hc
        have hx' := mem_filter' hx
        have h1 := (hok L (by rw [hM]; simp)).puts p hp
        have h2 := (hok x (by rw [hM]; simp [hx'])).puts q hq
        have h3 : L.adr ≠ x.adr := by
          rw [hM, List.pairwise_append] at hkeys
          exact (List.pairwise_cons.1 hkeys.2.1).1 x hx'
        have h4 : q.1 = p.1 := by omega
        rw [h4] at h2
        omega
      rw [fold_id hid, fold_id hid]
    · have h1 : ∀ b, lastPut (L.ps.take (k L)) i b = b := lastPut_id fun p hp hc => hi ⟨p, List.mem_of_mem_take hp, hc⟩
      rw [h1, h1]
theorem part_none (M : MemS) (k : LineA → Nat) : partM M k (fun _ => false) = M := by
  unfold partM
  have e : M.lines.filter (fun _ => false) = [] := by simp
  rw [e]
  have e2 : imgOf M.image k [] = M.image := by
    apply List.ext_getElem?
    intro i
    simp [imgOf, List.getElem?_mapIdx]
  rw [e2]
  cases M
  simp [List.flatMap_singleton]
theorem part_foot {m : Nat} {B : MB} {M : MemS} {k : LineA → Nat} {S : LineA → Bool} : ∀ x ∈ footM m B (partM M k S), x ∈ footM m B M := by
  intro x hx
  simp only [footM, List.mem_cons, List.mem_map, partM, List.mem_flatMap] at hx ⊢
  rcases hx with h | h | h | h | ⟨L', ⟨L, hL, hL'⟩, rfl⟩
  · exact Or.inl h
  · exact Or.inr (Or.inl h)
  · exact Or.inr (Or.inr (Or.inl h))
  · exact Or.inr (Or.inr (Or.inr (Or.inl h)))
  · refine Or.inr (Or.inr (Or.inr (Or.inr ⟨L, hL, ?_⟩)))
    split at hL'
    · unfold cutO at hL'
      split at hL'
      · cases hL'
      · rw [List.mem_singleton] at hL'; subst hL'; rfl
    · rw [List.mem_singleton] at hL'; subst hL'; rfl

end Go.Proofs.Ytbkaemajjaiklaa
