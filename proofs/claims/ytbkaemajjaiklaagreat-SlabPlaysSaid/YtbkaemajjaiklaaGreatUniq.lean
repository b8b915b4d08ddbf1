/- A map as a list: each key once. -/
import Derived.Test.YtbkaemajjaiklaaGreatSlabA
namespace Go.Proofs.YtbkaemajjaiklaaGreat
open Go.RowKit
set_option linter.unusedVariables false
set_option linter.unusedSimpArgs false

/-- each address has one who has it -/
def UniqA (has : List (Int × Int)) : Prop := (has.map (·.1)).Nodup
theorem UniqA.get {has : List (Int × Int)} (hu : UniqA has) {a v : Int} (h : (a, v) ∈ has) : isGet has a = v := by
  induction has with
  | nil => cases h
  | cons p l ih =>
    unfold UniqA at hu ih
    rw [List.map_cons, List.nodup_cons] at hu
    show (if p.1 = a then p.2 else isGet l a) = v
    rcases List.mem_cons.1 h with rfl | h1
    · rw [if_pos rfl]
    · rw [if_neg, ih hu.2 h1]
      intro e
      exact hu.1 (e ▸ List.mem_map.2 ⟨_, h1, rfl⟩)
theorem UniqA.filter {has : List (Int × Int)} (hu : UniqA has) (p : Int × Int → Bool) : UniqA (has.filter p) := hu.sublist (List.filter_sublist.map _)
theorem UniqA.set {has : List (Int × Int)} (hu : UniqA has) (a v : Int) : UniqA (isSet has a v) := by
  by_cases hm : a ∈ has.map (·.1)
  · obtain ⟨pre, u, post, p1, p2, p3, p4⟩ := is_split hm
    rw [p4 v]
    unfold UniqA at hu ⊢
    rw [p1] at hu
    simpa using hu
  · rw [isSet_not hm]
    unfold UniqA at hu ⊢
    rw [List.map_append, List.nodup_append]
    refine ⟨hu, by simp, fun x hx y hy => ?_⟩
    simp at hy
    rintro rfl
    exact hm (hy ▸ hx)

end Go.Proofs.YtbkaemajjaiklaaGreat
