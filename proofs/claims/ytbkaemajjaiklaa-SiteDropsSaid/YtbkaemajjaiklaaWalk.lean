/- A map gone over: what was met so far. -/
import Derived.Maps.RangeRun
import Derived.RangeFuncSeq
import Derived.Test.YtbkaemajjaiklaaChunk
namespace Go.Proofs.Ytbkaemajjaiklaa
open Go.RowKit
set_option linter.unusedVariables false
set_option linter.unusedSimpArgs false

section
variable {α : Type}
/-- what is met of the entries that were seen -/
def gotM (f : MapEntry → Option α) (es : List MapEntry) (seen : Array Nat) : List α := (es.filter fun e => seen.contains e.born).filterMap f
theorem gotM_none (f : MapEntry → Option α) (es : List MapEntry) : gotM f es #[] = [] := by
  unfold gotM
  rw [List.filter_eq_nil_iff.2 (by simp)]; rfl
theorem has_push (seen : Array Nat) (b x : Nat) : (seen.push b).contains x = (seen.contains x || x == b) := by
  rw [Array.contains_push]
theorem gotM_push (f : MapEntry → Option α) {es : List MapEntry} {e : MapEntry} {seen : Array Nat} (hn : (es.map (·.born)).Nodup) (he : e ∈ es) (hs : seen.contains e.born = false) :
    (gotM f es (seen.push e.born)).Perm (gotM f es seen ++ (f e).toList) := by
  obtain ⟨l1, l2, rfl⟩ := List.append_of_mem he
  rw [List.map_append, List.map_cons, List.nodup_append] at hn
  obtain ⟨h1, h2, h3⟩ := hn
  rw [List.nodup_cons] at h2
  have c1 : l1.filter (fun x => (seen.push e.born).contains x.born) = l1.filter (fun x => seen.contains x.born) := by
    refine List.filter_congr fun x hx => ?_
    have : x.born ≠ e.born := h3 _ (List.mem_map.2 ⟨x, hx, rfl⟩) _ (List.mem_cons_self ..)
    rw [has_push]; simp [this]
  have c2 : l2.filter (fun x => (seen.push e.born).contains x.born) = l2.filter (fun x => seen.contains x.born) := by
    refine List.filter_congr fun x hx => ?_
    have : x.born ≠ e.born := fun h => h2.1 (h ▸ List.mem_map.2 ⟨x, hx, rfl⟩)
    rw [has_push]; simp [this]
  have c3 : (seen.push e.born).contains e.born = true := by rw [has_push]; simp
  unfold gotM
  rw [List.filter_append, List.filter_append, List.filter_cons, List.filter_cons, c1, c2]
  simp only [c3, hs, if_true, if_false, Bool.false_eq_true, List.filterMap_append, List.filterMap_cons]
  cases f e with
  | none => simp
  | some v =>
    simp only [Option.toList, List.append_assoc]
    refine List.Perm.append_left _ ?_
    exact (List.perm_append_singleton v _).symm
theorem gotM_all (f : MapEntry → Option α) (es : Array MapEntry) (seen : Array Nat) (h : (leftOf es seen).size = 0) : gotM f es.toList seen = es.toList.filterMap f := by
  unfold gotM
  rw [List.filter_eq_self.2 (all_seen es seen h)]
theorem gotM_len (f : MapEntry → Option α) (es : List MapEntry) (seen : Array Nat) : (gotM f es seen).length ≤ es.length :=
  Nat.le_trans (List.length_filterMap_le ..) (List.length_filter_le ..)
theorem gotM_lt (f : MapEntry → Option α) {es : List MapEntry} {e : MapEntry} {seen : Array Nat} (hn : (es.map (·.born)).Nodup) (he : e ∈ es) (hs : seen.contains e.born = false) (hf : (f e).isSome) : (gotM f es seen).length < es.length := by
  have h1 := (gotM_push f hn he hs).length_eq
  have h2 := gotM_len f es (seen.push e.born)
  rw [List.length_append] at h1
  cases hv : f e with
  | none => rw [hv] at hf; cases hf
  | some v => rw [hv] at h1; simp at h1; omega
end

/-- what lay below N0 stands, but for F; maps, and walks over them, stand all -/
structure KeepM (F : List Nat) (N0 : Nat) (A B : World) : Prop where
  keep : KeepN F N0 A B
  walks : KeepsWalks A B
section
variable {F : List Nat} {N0 : Nat} {A B C : World}
theorem KeepM.refl (F : List Nat) (N0 : Nat) (A : World) : KeepM F N0 A A := ⟨KeepN.refl _ _ _, KeepsWalks.refl _⟩
theorem KeepM.trans (h : KeepM F N0 A B) (k : KeepM F N0 B C) : KeepM F N0 A C := ⟨h.keep.trans k.keep, h.walks.trans k.walks⟩
theorem KeepM.putObj {l : Nat} {o o' : Obj} (hl : A.heap[l]? = some o) (hw : o.isWalk = false) (hN : N0 ≤ l) : KeepM F N0 A (A.putObj l o') := ⟨(KeepN.refl F N0 A).putObj hN o', KeepsWalks.putObj o' hl hw⟩
end
end Go.Proofs.Ytbkaemajjaiklaa
