/- An abstract machine: an environment out of lists. Of no program. -/
import Derived.Test.YtdhnacajgmjmlaaEvL
namespace Go.Proofs.Ytdhnacajgmjmlaa.Ev
open Go.RowKit
noncomputable section
set_option linter.unusedVariables false

theorem tiok {P : Program} {t : TypeId} {d : TypeDesc} {size bytes : Nat} {z : AV} (h : P.underlying t = some d) (hi : (P.info? t).map (fun i => (i.zero.bind (aconst 6), i.size, i.bytes)) = some (some z, size, bytes)) : TIOK P t ⟨d, size, bytes, z⟩ := by
  refine ⟨h, ?_⟩
  cases hq : P.info? t with
  | none => rw [hq] at hi; cases hi
  | some i =>
    rw [hq] at hi
    simp only [Option.map_some, Option.some.injEq, Prod.mk.injEq] at hi
    obtain ⟨h1, h2, h3⟩ := hi
    cases hz : i.zero with
    | none => rw [hz] at h1; cases h1
    | some zv =>
      rw [hz] at h1
      exact ⟨i, rfl, h2, h3, zv, hz, fun φ => aconst_vr 6 zv z φ h1⟩
def ofL {α : Type} : List (Nat × α) → Tr α
  | [] => .e
  | p :: l => (ofL l).set p.1 (some p.2)
theorem ofL_mem {α : Type} : ∀ {l : List (Nat × α)} {i : Nat} {x : α}, (ofL l).get i = some x → (i, x) ∈ l
  | [], i, x, h => by cases h
  | p :: l, i, x, h => by
    rw [ofL, Tr.get_set] at h
    split at h
    · rename_i e
      injection h with h
      subst h e
      exact List.mem_cons_self ..
    · exact List.mem_cons_of_mem _ (ofL_mem h)
theorem alln {α : Type} {p : α → Prop} : ∀ x ∈ ([] : List α), p x := fun _ h => by cases h
theorem allc {α : Type} {p : α → Prop} {a : α} {l : List α} (h : p a) (hl : ∀ x ∈ l, p x) : ∀ x ∈ a :: l, p x := fun x hx => by
  rcases List.mem_cons.1 hx with rfl | hx
  · exact h
  · exact hl x hx
structure FnsOK (P : Program) (E : Env) : Prop where
  code : ∀ f fn, E.fn.get f = some fn → (match fn.body with | some c => codeOK c | none => false) = true
theorem envok {P : Program} {tyT : Tr TI} {tyL : List (Nat × TI)} {fnT : Tr Func} {fnL : List (Nat × Func)} (h1 : tyT = ofL tyL) (h2 : ∀ p ∈ tyL, TIOK P p.1 p.2) (h3 : fnT = ofL fnL) (h4 : ∀ p ∈ fnL, FNOK P p.1 p.2) (hm : P.follows .mixedOrders = true) :
    EnvOK P ⟨tyT, fnT⟩ ∧ FnsOK P ⟨tyT, fnT⟩ :=
  ⟨⟨fun t ti h => h2 (t, ti) (ofL_mem (by rw [← h1]; exact h)), fun f fn h => by
    have := h4 (f, fn) (ofL_mem (by rw [← h3]; exact h))
    exact ⟨this.get, this.name, this.body⟩, hm⟩, ⟨fun f fn h => (h4 (f, fn) (ofL_mem (by rw [← h3]; exact h))).code⟩⟩

end
end Go.Proofs.Ytdhnacajgmjmlaa.Ev
