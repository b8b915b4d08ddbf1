/- An abstract machine: an environment out of lists. Of no program. -/
import Derived.Test.YtdhnacajgmjmlaaEvL
namespace Go.Proofs.Ytdhnacajgmjmlaa.Ev
open Go.RowKit
noncomputable section
set_option linter.unusedVariables false

theorem tiok {P : Program} {t : TypeId} {d : TypeDesc} {size bytes : Nat} {z : AV} (h : P.underlying t = some d) (hi : (P.info? t).map (fun i => (i.zero.bind (aconst 6), i.size, i.bytes)) = some (some z, size, bytes)) : TIOK P t ⟨d, size, bytes, z⟩ := by
  refine ⟨h, ?_⟩
  cases hq : P.info? t with
  | none => rw [hq] at hi; cases hi
  | some i =>
    rw [hq] at hi
    simp only [Option.map_some, Option.some.injEq, Prod.mk.injEq] at hi
    obtain ⟨h1, h2, h3⟩ := hi
    cases hz : i.zero with
    | none => rw [hz] at h1; cases h1
    | some zv =>
      rw [hz] at h1
      exact ⟨i, rfl, h2, h3, zv, hz, fun φ => aconst_vr 6 zv z φ h1⟩
def ofL {α : Type} : List (Nat × α) → Tr α
  | [] => .e
  | p :: l => (ofL l).set p.1 (some p.2)
theorem ofL_mem {α : Type} : ∀ {l : List (Nat × α)} {i : Nat} {x : α}, (ofL l).get i = some x → (i, x) ∈ l
  | [], i, x, h => by cases h
  | p :: l, i, x, h => by
    rw [ofL, Tr.get_set] at h
    split at h
    · rename_i e
      injection h with h
      subst h e
      exact List.mem_cons_self ..
    · exact List.mem_cons_of_mem _ (ofL_mem h)
theorem alln {α : Type} {p : α → Prop} : ∀ x ∈ ([] : List α), p x := fun _ h => by cases h
theorem allc {α : Type} {p : α → Prop} {a : α} {l : List α} (h : p a) (hl : ∀ x ∈ l, p x) : ∀ x ∈ a :: l, p x := fun x hx => by
  rcases List.mem_cons.1 hx with rfl | hx
  · exact h
  · exact hl x hx
structure FnsOK (P : Program) (E : Env) : Prop where
  code : ∀ f fn, E.fn.get f = some fn → (match fn.body with | some c => codeOK c | none => false) = true
/-- a method: the receiver is the value itself, or what it points to -/
theorem methok {P : Program} {t : TypeId} {name : String} {f : Nat} {ptr : Bool} {el : Option Nat} (h : (P.info? t).bind (fun i => (i.methods.find? (·.name == name)).map fun m => (m.path.isEmpty, m.func)) = some (true, some (f, ptr)))
    (hu : (match P.underlying t, ptr, el with | some (.pointer _), true, none => true | some (.pointer e), false, some e' => Nat.beq e e' | some (.pointer _), _, _ => false | some _, false, none => true | _, _, _ => false) = true) : MethOK P t (name, f, el) := by
  have hsz : ∃ n, P.types.size + Made.depth = n + 1 := ⟨P.types.size + Made.depth - 1, by
    have : 0 < Made.depth := by decide
    omega⟩
  obtain ⟨n, hn⟩ := hsz
  cases hi : P.info? t with
  | none => rw [hi] at h; cases h
  | some i =>
    rw [hi] at h
    simp only [Option.bind_some] at h
    cases hm : i.methods.find? (·.name == name) with
    | none => rw [hm] at h; cases h
    | some m =>
      rw [hm] at h
      simp only [Option.map_some, Option.some.injEq, Prod.mk.injEq] at h
      obtain ⟨h1, h2⟩ := h
      have hp : m.path = #[] := by simpa using h1
      have hti : ∀ w, (typeInfo t).run P w = .ok i w := fun w => by simp [typeInfo, program, Sem.run, hi]
      cases hun : P.underlying t with
      | none => rw [hun] at hu; cases hu
      | some d =>
        rw [hun] at hu
        have hund := fun w => run_underlying hun w
        cases el with
        | none =>
          intro v w
          show (method (P.types.size + Made.depth) t v name).run P w = .ok (f, v) w
          rw [hn]
          unfold method
          simp only [Sem.run_bind, hti, Result.andThen_ok, hm, hp, h2, Sem.run_pure, follow]
          cases d <;> cases ptr <;> first | (cases hu; done) | skip
          all_goals simp [receiverAt, hund, Place.get]
        | some el =>
          intro a v w hl
          show (method (P.types.size + Made.depth) t (.pointer (some a)) name).run P w = .ok (f, v) w
          rw [hn]
          unfold method
          simp only [Sem.run_bind, hti, Result.andThen_ok, hm, hp, h2, Sem.run_pure, follow]
          cases d <;> cases ptr <;> first | (cases hu; done) | skip
          have he := Nat.eq_of_beq_eq_true hu
          subst he
          have hw : ∀ s : String, Builtin.ssaWrapNilChk_ #[t] t #[.pointer (some a), strVal "", strVal s] = pure (.pointer (some a)) := fun s => rfl
          simp only [receiverAt, hund, Place.get, hw, Sem.run_bind, Sem.run_pure, Result.andThen_ok]
          have ha : ∀ w, (asAddr (.pointer (some a))).run P w = .ok a w := fun w => rfl
          simp [ha, hl]
theorem implok {P : Program} {a t : TypeId} {want : Array (String × TypeId)} {b : Bool} (h : P.underlying a = some (.interface want)) (hi : (P.info? t).map (fun i => (Instr.missingMethod want i.methods).isNone) = some b) : ∃ want i, P.underlying a = some (.interface want) ∧ P.info? t = some i ∧ (Instr.missingMethod want i.methods).isNone = b := by
  cases hq : P.info? t with
  | none => rw [hq] at hi; cases hi
  | some i => rw [hq] at hi; injection hi with hi; exact ⟨want, i, h, rfl, hi⟩
structure EXTOK (P : Program) (f : Nat) : Prop where
  ex : ∃ fn, P.funcs[f]? = some fn ∧ (fn.name == "runtime.NumGoroutine") = false ∧ fn.body = none ∧ Extern.findNext fn = none ∧ Extern.find fn = some Extern.MapsClone.clone
theorem plainok {P : Program} {t : Nat} {d : TypeDesc} (h1 : P.stoodInHeld t = false) (h2 : P.eqGuardType P.depth t = false) (h3 : P.underlying t = some d) (h4 : (match d with | .struct fs => fs.toList.all fun f => !(f.name == "_") | _ => true) = true) : PlainOK P t := by
  refine ⟨h1, h2, fun fs hfs f hf => ?_⟩
  rw [h3] at hfs
  injection hfs with hfs; subst hfs
  have := List.all_eq_true.1 h4 f (by simpa using hf)
  simpa using this
theorem envok {P : Program} {tyT : Tr TI} {tyL : List (Nat × TI)} {fnT : Tr Func} {fnL : List (Nat × Func)} {mT : Tr (List (String × Nat × Option Nat))} {mL : List (Nat × List (String × Nat × Option Nat))} {iT : Tr (List (Nat × Bool))} {iL : List (Nat × List (Nat × Bool))} {eT : Tr Nat} {eL : List (Nat × Nat)} {pT : Tr Unit} {pL : List (Nat × Unit)}
    (h1 : tyT = ofL tyL) (h2 : ∀ p ∈ tyL, TIOK P p.1 p.2) (h3 : fnT = ofL fnL) (h4 : ∀ p ∈ fnL, FNOK P p.1 p.2) (hm : P.follows .mixedOrders = true)
    (m1 : mT = ofL mL) (m2 : ∀ q ∈ mL, ∀ p ∈ q.2, MethOK P q.1 p)
    (i1 : iT = ofL iL) (i2 : ∀ q ∈ iL, ∀ p ∈ q.2, ∃ want i, P.underlying q.1 = some (.interface want) ∧ P.info? p.1 = some i ∧ (Instr.missingMethod want i.methods).isNone = p.2)
    (e1 : eT = ofL eL) (e2 : ∀ q ∈ eL, q.2 = 1 ∧ EXTOK P q.1)
    (p1 : pT = ofL pL) (p2 : ∀ q ∈ pL, PlainOK P q.1)
    {kT : Tr Unit} {kL : List (Nat × Unit)} (q1 : kT = ofL kL) (q2 : ∀ q ∈ kL, ∀ w, Calls P q.1 #[] w fun e w' => e = .returned (.bool true) ∧ Below w.heap.size w w') :
    EnvOK P ⟨tyT, fnT, mT, iT, eT, pT, kT⟩ ∧ FnsOK P ⟨tyT, fnT, mT, iT, eT, pT, kT⟩ :=
  ⟨⟨fun t ti h => h2 (t, ti) (ofL_mem (by rw [← h1]; exact h)), fun f fn h => by
    have := h4 (f, fn) (ofL_mem (by rw [← h3]; exact h))
    exact ⟨this.get, this.name, this.body⟩, hm, fun t l h => m2 (t, l) (ofL_mem (by rw [← m1]; exact h)), fun t l h => i2 (t, l) (ofL_mem (by rw [← i1]; exact h)), fun f n h => by
    have := e2 (f, n) (ofL_mem (by rw [← e1]; exact h))
    exact ⟨this.1, this.2.ex⟩, fun t u h => p2 (t, u) (ofL_mem (by rw [← p1]; exact h)), fun f u h => q2 (f, u) (ofL_mem (by rw [← q1]; exact h))⟩, ⟨fun f fn h => (h4 (f, fn) (ofL_mem (by rw [← h3]; exact h))).code⟩⟩

end
end Go.Proofs.Ytdhnacajgmjmlaa.Ev
