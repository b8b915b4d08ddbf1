/- An abstract machine, part 10b: copy, maps gone through and turned, assertions, methods. Of no program. -/
import Derived.Test.YtdhnacajgmjmlaaEvJ
namespace Go.Proofs.Ytdhnacajgmjmlaa.Ev
open Go.RowKit
noncomputable section
set_option linter.unusedVariables false
set_option linter.unusedSimpArgs false

section
variable {P : Program} {E : Env} {w0 w : World} {φ : Phi} {h : H} {tm : Tr AV} {ρ : Operand → Value} {o : Oper} {v : AV}

/-! ### assertions (they only look) -/
def implOf (l : List (Nat × Bool)) (t : Nat) : Option Bool := match l with
  | [] => none
  | p :: l => ifB (Nat.beq p.1 t) (some p.2) (implOf l t)
theorem implOf_mem : ∀ {l : List (Nat × Bool)} {t : Nat} {b : Bool}, implOf l t = some b → (t, b) ∈ l
  | [], t, b, h => by cases h
  | p :: l, t, b, h => by
    have h' : ifB (Nat.beq p.1 t) (some p.2) (implOf l t) = some b := h
    rw [ifB_eq] at h'
    split at h'
    · rename_i e
      injection h' with h'
      have := Nat.eq_of_beq_eq_true e
      subst this h'
      exact List.mem_cons_self ..
    · exact List.mem_cons_of_mem _ (implOf_mem h')
def holdsA (ok : Bool) (v : AV) : AV := ifB ok (.tup [v, .bool true]) v
def failsA (ok : Bool) (z : AV) : Option AV := ifB ok (some (.tup [z, .bool false])) none
def vassert (E : Env) (tm : Tr AV) (x : Operand) (asserted : TypeId) (ok : Bool) : Option AV := opt (E.ty.get asserted) fun ti => opt (aev tm x) fun a => match a with
  | .niliface => failsA ok ti.zero
  | .iface t v => (match ti.und with
    | .interface _ => opt (E.impl.get asserted) fun l => opt (implOf l t) fun b => ifB b (some (holdsA ok (.iface t v))) (failsA ok ti.zero)
    | _ => ifB (Nat.beq t asserted) (some (holdsA ok v)) (failsA ok ti.zero))
  | _ => none
theorem vassert_sound (hE : EnvOK P E) {x : Operand} {xt asserted : TypeId} {ok : Bool} (ho : Ops φ tm ρ o.op.operands.toList) (hop : o.op = .typeAssert x xt asserted ok) (hv : vassert E tm x asserted ok = some v) : VS P w φ ρ o v := by
  obtain ⟨ti, h1, h2⟩ := opt_some hv
  obtain ⟨a, h3, h4⟩ := opt_some h2
  have hx := ho.at (x := x) (by simp [hop, Op.operands]) h3
  have hti := hE.ty _ _ h1
  have hun := hti.run_und w
  obtain ⟨z, z1, z2⟩ := hti.run_zero
  have fails : ∀ {u : AV}, failsA ok ti.zero = some u → ok = true ∧ u = .tup [ti.zero, .bool false] := by
    intro u hu
    unfold failsA at hu
    obtain ⟨e1, e2⟩ := ifB_some hu
    injection e2 with e2
    exact ⟨e1, e2.symm⟩
  have vf : vr φ (.tup [ti.zero, .bool false]) (.tuple #[z, .bool false]) := ⟨_, rfl, _, _, rfl, z2 φ, _, _, rfl, rfl, rfl⟩
  have vh : ∀ {u : AV} {u' : Value}, vr φ u u' → vr φ (holdsA ok u) (if ok = true then .tuple #[u', .bool true] else u') := by
    intro u u' hu
    unfold holdsA
    cases ok
    · exact hu
    · exact ⟨_, rfl, _, _, rfl, hu, _, _, rfl, rfl, rfl⟩
  cases a <;> first | (cases h4; done) | skip
  · rename_i t u
    obtain ⟨u', hx, hu⟩ := hx
    by_cases hint : ∃ ms, ti.und = .interface ms
    · obtain ⟨ms, hms⟩ := hint
      simp only [hms] at h4 hun
      obtain ⟨l, h5, h6⟩ := opt_some h4
      obtain ⟨b, h7, h8⟩ := opt_some h6
      obtain ⟨want, i, k1, k2, k3⟩ := hE.impl _ _ h5 _ (implOf_mem h7)
      have hw : want = ms := by
        have := hti.und
        rw [k1, hms] at this
        injection this with this
        injection this
      subst hw
      have hinfo : (typeInfo t).run P w = .ok i w := by simp [typeInfo, program, Sem.run, k2]
      cases b with
      | true =>
        injection h8 with h8; subst h8
        have hm : Instr.missingMethod want i.methods = none := by simpa using k3
        refine ⟨_, ?_, vh ⟨u', rfl, hu⟩⟩
        simp [execOp, hop, Instr.typeAssert, hun, hx, hinfo, hm]
      | false =>
        obtain ⟨e1, e2⟩ := fails (show failsA ok ti.zero = some v from h8)
        subst e1 e2
        cases hm : Instr.missingMethod want i.methods with
        | none => simp only at k3; rw [hm] at k3; cases k3
        | some m => exact ⟨.tuple #[z, .bool false], by simp [execOp, hop, Instr.typeAssert, hun, hx, hinfo, hm, z1], vf⟩
    · have h4' : ifB (Nat.beq t asserted) (some (holdsA ok u)) (failsA ok ti.zero) = some v := by
        cases hu2 : ti.und <;> rw [hu2] at h4 <;> first | exact h4 | exact absurd ⟨_, hu2⟩ hint
      rw [ifB_eq] at h4'
      split at h4'
      · rename_i e
        have e := Nat.eq_of_beq_eq_true e
        injection h4' with h4'; subst h4' e
        refine ⟨_, ?_, vh hu⟩
        cases hu2 : ti.und <;> rw [hu2] at hun <;> first | (simp [execOp, hop, Instr.typeAssert, hun, hx]; done) | exact absurd ⟨_, hu2⟩ hint
      · rename_i e
        have e : t ≠ asserted := fun hc => e (by rw [hc]; exact Nat.beq_refl _)
        obtain ⟨e1, e2⟩ := fails h4'
        subst e1 e2
        refine ⟨.tuple #[z, .bool false], ?_, vf⟩
        cases hu2 : ti.und <;> rw [hu2] at hun <;> first | (simp [execOp, hop, Instr.typeAssert, hun, hx, e, z1]; done) | exact absurd ⟨_, hu2⟩ hint
  · obtain ⟨e1, e2⟩ := fails (show failsA ok ti.zero = some v from h4)
    subst e1 e2
    have hx : ρ x = .nilIface := hx
    refine ⟨.tuple #[z, .bool false], ?_, vf⟩
    cases hu2 : ti.und <;> rw [hu2] at hun <;> simp [execOp, hop, Instr.typeAssert, hun, hx, z1]

/-! ### methods, functions of Go's library -/
def methOf (l : List (String × Nat × Option Nat)) (n : String) : Option (Nat × Option Nat) := match l with
  | [] => none
  | p :: l => ifB (decide (p.1 = n)) (some p.2) (methOf l n)
theorem methOf_mem : ∀ {l : List (String × Nat × Option Nat)} {n : String} {f : Nat × Option Nat}, methOf l n = some f → (n, f) ∈ l
  | [], n, f, h => by cases h
  | p :: l, n, f, h => by
    have h' : ifB (decide (p.1 = n)) (some p.2) (methOf l n) = some f := h
    rw [ifB_eq] at h'
    split at h'
    · rename_i e
      injection h' with h'
      have := of_decide_eq_true e
      subst this h'
      exact List.mem_cons_self ..
    · exact List.mem_cons_of_mem _ (methOf_mem h')
def recvA (E : Env) (h : H) (v : AV) (e : Option Nat) : Option AV := match e with
  | none => some v
  | some e => opt (E.ty.get e) fun ti => match v with
    | .ptr b o => loadAt ti h b o
    | _ => none
def hinvoke (E : Env) (tm : Tr AV) (h : H) (recv : Operand) (name : String) (args : Array Operand) : Option R1 := opt (aev tm recv) fun r => opt (optMap (aev tm) args.toList) fun as => match r with
  | .iface t v => opt (E.meth.get t) fun l => opt (methOf l name) fun f => opt (E.fn.get f.1) fun _ => opt (recvA E h v f.2) fun v => some (.enter f.1 (v :: as))
  | _ => none
theorem hinvoke_sound (hE : EnvOK P E) (hr : HR w0 φ h w) {recv : Operand} {name : String} {c : Call} {r : R1} (ho : Ops φ tm ρ o.op.operands.toList) (hop : o.op = .call c) (hc : c.callee = .invoke recv name) (hv : hinvoke E tm h recv name c.args = some r) : RS P w0 w φ h ρ o r := by
  obtain ⟨callee, args, tys⟩ := c
  have hc : callee = .invoke recv name := hc
  subst hc
  obtain ⟨rv, h1, h2⟩ := opt_some hv
  obtain ⟨as, h3, h4⟩ := opt_some h2
  have hr0 := ho recv (by rw [hop]; simp [Op.operands, Call.operands]) _ h1
  have hargs := ho.list (ys := args.toList) (fun y hy => by rw [hop]; simp [Op.operands, Call.operands]; right; simpa using hy) h3
  cases rv <;> first | (cases h4; done) | skip
  rename_i t v
  obtain ⟨l, h5, h6⟩ := opt_some h4
  obtain ⟨f, h7, h8⟩ := opt_some h6
  obtain ⟨fn, h9, h10⟩ := opt_some h8
  obtain ⟨v1, h11, h12⟩ := opt_some h10
  injection h12 with h12; subst h12
  obtain ⟨v', hr0, hvv⟩ := hr0
  obtain ⟨v1', hm, hv1⟩ : ∃ v1', (method (P.types.size + Made.depth) t v' name).run P w = .ok (f.1, v1') w ∧ vr φ v1 v1' := by
    have hm := hE.meth _ _ h5 _ (methOf_mem h7)
    obtain ⟨f, e⟩ := f
    cases e with
    | none =>
      injection h11 with h11; subst h11
      exact ⟨v', hm v' w, hvv⟩
    | some e =>
      obtain ⟨ti, g1, g2⟩ := opt_some h11
      cases v <;> first | (cases g2; done) | skip
      rename_i b o
      obtain ⟨k, sz, hb, hvv⟩ := hvv
      subst hvv
      obtain ⟨u, g3, g4⟩ := loadAt_sound (P := P) (hE.ty _ _ g1) hr hb g2
      exact ⟨u, hm _ _ _ g3, g4⟩
  obtain ⟨k1, k2, k3⟩ := hE.fn _ _ h9
  have k2' : fn.name ≠ "runtime.NumGoroutine" := by simpa using k2
  have k3' : fn.body ≠ none := by intro hn; rw [hn] at k3; cases k3
  refine ⟨#[v1'] ++ args.map ρ, ?_, ?_⟩
  · have hprog : ∀ w, (program).run P w = .ok P w := fun w => rfl
    have hcf : (callFunc f.1 (#[v1'] ++ args.map ρ)).run P w = .ok (.enter f.1 (#[v1'] ++ args.map ρ)) w := by
      unfold callFunc
      simp only [Sem.run_bind, hprog, Result.andThen_ok, k1]
      simp [k2', k3']
    have hcm : (callMethod (.iface t v') name (args.map ρ)).run P w = .ok (.enter f.1 (#[v1'] ++ args.map ρ)) w := by
      unfold callMethod
      simp only [Sem.run_bind, hprog, Result.andThen_ok, hm]
      exact hcf
    have hinv : invoke (.fn (.method name) #[]) (#[ρ recv] ++ args.map ρ) = callMethod (ρ recv) name (args.map ρ) := by
      have h0 : (#[ρ recv] ++ args.map ρ)[0]? = some (ρ recv) := by rw [Array.getElem?_append_left (by simp)]; rfl
      unfold invoke
      simp only [h0]
      congr 1
      simp
    have hex : execOp ρ o = invoke (.fn (.method name) #[]) (#[ρ recv] ++ args.map ρ) := by
      simp only [execOp, hop, resolve]
      rfl
    rw [hex, hinv, hr0]
    exact hcm
  · simp only [Array.toList_append, Array.toList_map]
    exact ⟨_, _, rfl, hv1, hargs⟩
def hext (E : Env) (tm : Tr AV) (h : H) (f : Operand) (args : Array Operand) : Option R1 := match f with
  | .func g => opt (E.ext.get g) fun _ => opt (optMap (aev tm) args.toList) fun as => match as with
    | [a] => (match a with
      | .iface t m => (match m with
        | .map b => opt (blk h b) fun ob => (match ob with
          | .map es clock => addB h (.map es clock) fun id h' => some (.val (.iface t (.map id)) h')
          | _ => none)
        | _ => none)
      | _ => none)
    | _ => none
  | _ => none
theorem hext_sound (hE : EnvOK P E) (hr : HR w0 φ h w) {f : Operand} {c : Call} {r : R1} (ho : Ops φ tm ρ o.op.operands.toList) (hev : ∀ g, ρ (.func g) = .func (.func g) #[] #[]) (hop : o.op = .call c) (hc : c.callee = .value f) (hv : hext E tm h f c.args = some r) : RS P w0 w φ h ρ o r := by
  obtain ⟨callee, args, tys⟩ := c
  have hc : callee = .value f := hc
  subst hc
  unfold hext at hv
  cases f <;> first | (cases hv; done) | skip
  rename_i g
  obtain ⟨n, h1, h2⟩ := opt_some hv
  obtain ⟨as, h3, h4⟩ := opt_some h2
  have hargs := ho.list (ys := args.toList) (fun y hy => by rw [hop]; simp [Op.operands, Call.operands]; right; simpa using hy) h3
  rcases as with _ | ⟨a, _ | ⟨a2, as⟩⟩ <;> first | (cases h4; done) | skip
  cases a <;> first | (cases h4; done) | skip
  rename_i t m
  cases m <;> first | (cases h4; done) | skip
  rename_i b
  obtain ⟨ob, h5, h6⟩ := opt_some h4
  cases ob <;> first | (cases h6; done) | skip
  rename_i es clock
  simp only [addB_eq] at h6
  injection h6 with h6; subst h6
  obtain ⟨_, fn, k1, k2, k3, k4, k5⟩ := hE.ext _ _ h1
  obtain ⟨u, us, e1, ⟨m', e2, k, sz, hb, e3⟩, e4⟩ := hargs
  have e4 : us = [] := e4
  subst e2 e3 e4
  have hargs' : args.map ρ = #[.iface t (.map (some k))] := by
    rw [← Array.toArray_toList (xs := args.map ρ), Array.toList_map, e1]
  obtain ⟨o', hk, es', ho', hm⟩ := hr.obj _ _ k sz h5 hb
  subst ho'
  have k2' : fn.name ≠ "runtime.NumGoroutine" := by simpa using k2
  have hadd := hr.add (o := .map es clock) (o' := .map es' clock) (sz := 0) ⟨es', rfl, mrel_mono (hr.sub _ _) _ _ hm⟩
  refine ⟨.value (.iface t (.map (some w.heap.size))), _, _, _, ?_, rfl, ⟨_, rfl, w.heap.size, 0, Phi.more_same _ _ _ _, rfl⟩, hadd.1, hadd.2⟩
  simp [execOp, hop, resolve, hev, Deferred.ofValue, invoke, hargs', callFunc, program, Sem.run, k1, k2', k3, mark, k4, k5]
  have e : Extern.MapsClone.clone #[.iface t (.map (some k))] = (getObj k >>= fun x => match x with | .map entries clock => (do pure (.iface t (.map (some (← newObj (.map entries clock)))))) | _ => stuck "maps.clone: a map expected") := rfl
  rw [e]
  simp [getObj, Sem.run, hk, newObj]
end

end
end Go.Proofs.Ytdhnacajgmjmlaa.Ev
