/- An abstract machine, part 12: how its states stand to the model's machine; the operations and calls. Of no program. -/
import Derived.Test.YtdhnacajgmjmlaaEvK
namespace Go.Proofs.Ytdhnacajgmjmlaa.Ev
open Go.RowKit
noncomputable section
set_option linter.unusedVariables false
set_option linter.unusedSimpArgs false

structure FNOK (P : Program) (f : Nat) (fn : Func) : Prop where
  get : P.funcs[f]? = some fn
  name : (fn.name == "runtime.NumGoroutine") = false
  body : fn.body.isSome = true
  code : (match fn.body with | some c => codeOK c | none => false) = true

/-! ### the relation -/
def pendOK (E : Env) (φ : Phi) (h : H) (all : Array Oper) (tm : Tr AV) (lo hi : Nat) (cl : Nat → Bool) : PE → Prop
  | .val _ => True
  | .mem i vals id => cl i = false → φ id = none ∧ lo ≤ id ∧ id < hi ∧ ∃ o O mk, all[i]? = some o ∧ mop E o.op vals = some (O, mk) ∧ h.t.get id = some O ∧ (∀ d, o.dst = some d → cellAt tm .undef d = mk id)
def Ready (all : Array Oper) (cl : Nat → Bool) (i : Nat) : Prop := ∃ o, all[i]? = some o ∧ cl i = false ∧ ∀ e ∈ o.after.toList, bindsA e = true → cl e.on = true
def upd (cl : Nat → Bool) (i : Nat) : Nat → Bool := fun x => if x = i then true else cl x
def Sched (all : Array Oper) : (Nat → Bool) → List Nat → Prop
  | cl, [] => ∀ i, ¬ Ready all cl i
  | cl, i :: r => Ready all cl i ∧ Sched all (upd cl i) r
def ids : List PE → List Nat
  | [] => []
  | .val _ :: ps => ids ps
  | .mem _ _ id :: ps => id :: ids ps
/-- a drawn region, of which cl is done -/
structure DI (E : Env) (φ : Phi) (h : H) (lo hi : Nat) (all : Array Oper) (lst : Nat) (pend : List PE) (tm : Tr AV) (ctm : Array Value) (cl : Nat → Bool) : Prop where
  ok : regOK all = true
  d1 : ∀ i, cl i = true → tb lst i = true
  d2 : ∀ i, tb lst i = true → cl i = true ∨ i ∈ pend.map PE.i
  d3 : ∀ i o, all[i]? = some o → cl i = true → ∀ e ∈ o.after.toList, bindsA e = true → cl e.on = true
  d4 : ∀ i o, all[i]? = some o → tb lst i = true → ∀ e ∈ o.after.toList, bindsA e = true → tb lst e.on = true
  d6 : ∀ t, vr φ (cellAt tm .undef t) (ctm.getD t Go.undef) ∨ ∃ i, i ∈ pend.map PE.i ∧ cl i = false ∧ dstS all i = some t
  d7 : ∀ p ∈ pend, pendOK E φ h all tm lo hi cl p
  d8 : (ids pend).Pairwise (· ≠ ·)
  d10 : ∀ i, tb lst i = true → i < all.size
  d11 : ∀ p ∈ pend, tb lst p.i = true
  d12 : ∀ id ∈ ids pend, id < hi
  d13 : ∀ i d, tb lst i = true → dstS all i = some d → d < ctm.size
  d14 : ∀ p ∈ pend, ∀ oi, all[p.i]? = some oi → antiA all oi = false
def lrel (φ : Phi) (l : Nat) (l' : Nat) : Prop := ∃ sz, φ l = some (l', sz)
def irel (φ : Phi) : AI → Item → Prop
  | .code c, i => i = .code c ∧ codeOK c = true
  | .inBlock id, i => i = .inBlock id
  | .inLoop c, i => i = .inLoop c ∧ codeOK c = true
  | .inScope c, i => i = .inScope c ∧ codeOK c = true
  | .ops all rest, i => ∃ idx, i = .inRegion all idx ∧ idx.map (all[·]?) = rest.map some
  | .draw .., _ => False
  | .inRange l, i => ∃ l', lrel φ l l' ∧ i = .inRangeFunc l'
  | .endRange l, i => ∃ l', lrel φ l l' ∧ i = .endRangeFunc l'
  | .begin, i => i = .beginRound
def irels (φ : Phi) : List AI → List Item → Prop
  | [], l => l = []
  | a :: as, l => ∃ i is, l = i :: is ∧ irel φ a i ∧ irels φ as is
def drel (φ : Phi) : AD → Deferred → Prop
  | .mark b, d => ∃ k, lrel φ b k ∧ d = { target := .collected k, args := #[] }
  | .call g args, d => ∃ args' ca', d = { target := .fn (.func g) ca', args := args' } ∧ vrs φ args (args' ++ ca').toList
def drels (φ : Phi) : List AD → List Deferred → Prop
  | [], l => l = []
  | b :: bs, l => ∃ d l', l = d :: l' ∧ drel φ b d ∧ drels φ bs l'
def modeR (φ : Phi) : AM → FrameMode → Prop
  | .run, m => m = .run
  | .ret, m => m = .returning
  | .pan v r, m => ∃ v', m = .panicking [{ v := v', recovered := r }] ∧ vr φ v v'
def rndR (φ : Phi) : AK → CallKind → Option Nat → Prop
  | .norm, k, r => k = .normal ∧ r = none
  | .round l, k, r => k = .normal ∧ ∃ l', lrel φ l l' ∧ r = some l'
  | .dfr, k, r => k = .deferred ∧ r = none
/-- the slots and what is to do -/
inductive TB (E : Env) (φ : Phi) (h : H) (lo hi : Nat) (tm : Tr AV) (ctm : Array Value) : List AI → List Item → Prop where
  | plain {todo : List AI} {todo' : List Item} : irels φ todo todo' → trel φ tm ctm → TB E φ h lo hi tm ctm todo todo'
  | draw {all : Array Oper} {lst : Nat} {pend : List PE} {k : List AI} {k' : List Item} {rest : List Nat} {cl : Nat → Bool} : irels φ k k' → DI E φ h lo hi all lst pend tm ctm cl → Sched all cl rest → TB E φ h lo hi tm ctm (.draw all lst pend none :: k) (.inRegion all rest :: k')
  | wait {all : Array Oper} {lst j : Nat} {pend : List PE} {k : List AI} {k' : List Item} {rest : List Nat} {cl : Nat → Bool} : irels φ k k' → DI E φ h lo hi all lst pend tm ctm cl → Ready all cl j → tb lst j = false → Sched all (upd cl j) rest →
      (∀ e ∈ (all.getD j default).after.toList, bindsA e = true → tb lst e.on = true) → TB E φ h lo hi tm ctm (.draw all lst pend (some j) :: k) (.inRegion all (j :: rest) :: k')
structure FR (E : Env) (φ : Phi) (h : H) (hi : Nat) (a : AF) (f : Frame) : Prop where
  fn : f.fn = a.fn
  nt : f.tmps.size = a.nt
  mode : modeR φ a.ret f.mode
  defs : drels φ a.defs f.defers
  rnd : rndR φ a.rnd f.kind f.roundOf
  tb : TB E φ h a.base hi a.tmps f.tmps a.todo f.todo
/-- the callers: each waits; the names that its region waits for lie below the next one's base -/
def FRs (E : Env) (φ : Phi) (h : H) : Nat → List AF → List Frame → Prop
  | _, [], l => l = []
  | hi, a :: as, l => ∃ f fs, l = f :: fs ∧ FR E φ h hi a f ∧ a.base ≤ hi ∧ FRs E φ h a.base as fs
def Rel (E : Env) (w0 : World) (cs0 : List Frame) (s : S) (m : Machine) : Prop :=
  ∃ (φ : Phi) (f : Frame) (fs : List Frame) (w : World), m = lone f (fs ++ cs0) w ∧ HR w0 φ s.h w ∧ FR E φ s.h s.h.next s.f f ∧ s.f.base ≤ s.h.next ∧ FRs E φ s.h s.f.base s.cs fs

section
variable {P : Program} {E : Env} {w0 w : World} {φ φ' : Phi} {h h' : H} {tm : Tr AV} {ctm : Array Value}

/-! ### what goes on holding -/
/-- below n what is not there yet is let alone -/
structure ExtB (n : Nat) (φ : Phi) (h : H) (φ' : Phi) (h' : H) : Prop where
  sub : Sub φ φ'
  next : h.next ≤ h'.next
  far : ∀ b, b < n → φ b = none → φ' b = none ∧ h'.t.get b = h.t.get b
theorem Ext.b (e : Ext φ h φ' h') {n : Nat} (hn : n ≤ h.next) : ExtB n φ h φ' h' := ⟨e.sub, e.next, fun b hb => e.far b (by omega)⟩
theorem ExtB.refl (n : Nat) (φ : Phi) (h : H) : ExtB n φ h φ h := ⟨Sub.refl _, Nat.le_refl _, fun _ _ h => ⟨h, rfl⟩⟩
theorem ExtB.mono {n m : Nat} (e : ExtB n φ h φ' h') (hm : m ≤ n) : ExtB m φ h φ' h' := ⟨e.sub, e.next, fun b hb => e.far b (by omega)⟩
theorem ExtB.trans {n : Nat} {φ'' : Phi} {h'' : H} (a : ExtB n φ h φ' h') (b : ExtB n φ' h' φ'' h'') : ExtB n φ h φ'' h'' :=
  ⟨a.sub.trans b.sub, Nat.le_trans a.next b.next, fun x hx hn => by
    obtain ⟨h1, h2⟩ := a.far x hx hn
    obtain ⟨h3, h4⟩ := b.far x hx h1
    exact ⟨h3, h4.trans h2⟩⟩
theorem lrel_mono (hs : Sub φ φ') {l l' : Nat} (h : lrel φ l l') : lrel φ' l l' := by obtain ⟨sz, h⟩ := h; exact ⟨sz, hs _ _ h⟩
theorem irel_mono (hs : Sub φ φ') : ∀ (a : AI) (i : Item), irel φ a i → irel φ' a i
  | .code c, i, h => h
  | .inBlock id, i, h => h
  | .inLoop c, i, h => h
  | .inScope c, i, h => h
  | .ops all rest, i, h => h
  | .draw .., i, h => h.elim
  | .inRange l, i, h => by obtain ⟨l', h1, h2⟩ := h; exact ⟨l', lrel_mono hs h1, h2⟩
  | .endRange l, i, h => by obtain ⟨l', h1, h2⟩ := h; exact ⟨l', lrel_mono hs h1, h2⟩
  | .begin, i, h => h
theorem irels_mono (hs : Sub φ φ') : ∀ (as : List AI) (is : List Item), irels φ as is → irels φ' as is
  | [], is, h => h
  | a :: as, is, h => by obtain ⟨i, is', h1, h2, h3⟩ := h; exact ⟨i, is', h1, irel_mono hs _ _ h2, irels_mono hs _ _ h3⟩
theorem drel_mono (hs : Sub φ φ') : ∀ (a : AD) (d : Deferred), drel φ a d → drel φ' a d
  | .mark b, d, h => by obtain ⟨k, h1, h2⟩ := h; exact ⟨k, lrel_mono hs h1, h2⟩
  | .call g args, d, h => by obtain ⟨k, k2, h1, h2⟩ := h; exact ⟨k, k2, h1, vrs_mono hs _ _ h2⟩
theorem drels_mono (hs : Sub φ φ') : ∀ (as : List AD) (is : List Deferred), drels φ as is → drels φ' as is
  | [], is, h => h
  | a :: as, is, h => by obtain ⟨i, is', h1, h2, h3⟩ := h; exact ⟨i, is', h1, drel_mono hs _ _ h2, drels_mono hs _ _ h3⟩
theorem modeR_mono (hs : Sub φ φ') : ∀ (a : AM) (m : FrameMode), modeR φ a m → modeR φ' a m
  | .run, m, h => h
  | .ret, m, h => h
  | .pan v r, m, h => by obtain ⟨k, h1, h2⟩ := h; exact ⟨k, h1, vr_mono hs _ _ h2⟩
theorem rndR_mono (hs : Sub φ φ') : ∀ (a : AK) (k : CallKind) (r : Option Nat), rndR φ a k r → rndR φ' a k r
  | .norm, k, r, h => h
  | .round l, k, r, h => by obtain ⟨h0, l', h1, h2⟩ := h; exact ⟨h0, l', lrel_mono hs h1, h2⟩
  | .dfr, k, r, h => h
theorem pendOK_mono {all : Array Oper} {lo hi hi' : Nat} {cl : Nat → Bool} (he : ExtB hi φ h φ' h') (hh : hi ≤ hi') : ∀ p, pendOK E φ h all tm lo hi cl p → pendOK E φ' h' all tm lo hi' cl p
  | .val _, _ => trivial
  | .mem i vals id, hp => fun hc => by
    obtain ⟨h1, h2, h3, o, O, mk, h4, h5, h6, h7⟩ := hp hc
    obtain ⟨g1, g2⟩ := he.far id h3 h1
    exact ⟨g1, h2, by omega, o, O, mk, h4, h5, g2.trans h6, h7⟩
theorem DI_mono {all : Array Oper} {lst : Nat} {pend : List PE} {lo hi hi' : Nat} {cl : Nat → Bool} (he : ExtB hi φ h φ' h') (hh : hi ≤ hi') (d : DI E φ h lo hi all lst pend tm ctm cl) : DI E φ' h' lo hi' all lst pend tm ctm cl :=
  ⟨d.ok, d.d1, d.d2, d.d3, d.d4, fun t => (d.d6 t).imp (vr_mono he.sub _ _) id, fun p hp => pendOK_mono he hh p (d.d7 p hp), d.d8, d.d10, d.d11, fun id hid => Nat.lt_of_lt_of_le (d.d12 id hid) hh, d.d13, d.d14⟩
theorem TB_mono {lo hi hi' : Nat} {todo : List AI} {todo' : List Item} (he : ExtB hi φ h φ' h') (hh : hi ≤ hi') (t : TB E φ h lo hi tm ctm todo todo') : TB E φ' h' lo hi' tm ctm todo todo' := by
  cases t with
  | plain h1 h2 => exact .plain (irels_mono he.sub _ _ h1) (trel_mono he.sub h2)
  | draw h1 h2 h3 => exact .draw (irels_mono he.sub _ _ h1) (DI_mono he hh h2) h3
  | wait h1 h2 h3 h4 h5 h6 => exact .wait (irels_mono he.sub _ _ h1) (DI_mono he hh h2) h3 h4 h5 h6
theorem FR_mono {hi hi' : Nat} {a : AF} {f : Frame} (he : ExtB hi φ h φ' h') (hh : hi ≤ hi') (r : FR E φ h hi a f) : FR E φ' h' hi' a f :=
  ⟨r.fn, r.nt, modeR_mono he.sub _ _ r.mode, drels_mono he.sub _ _ r.defs, rndR_mono he.sub _ _ _ r.rnd, TB_mono he hh r.tb⟩
theorem FRs_mono : ∀ {hi : Nat} {as : List AF} {fs : List Frame}, ExtB hi φ h φ' h' → FRs E φ h hi as fs → FRs E φ' h' hi as fs
  | _, [], _, he, hf => hf
  | hi, a :: as, _, he, ⟨f, fs, h1, h2, h3, h4⟩ => ⟨f, fs, h1, FR_mono he (Nat.le_refl _) h2, h3, FRs_mono (he.mono h3) h4⟩
/-! ### operands of a frame -/
theorem ops_of_trel (ht : trel φ tm ctm) {f : Frame} (hf : f.tmps = ctm) (xs : List Operand) : Ops φ tm f.eval xs := by
  intro x _ a ha
  cases x with
  | tmp t => injection ha with ha; subst ha; subst hf; exact ht t
  | const v => exact aconst_vr 6 v a φ ha
  | global g => cases ha
  | func g => injection ha with ha; subst ha; exact ⟨#[], #[], rfl, rfl, rfl⟩

/-! ### calls -/
variable {o : Oper} {ρ : Operand → Value}
theorem hcall_sound (hE : EnvOK P E) {c : Call} {r : R1} (hr : HR w0 φ h w) (ho : Ops φ tm ρ o.op.operands.toList) (hop : o.op = .call c) (hv : hcall E tm c = some r) : RS P w0 w φ h ρ o r := by
  obtain ⟨callee, args, tys⟩ := c
  cases callee <;> first | (cases hv; done) | skip
  rename_i f
  obtain ⟨fv, h1, h2⟩ := opt_some (show opt (aev tm f) _ = some r from hv)
  obtain ⟨as, h3, h4⟩ := opt_some h2
  have hf := ho f (by rw [hop]; simp [Op.operands, Call.operands]) _ h1
  have hargs := ho.list (ys := args.toList) (fun y hy => by rw [hop]; simp [Op.operands, Call.operands]; right; simpa using hy) h3
  cases fv <;> first | (cases h4; done) | skip
  · rename_i g fi ca
    obtain ⟨fn, h5, h6⟩ := opt_some h4
    obtain ⟨fi', ca', hf, hfi, hca⟩ := hf
    obtain ⟨k1, k2, k3⟩ := hE.fn _ _ h5
    have hnb : fn.body.isNone = false := by cases hb : fn.body with | none => rw [hb] at k3; cases k3 | some c => rfl
    have hex : (execOp ρ o).run P w = .ok (.enter g (fi' ++ args.map ρ ++ ca')) w := by
      simp [execOp, hop, resolve, hf, Deferred.ofValue, invoke, callFunc, program, Sem.run, k1, hnb]
      have k2' : fn.name ≠ "runtime.NumGoroutine" := by simpa using k2
      have k3' : fn.body ≠ none := by intro hn; rw [hn] at k3; cases k3
      rw [if_neg k2', if_neg k3']
    have hall : vrs φ (fi ++ (as ++ ca)) (fi' ++ args.map ρ ++ ca').toList := by
      simp only [Array.toList_append, Array.toList_map, List.append_assoc]
      exact vrs_append hfi (vrs_append hargs hca)
    cases hkt : E.kt.get g with
    | none =>
      rw [hkt] at h6
      injection h6 with h6; subst h6
      exact ⟨_, hex, hall⟩
    | some u =>
      rw [hkt] at h6
      cases hl : fi ++ (as ++ ca) with
      | cons x xs => simp only [hl] at h6; cases h6
      | nil =>
        simp only [hl] at h6
        injection h6 with h6; subst h6
        rw [hl] at hall
        have hall : (fi' ++ args.map ρ ++ ca').toList = [] := hall
        have hemp : fi' ++ args.map ρ ++ ca' = #[] := by simpa using hall
        rw [hemp] at hex
        exact ⟨hex, hE.kt _ _ hkt⟩
  · rename_i l
    injection h4 with h4; subst h4
    obtain ⟨k, sz, hb, hf⟩ := hf
    refine ⟨k, sz, args.map ρ, hb, by rw [Array.toList_map]; exact hargs, ?_⟩
    simp [execOp, hop, resolve, hf, Deferred.ofValue, invoke]
theorem hdefer_sound {c : Call} {r : R1} (ho : Ops φ tm ρ o.op.operands.toList) (hop : o.op = .defer c) (hv : hdefer E tm c = some r) : RS P w0 w φ h ρ o r := by
  obtain ⟨callee, args, tys⟩ := c
  cases callee <;> first | (cases hv; done) | skip
  rename_i f
  obtain ⟨fv, h1, h2⟩ := opt_some (show opt (aev tm f) _ = some r from hv)
  obtain ⟨as, h3, h4⟩ := opt_some h2
  have hf := ho f (by rw [hop]; simp [Op.operands, Call.operands]) _ h1
  have hargs := ho.list (ys := args.toList) (fun y hy => by rw [hop]; simp [Op.operands, Call.operands]; right; simpa using hy) h3
  cases fv <;> first | (cases h4; done) | skip
  rename_i g fi ca
  injection h4 with h4; subst h4
  obtain ⟨fi', ca', hf, hfi, hca⟩ := hf
  refine ⟨⟨_, hop⟩, fi' ++ args.map ρ, ca', ?_, ?_⟩
  · simp [execOp, hop, resolve, hf, Deferred.ofValue]
  · simp only [Array.toList_append, Array.toList_map, List.append_assoc]
    exact vrs_append hfi (vrs_append hargs hca)
theorem hpanic_sound {x : Operand} {r : R1} (ho : Ops φ tm ρ o.op.operands.toList) (hop : o.op = .panic x) (hv : hpanic tm x = some r) : RS P w0 w φ h ρ o r := by
  obtain ⟨v, h1, h2⟩ := opt_some hv
  have hx := ho x (by rw [hop]; simp [Op.operands]) _ h1
  cases v <;> first | (cases h2; done) | skip
  rename_i t u
  injection h2 with h2; subst h2
  obtain ⟨u', hx, hu⟩ := hx
  refine ⟨.iface t u', ?_, ⟨u', rfl, hu⟩⟩
  simp [execOp, hop, hx, Instr.panic, goPanic, Sem.run]
theorem hop_sound (hE : EnvOK P E) {r : R1} (hr : HR w0 φ h w) (ho : Ops φ tm ρ o.op.operands.toList) (hev : ∀ g, ρ (.func g) = .func (.func g) #[] #[]) (hv : hop E tm h o.op = some r) : RS P w0 w φ h ρ o r := by
  cases hop : o.op <;> rw [hop] at hv <;> first | (cases hv; done) | skip
  case insert => exact hmapUpdate_sound hE hr ho (Or.inr hop) hv
  case store => exact hstore_sound hE hr ho hop hv
  case mapUpdate => exact hmapUpdate_sound hE hr ho (Or.inl hop) hv
  case mapEntry => exact hmapEntry_sound hE hr ho hop hv
  case entryStore => exact hentryStore_sound hr ho hop hv
  case range => exact hrange_sound hE hr ho hop hv
  case next => exact hnext_sound hE hr ho hop hv
  case defer => exact hdefer_sound (E := E) ho hop hv
  case panic => exact hpanic_sound ho hop hv
  case call c =>
    cases hc : c.callee with
    | value f =>
      cases hq : hcall E tm c with
      | some r' =>
        simp [Ev.hop, hc, hq] at hv
        subst hv
        exact hcall_sound hE hr ho hop hq
      | none =>
        simp [Ev.hop, hc, hq] at hv
        exact hext_sound hE hr ho hev hop hc hv
    | invoke x m => exact hinvoke_sound hE hr ho hop hc (by simpa [Ev.hop, hc] using hv)
    | builtin b =>
      cases b <;> first | (simp [Ev.hop, hc] at hv; done) | skip
      · exact happend_sound hE hr ho hop hc (by simpa [Ev.hop, hc] using hv)
      · exact hcopy_sound hE hr ho hop hc (by simpa [Ev.hop, hc] using hv)
      · exact hdelete_sound hE hr ho hop hc (by simpa [Ev.hop, hc] using hv)
      · have hv : some R1.recov = some r := by simpa [Ev.hop, hc] using hv
        injection hv with hv; subst hv
        show (execOp ρ o).run P w = .ok .recover w
        simp [execOp, hop, resolve, hc, invoke, builtin]
theorem aop_sound (hE : EnvOK P E) {r : R1} (hr : HR w0 φ h w) (ho : Ops φ tm ρ o.op.operands.toList) (hev : ∀ g, ρ (.func g) = .func (.func g) #[] #[]) (hv : aop E tm h o.op = some r) : RS P w0 w φ h ρ o r := by
  unfold aop at hv
  split at hv
  · rename_i v hvop
    injection hv with hv; subst hv
    obtain ⟨v', h1, h2⟩ := vopX_sound hE hr ho hvop
    exact ⟨.value v', v', w, φ, h1, rfl, h2, hr, Ext.refl _ _⟩
  · split at hv
    · rename_i r' hr'
      injection hv with hv; subst hv
      exact hop_sound hE hr ho hev hr'
    · obtain ⟨vals, h1, h2⟩ := opt_some hv
      obtain ⟨⟨O, mk⟩, h3, h4⟩ := opt_some h2
      rw [addB_eq] at h4
      injection h4 with h4; subst h4
      obtain ⟨o', v', sz, g1, g2⟩ := mop_sound (o := o) hE (ho.list (fun y hy => hy) h1) h3 w
      obtain ⟨g3, g4⟩ := g2 h.next (hr.fresh (Nat.le_refl _))
      have hadd := hr.add (o := O) g3
      exact ⟨.value v', v', _, _, g1, rfl, g4, hadd.1, hadd.2⟩
end

end
end Go.Proofs.Ytdhnacajgmjmlaa.Ev
