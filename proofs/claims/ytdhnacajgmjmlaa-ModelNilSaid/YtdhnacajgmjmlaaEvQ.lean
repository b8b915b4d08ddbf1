/- An abstract machine, part 16: an operation, a code, a return: steps of the model's. Of no program. -/
import Derived.Test.YtdhnacajgmjmlaaEvO
namespace Go.Proofs.Ytdhnacajgmjmlaa.Ev
open Go.RowKit
noncomputable section
set_option linter.unusedVariables false
set_option linter.unusedSimpArgs false

section
variable {P : Program} {E : Env} {w0 w : World} {φ φ' : Phi} {h h' : H} {tm : Tr AV} {ctm : Array Value} {cs0 : List Frame} {s s' : S} {f : Frame} {fs : List Frame}

theorem wanted_eq {all : Array Oper} {o : Oper} (hg : ∀ g want d, o.guard = some (g, want) → dstS all g = some d → vr φ (cellAt tm .undef d) (ctm.getD d Go.undef)) : wantedA all tm o = Region.wanted o (yielded all ctm) := by
  unfold wantedA Region.wanted
  cases hgu : o.guard with
  | none => rfl
  | some gw =>
    obtain ⟨g, want⟩ := gw
    simp only
    rw [dstOf_eq]
    unfold yielded
    have hd : (all[g]?).bind (·.dst) = dstS all g := rfl
    rw [hd]
    cases hds : dstS all g with
    | none => simp
    | some d =>
      have hv := hg g want d hgu hds
      simp only [Option.bind_some]
      rw [Array.getD_eq_getD_getElem?] at hv
      cases hca : cellAt tm .undef d <;> rw [hca] at hv
      case bool b =>
        cases hc : ctm[d]? with
        | none => rw [hc] at hv; cases hv
        | some v =>
          rw [hc] at hv
          have hv : v = .bool b := hv
          subst hv
          cases b <;> cases want <;> rfl
      all_goals
        have hsh := shp_of hv
        cases hc : ctm[d]? with
        | none => simp
        | some v =>
          rw [hc] at hsh
          simp only [Option.getD_some] at hsh
          cases v <;> first | (cases hsh; done) | simp
theorem aop_defer {c : Call} {r : R1} (ha : aop E tm h (.defer c) = some r) : ∃ g args, r = .defr g args := by
  unfold aop at ha
  have e1 : vopX E tm h (.defer c) = none := rfl
  have e2 : hop E tm h (.defer c) = hdefer E tm c := rfl
  rw [e1, e2] at ha
  cases hd : hdefer E tm c with
  | none =>
    rw [hd] at ha
    exfalso
    have ha : opt (optMap (aev tm) (Op.defer c).operands.toList) (fun vals => opt (mop E (.defer c) vals) fun p => addB h p.1 fun id h' => some (R1.val (p.2 id) h')) = some r := ha
    cases hq : optMap (aev tm) (Op.defer c).operands.toList <;> rw [hq] at ha <;> cases ha
  | some q =>
    rw [hd] at ha
    injection ha with ha; subst ha
    unfold hdefer at hd
    cases hc : c.callee with
    | value f =>
      rw [hc] at hd
      obtain ⟨fv, h1, h2⟩ := opt_some hd
      obtain ⟨as, h3, h4⟩ := opt_some h2
      cases fv <;> first | (cases h4; done) | skip
      injection h4 with h4
      exact ⟨_, _, h4.symm⟩
    | invoke x m => rw [hc] at hd; cases hd
    | builtin b => rw [hc] at hd; cases hd
/-! rounds -/
def putPL : Tr AV → List Nat → List AV → Tr AV
  | tm, p :: ps, a :: as => putPL (tm.set p (some a)) ps as
  | tm, _, _ => tm
theorem putParams_sound {nt : Nat} : ∀ {ps : List Nat} {args : List AV} {tm : Tr AV} {vs : List Value} {ctm : Array Value} {k : Tr AV → Option S} {r : S}, ctm.size = nt → trel φ tm ctm → vrs φ args vs → putParams nt tm ps args k = some r →
    ps.length = vs.length ∧ ∃ tm', k tm' = some r ∧ ((ps.zip vs).foldl (fun t (p : Nat × Value) => t.setIfInBounds p.1 p.2) ctm).size = nt ∧ trel φ tm' ((ps.zip vs).foldl (fun t (p : Nat × Value) => t.setIfInBounds p.1 p.2) ctm)
  | [], [], tm, vs, ctm, k, r, hn, ht, hv, hk => by
    have hv : vs = [] := hv
    subst hv
    exact ⟨rfl, tm, hk, hn, ht⟩
  | [], a :: as, tm, vs, ctm, k, r, hn, ht, hv, hk => by cases hk
  | p :: ps, [], tm, vs, ctm, k, r, hn, ht, hv, hk => by cases hk
  | p :: ps, a :: as, tm, vs, ctm, k, r, hn, ht, hv, hk => by
    obtain ⟨v, vs', e, h1, h2⟩ := hv
    subst e
    obtain ⟨h3, h4⟩ := ifB_some hk
    have h3 := blt_iff.1 h3
    rw [Tr.setT_eq] at h4
    have ht' : trel φ (tm.set p (some a)) (ctm.setIfInBounds p v) := fun q => by
      rw [cellAt_setT, set_at _ _ _ _ (by omega)]
      by_cases e : q = p
      · rw [if_pos e, if_pos e]; exact h1
      · rw [if_neg e, if_neg e]; exact ht q
    obtain ⟨g1, tm', g2, g3, g4⟩ := putParams_sound (by simpa using hn) ht' h2 h4
    exact ⟨by simp [g1], tm', g2, g3, g4⟩
theorem round_sound (hr : HR w0 φ h w) {l k sz : Nat} {args : List AV} {args' : Array Value} {cs : List AF} (hl : φ l = some (k, sz)) (hv : vrs φ args args'.toList) (he : roundF l args cs h = some s') :
    ∃ a fnn tt asg bd, s' = ⟨a, cs, h⟩ ∧ a.base = h.next ∧ (Instr.yield k args').run P w = .ok (.round k fnn tt asg bd) w ∧ FR E φ h h.next a (Frame.round k fnn tt asg bd .normal) := by
  obtain ⟨ob, h1, h2⟩ := opt_some he
  cases ob <;> first | (cases h2; done) | skip
  rename_i st pd lfn tm nt ps asg body d
  obtain ⟨a, d', sz', g1, g2, g3, g4, g5, g6, g7, g8, g9⟩ := loop_at (P := P) hr h1 hl
  obtain ⟨q1, tm', q2, q3, q4⟩ := putParams_sound (ps := ps.toList) g2 g3 hv h2
  injection q2 with q2
  have hz : ((ps.zip args').foldl (fun t (p : Nat × Value) => t.setIfInBounds p.1 p.2) a) = ((ps.toList.zip args'.toList).foldl (fun t (p : Nat × Value) => t.setIfInBounds p.1 p.2) a) := by
    rw [← Array.foldl_toList, Array.toList_zip]
  refine ⟨_, lfn, ((ps.zip args').foldl (fun t (p : Nat × Value) => t.setIfInBounds p.1 p.2) a), asg, body, q2.symm, rfl, ?_, ?_⟩
  · have hsz : args'.size = ps.size := by simpa using q1.symm
    simp only [Instr.yield, Sem.run_bind, g8, Result.andThen_ok]
    rw [if_neg (by simpa using hsz)]
    rfl
  · rw [hz]
    exact ⟨rfl, q3, rfl, rfl, ⟨rfl, k, ⟨sz, hl⟩, rfl⟩, .plain ⟨_, _, rfl, ⟨rfl, g5⟩, _, _, rfl, rfl, _, _, rfl, ⟨rfl, g6⟩, rfl⟩ q4⟩
theorem finish_defers (f : Frame) (v : Value) : (f.finish v).defers = f.defers := by
  unfold Frame.finish
  split <;> rfl
theorem finish_with (f : Frame) (v : Value) (d : List Deferred) : { f with defers := d }.finish v = { f.finish v with defers := d } := by
  unfold Frame.finish
  simp only
  split <;> rfl
/-- an operation -/
theorem opS_sound (hE : EnvOK P E) (hF : FnsOK P E) (hr : HR w0 φ s.h w) (R : FR E φ s.h s.h.next s.f f) (hret : s.f.ret = .run) (hbase : s.f.base ≤ s.h.next) (hfs : FRs E φ s.h s.f.base s.cs fs)
    {all : Array Oper} {i : Nat} {idx : List Nat} {is : List Item} {o : Oper} (hft : f.todo = .inRegion all (i :: idx) :: is) (ho : all[i]? = some o) (hops : Ops φ s.f.tmps f.eval o.op.operands.toList)
    (hw : wantedA all s.f.tmps o = Region.wanted o (yielded all f.tmps)) (hs : opS E s all o = some s') : Goes P E w0 cs0 (lone f (fs ++ cs0) w) s' := by
  have hform := R.form hret
  rw [hft] at hform
  unfold opS at hs
  rw [ifB_eq] at hs
  split at hs
  · rename_i hwt
    rw [hw] at hwt
    obtain ⟨r, h1, h2⟩ := opt_some hs
    have hnd : (∀ g args, r ≠ .defr g args) → ∀ c, o.op ≠ .defer c := by
      intro hr c hc
      rw [hc] at h1
      obtain ⟨g, args, e⟩ := aop_defer h1
      exact hr _ _ e
    have hRS := aop_sound hE hr hops (fun g => rfl) h1
    cases r with
    | val v h' =>
      obtain ⟨n, v', w', φ', g1, g2, g3, g4, g5⟩ := hRS
      have R' : FR E φ' h' h'.next s.f f := FR_mono (g5.b (Nat.le_refl _)) g5.next R
      obtain ⟨a', e1, R2, e2⟩ := finish_sound R' g3 h2
      injection e1 with e1; subst e1
      refine Goes.step (f' := f.finish v') (cs' := fs ++ cs0) (w1 := w') ?_ ⟨φ', _, fs, w', rfl, g4, R2, by show a'.base ≤ h'.next; rw [e2]; exact Nat.le_trans hbase g5.next, by show FRs E φ' h' a'.base s.cs fs; rw [e2]; exact FRs_mono (g5.b hbase) hfs⟩
      rw [hform] at g1 ⊢
      exact m_op ho hwt g1 g2
    | enter g args =>
      obtain ⟨args', g1, g2⟩ := hRS
      obtain ⟨a, e1, e2, Ra⟩ := enter_sound hE hF g2 h2
      subst e1
      refine Goes.step (f' := Frame.enter P g args' .normal) (cs' := f :: (fs ++ cs0)) (w1 := w) ?_ ⟨φ, _, f :: fs, w, rfl, hr, Ra, by show a.base ≤ _; rw [e2]; exact Nat.le_refl _, by show FRs E φ s.h a.base (s.f :: s.cs) (f :: fs); rw [e2]; exact ⟨f, fs, rfl, R, hbase, hfs⟩⟩
      rw [hform] at g1 ⊢
      exact m_enter ho hwt (hnd (by intro g args hc; cases hc)) g1
    | round l args =>
      obtain ⟨k, sz, args', g1, g2, g3⟩ := hRS
      obtain ⟨a, fnn, tt, asg, bd, e1, e2, e3, Ra⟩ := round_sound (P := P) (E := E) hr g1 g2 h2
      subst e1
      refine Goes.step (f' := Frame.round k fnn tt asg bd .normal) (cs' := f :: (fs ++ cs0)) (w1 := w) ?_ ⟨φ, _, f :: fs, w, rfl, hr, Ra, by show a.base ≤ _; rw [e2]; exact Nat.le_refl _, by show FRs E φ s.h a.base (s.f :: s.cs) (f :: fs); rw [e2]; exact ⟨f, fs, rfl, R, hbase, hfs⟩⟩
      rw [e3] at g3
      rw [hform] at g3 ⊢
      exact m_round ho hwt (hnd (by intro g args hc; cases hc)) g3
    | defr g args =>
      obtain ⟨_, args', ca', g1, g2⟩ := hRS
      have hfin : f.roundOf = none → finishF s.f .undef (fun f => some (⟨⟨f.fn, f.nt, f.tmps, f.todo, .call g args :: f.defs, f.ret, f.rnd, f.base⟩, s.cs, s.h⟩ : S)) = some s' → Goes P E w0 cs0 (lone f (fs ++ cs0) w) s' := by
        intro hrn h2
        obtain ⟨a', e1, R2, e2⟩ := finish_sound R vr_undef h2
        injection e1 with e1; subst e1
        have hd2 : drels φ a'.defs f.defers := by have := R2.defs; rw [finish_defers] at this; exact this
        refine Goes.step (f' := { f.finish Go.undef with defers := { target := .fn (.func g) ca', args := args' } :: f.defers }) (cs' := fs ++ cs0) (w1 := w) ?_ ⟨φ, _, fs, w, rfl, hr, ⟨R2.fn, R2.nt, R2.mode, ⟨_, f.defers, rfl, ⟨args', ca', rfl, g2⟩, hd2⟩, R2.rnd, R2.tb⟩, by show a'.base ≤ _; rw [e2]; exact hbase, by show FRs E φ s.h a'.base s.cs fs; rw [e2]; exact hfs⟩
        rw [← finish_with]
        rw [hform, hrn] at g1 ⊢
        exact m_defer ho hwt g1
      unfold deferS at h2
      have hrnd := R.rnd
      cases hr0 : s.f.rnd <;> rw [hr0] at h2 hrnd
      · exact hfin hrnd.2 h2
      · cases h2
      · exact hfin hrnd.2 h2
    | pan v =>
      obtain ⟨v', g1, g2⟩ := hRS
      injection h2 with h2; subst h2
      refine Goes.step (f' := frP [{ v := v', recovered := false }] f.kind s.f.fn f.tmps (.inRegion all (i :: idx) :: is) f.defers f.roundOf) (cs' := fs ++ cs0) (w1 := w) ?_ ⟨φ, _, fs, w, rfl, hr, ⟨rfl, R.nt, ⟨v', rfl, g2⟩, R.defs, R.rnd, by rw [← hft]; exact R.tb⟩, hbase, hfs⟩
      rw [hform] at g1 ⊢
      exact m_panic ho hwt (hnd (by intro g args hc; cases hc)) g1
    | known g =>
      obtain ⟨g1, g2⟩ := hRS
      obtain ⟨e, w', fc, ⟨he, hb⟩, hc, _, hl⟩ := g2 w (f :: (fs ++ cs0))
      subst he
      have hr' := hr.behind hb
      obtain ⟨a', e1, R2, e2⟩ := finish_sound R (show vr φ (.bool true) (.bool true) from rfl) h2
      injection e1 with e1; subst e1
      have s1 : Steps P (lone f (fs ++ cs0) w) (lone (Frame.enter P g #[] .normal) (f :: (fs ++ cs0)) w) := steps_of (by
        rw [hform] at g1 ⊢
        exact m_enter ho hwt (hnd (by intro g args hc; cases hc)) g1)
      have s2 : Steps P (lone fc (f :: (fs ++ cs0)) w') (lone (f.finish (.bool true)) (fs ++ cs0) w') := .one (step_leave_returned hl)
      exact ⟨_, (s1.trans hc).trans s2, φ, _, fs, w', rfl, hr', R2, by show a'.base ≤ _; rw [e2]; exact hbase, by show FRs E φ s.h a'.base s.cs fs; rw [e2]; exact hfs⟩
    | recov =>
      have g1 : (execOp f.eval o).run P w = .ok .recover w := hRS
      have hnd := hnd (by intro g args hc; cases hc)
      have hN : f.roundOf = none → (f.kind = .normal ∨ (f.kind = .deferred ∧ ∃ c cs', fs ++ cs0 = c :: cs' ∧ (c.mode = .run ∨ c.mode = .returning ∨ ∃ u, c.mode = .panicking [{ v := u, recovered := true }]))) → recN s = some s' → Goes P E w0 cs0 (lone f (fs ++ cs0) w) s' := by
        intro hrn hk h2
        obtain ⟨a', e1, R2, e2⟩ := finish_sound R (show vr φ .niliface .nilIface from rfl) h2
        injection e1 with e1; subst e1
        refine Goes.step (f' := f.finish .nilIface) (cs' := fs ++ cs0) (w1 := w) ?_ ⟨φ, _, fs, w, rfl, hr, R2, by show a'.base ≤ _; rw [e2]; exact hbase, by show FRs E φ s.h a'.base s.cs fs; rw [e2]; exact hfs⟩
        rw [hform, hrn] at g1 ⊢
        exact m_recN ho hwt hnd g1 hk
      unfold recS at h2
      have hrnd := R.rnd
      cases hr0 : s.f.rnd <;> rw [hr0] at h2 hrnd
      · exact hN hrnd.2 (Or.inl hrnd.1) h2
      · cases h2
      · cases hcs : s.cs with
        | nil => rw [hcs] at h2; cases h2
        | cons c cs =>
          rw [hcs] at h2 hfs
          obtain ⟨fc, fs', e, Rc, hbc, Rs⟩ := hfs
          subst e
          have hmc := Rc.mode
          cases hcr : c.ret with
          | run => rw [hcr] at hmc; simp only [hcr] at h2; exact hN hrnd.2 (Or.inr ⟨hrnd.1, fc, fs' ++ cs0, rfl, Or.inl hmc⟩) h2
          | ret => rw [hcr] at hmc; simp only [hcr] at h2; exact hN hrnd.2 (Or.inr ⟨hrnd.1, fc, fs' ++ cs0, rfl, Or.inr (Or.inl hmc)⟩) h2
          | pan v r =>
            rw [hcr] at hmc
            obtain ⟨u, hmc, hu⟩ := hmc
            simp only [hcr] at h2
            cases r with
            | true => exact hN hrnd.2 (Or.inr ⟨hrnd.1, fc, fs' ++ cs0, rfl, Or.inr (Or.inr ⟨u, hmc⟩)⟩) h2
            | false =>
              have h2 : finishF s.f v (fun f => some (⟨f, ⟨c.fn, c.nt, c.tmps, c.todo, c.defs, .pan v true, c.rnd, c.base⟩ :: cs, s.h⟩ : S)) = some s' := h2
              obtain ⟨a', e1, R2, e2⟩ := finish_sound R hu h2
              injection e1 with e1; subst e1
              refine Goes.step (f' := f.finish u) (cs' := { fc with mode := .panicking [{ v := u, recovered := true }] } :: (fs' ++ cs0)) (w1 := w) ?_ ⟨φ, _, { fc with mode := .panicking [{ v := u, recovered := true }] } :: fs', w, rfl, hr, R2, by show a'.base ≤ _; rw [e2]; exact hbase, ?_⟩
              · have e3 : f = fr .deferred s.f.fn f.tmps (.inRegion all (i :: idx) :: is) f.defers none := by rw [← hrnd.1, ← hrnd.2]; exact hform
                rw [e3] at g1 ⊢
                exact m_recV ho hwt hnd g1 hmc
              · show FRs E φ s.h a'.base (_ :: cs) _
                rw [e2]
                exact ⟨_, fs', rfl, ⟨Rc.fn, Rc.nt, ⟨u, rfl, hu⟩, Rc.defs, Rc.rnd, Rc.tb⟩, hbc, Rs⟩
  · rename_i hwt
    obtain ⟨a', e1, R2, e2⟩ := finish_sound R vr_undef hs
    injection e1 with e1; subst e1
    refine Goes.step (f' := f.finish Go.undef) (cs' := fs ++ cs0) (w1 := w) ?_ ⟨φ, _, fs, w, rfl, hr, R2, by show a'.base ≤ _; rw [e2]; exact hbase, by show FRs E φ s.h a'.base s.cs fs; rw [e2]; exact hfs⟩
    rw [hform]
    refine m_skipOp ?_
    rw [ho]
    simp only [Option.map_some, Option.getD_some]
    rw [← hw]
    simpa using hwt

/-- deferred calls, where a frame returns or panics -/
theorem def_sound (hE : EnvOK P E) (hF : FnsOK P E) (hr : HR w0 φ s.h w) (R : FR E φ s.h s.h.next s.f f) (hret : s.f.ret = .ret ∨ ∃ v r, s.f.ret = .pan v r) (hbase : s.f.base ≤ s.h.next) (hfs : FRs E φ s.h s.f.base s.cs fs) {d : AD} {ds : List AD} (hd : s.f.defs = d :: ds) (hs : defS E s d ds = some s') : Goes P E w0 cs0 (lone f (fs ++ cs0) w) s' := by
  have hdefs := R.defs
  rw [hd] at hdefs
  obtain ⟨dd, l', e, hb, hds⟩ := hdefs
  -- the frame without it
  have R2 : FR E φ s.h s.h.next ⟨s.f.fn, s.f.nt, s.f.tmps, s.f.todo, ds, s.f.ret, s.f.rnd, s.f.base⟩ { f with defers := l' } := ⟨R.fn, R.nt, R.mode, hds, R.rnd, R.tb⟩
  have hform : (f = frR f.kind s.f.fn f.tmps f.todo (dd :: l') f.roundOf ∧ { f with defers := l' } = frR f.kind s.f.fn f.tmps f.todo l' f.roundOf) ∨ ∃ ch, f = frP ch f.kind s.f.fn f.tmps f.todo (dd :: l') f.roundOf ∧ { f with defers := l' } = frP ch f.kind s.f.fn f.tmps f.todo l' f.roundOf := by
    rcases hret with h1 | ⟨v, r, h1⟩
    · have h2 := R.formR h1
      have h3 := R2.formR h1
      rw [e] at h2
      exact Or.inl ⟨h2, h3⟩
    · obtain ⟨v', _, h2⟩ := R.formP h1
      refine Or.inr ⟨_, by rw [e] at h2; exact h2, ?_⟩
      rw [h2]; rfl
  cases d with
  | mark b =>
    obtain ⟨k, ⟨sz, hb⟩, e2⟩ := hb
    subst e2
    obtain ⟨ob, h1, h2⟩ := opt_some hs
    cases ob <;> first | (cases h2; done) | skip
    rename_i t
    obtain ⟨o', hk, ho⟩ := hr.obj _ _ k sz h1 hb
    cases t with
    | true => cases h2
    | false =>
      have h2 : putB s.h b (.defr true) (fun h' => some ⟨⟨s.f.fn, s.f.nt, s.f.tmps, s.f.todo, ds, s.f.ret, s.f.rnd, s.f.base⟩, s.cs, h'⟩) = some s' := h2
      rw [putB_eq] at h2
      injection h2 with h2; subst h2
      have ho : o' = .deferred (some []) := ho
      subst ho
      have hlt : k < w.heap.size := (hr.lt _ _ _ hb).1
      have hput := hr.turn (w' := { w with heap := w.heap.setIfInBounds k (.deferred none) }) hb (by rw [show s.h.t.get b = _ from h1]; simp) (o := .defr true) (o' := .deferred none) rfl rfl rfl rfl (by simp) (by simp [hlt]) (fun j hj => by simp [Array.getElem?_setIfInBounds_ne (Ne.symm hj)])
      have hrun : (Instr.takeDeferred k).run P w = .ok [] { w with heap := w.heap.setIfInBounds k (.deferred none) } := by
        simp [Instr.takeDeferred, getObj, setObj, Sem.run, hk]
      refine Goes.step (f' := { f with defers := l' }) ?_ ⟨φ, _, fs, _, rfl, hput.1, FR_mono (hput.2.b (Nat.le_refl _)) hput.2.next R2, by simpa [H.put] using hbase, FRs_mono (hput.2.b hbase) hfs⟩
      rcases hform with ⟨q1, q2⟩ | ⟨ch, q1, q2⟩
      · rw [q2, q1]; exact m_take hrun
      · rw [q2, q1]; exact m_takeP hrun
  | call g args =>
    obtain ⟨args', ca', e2, ha⟩ := hb
    subst e2
    obtain ⟨s1, h1, h2⟩ := opt_some hs
    injection h2 with h2; subst h2
    obtain ⟨a, g1, g2, g3⟩ := enter_soundD hE hF ha h1
    obtain ⟨fn, hfn, _⟩ := opt_some h1
    obtain ⟨k1, k2, k3⟩ := hE.fn _ _ hfn
    have k2' : fn.name ≠ "runtime.NumGoroutine" := by simpa using k2
    have k3' : fn.body ≠ none := by intro hn; rw [hn] at k3; cases k3
    have hinv : (invoke (.fn (.func g) ca') args').run P w = .ok (.enter g (args' ++ ca')) w := by
      simp [invoke, callFunc, program, Sem.run, k1, k2', k3']
    rw [g1]
    refine Goes.step (f' := Frame.enter P g (args' ++ ca') .deferred) (cs' := { f with defers := l' } :: (fs ++ cs0)) (w1 := w) ?_ ⟨φ, _, { f with defers := l' } :: fs, w, rfl, hr, g3, by show a.base ≤ _; rw [g2]; exact Nat.le_refl _, by show FRs E φ s.h a.base (_ :: s.cs) _; rw [g2]; exact ⟨_, fs, rfl, R2, hbase, hfs⟩⟩
    rcases hform with ⟨q1, q2⟩ | ⟨ch, q1, q2⟩
    · rw [q2, q1]; exact m_dcall hinv
    · rw [q2, q1]; exact m_dcallP hinv
/-- a return -/
theorem ret_sound (hE : EnvOK P E) (hF : FnsOK P E) (hr : HR w0 φ s.h w) (R : FR E φ s.h s.h.next s.f f) (hret : s.f.ret = .ret) (hbase : s.f.base ≤ s.h.next) (hfs : FRs E φ s.h s.f.base s.cs fs) (ht : trel φ s.f.tmps f.tmps) (hp : irels φ s.f.todo f.todo) (hs : retS E s = some s') : Goes P E w0 cs0 (lone f (fs ++ cs0) w) s' := by
  have hform := R.formR hret
  have hdefs := R.defs
  unfold retS at hs
  cases hd : s.f.defs with
  | nil =>
    simp only [hd] at hs hdefs
    have hdefs : f.defers = [] := hdefs
    cases hcs : s.cs with
    | nil => rw [hcs] at hs; cases hs
    | cons c cs =>
      rw [hcs] at hs hfs
      obtain ⟨v, h1, h2⟩ := opt_some hs
      obtain ⟨fn, v', g1, g2, g3⟩ := resOf_sound hE hr R ht h1
      have hrnd := R.rnd
      have calm : f.kind = .normal → finishF c v (fun c' => some (⟨c', cs, s.h⟩ : S)) = some s' → Goes P E w0 cs0 (lone f (fs ++ cs0) w) s' := by
        intro hk h2
        obtain ⟨c2, fs', e, hrel⟩ := pop_sound (cs0 := cs0) hr (ExtB.refl _ φ s.h) hbase hfs g3 h2
        subst e
        refine Goes.step ?_ hrel
        rw [hform, hdefs, hk]
        exact m_ret g1 g2
      cases hr0 : s.f.rnd with
      | norm => rw [hr0] at hrnd; simp only [hr0] at h2; exact calm hrnd.1 h2
      | round l => rw [hr0] at hrnd; simp only [hr0] at h2; exact calm hrnd.1 h2
      | dfr =>
        rw [hr0] at hrnd
        simp only [hr0] at h2
        injection h2 with h2; subst h2
        obtain ⟨fc, fs', e, Rc, hbc, Rs⟩ := hfs
        subst e
        have hmc := Rc.mode
        have Rc' : FR E φ s.h s.h.next c fc := FR_mono (ExtB.refl _ φ s.h) hbase Rc
        have hb2 : c.base ≤ s.h.next := Nat.le_trans hbc hbase
        have same : backS c cs s.h = ⟨c, cs, s.h⟩ → (fc.mode = .run ∨ fc.mode = .returning ∨ ∃ u, fc.mode = .panicking [{ v := u, recovered := false }]) → Goes P E w0 cs0 (lone f (fc :: fs' ++ cs0) w) (backS c cs s.h) := by
          intro e hm
          rw [e]
          refine Goes.step (f' := fc) (cs' := fs' ++ cs0) (w1 := w) ?_ ⟨φ, fc, fs', w, rfl, hr, Rc', hb2, Rs⟩
          rw [hform, hdefs, hrnd.1]
          exact m_back2 g1 g2 hm
        cases hcr : c.ret with
        | run => rw [hcr] at hmc; exact same (by unfold backS; rw [hcr]) (Or.inl hmc)
        | ret => rw [hcr] at hmc; exact same (by unfold backS; rw [hcr]) (Or.inr (Or.inl hmc))
        | pan u r =>
          rw [hcr] at hmc
          obtain ⟨u', hmc, hu⟩ := hmc
          cases r with
          | false => exact same (by unfold backS; rw [hcr]) (Or.inr (Or.inr ⟨u', hmc⟩))
          | true =>
            have e : backS c cs s.h = ⟨⟨c.fn, c.nt, c.tmps, c.todo, c.defs, .ret, c.rnd, c.base⟩, cs, s.h⟩ := by unfold backS; rw [hcr]
            rw [e]
            refine Goes.step (f' := { fc with mode := .returning }) (cs' := fs' ++ cs0) (w1 := w) ?_ ⟨φ, _, fs', w, rfl, hr, ⟨Rc'.fn, Rc'.nt, rfl, Rc'.defs, Rc'.rnd, Rc'.tb⟩, hb2, Rs⟩
            rw [hform, hdefs, hrnd.1]
            exact m_back g1 g2 hmc
  | cons d ds =>
    simp only [hd] at hs
    exact def_sound hE hF hr R (Or.inl hret) hbase hfs hd hs
/-- a panic goes on -/
theorem pan_sound (hE : EnvOK P E) (hF : FnsOK P E) (hr : HR w0 φ s.h w) (R : FR E φ s.h s.h.next s.f f) {v : AV} {r : Bool} (hret : s.f.ret = .pan v r) (hbase : s.f.base ≤ s.h.next) (hfs : FRs E φ s.h s.f.base s.cs fs) (hs : panS E s v r = some s') : Goes P E w0 cs0 (lone f (fs ++ cs0) w) s' := by
  obtain ⟨v', hv, hform⟩ := R.formP hret
  have hdefs := R.defs
  unfold panS at hs
  cases hd : s.f.defs with
  | nil =>
    simp only [hd] at hs hdefs
    have hdefs : f.defers = [] := hdefs
    cases hcs : s.cs with
    | nil => rw [hcs] at hs; cases hs
    | cons c cs =>
      rw [hcs] at hs hfs
      cases r with
      | true => cases hs
      | false =>
        have hs : opt (E.fn.get s.f.fn) (fun _ => match c.ret with
          | .run => some (⟨⟨c.fn, c.nt, c.tmps, c.todo, c.defs, .pan v false, c.rnd, c.base⟩, cs, s.h⟩ : S)
          | _ => none) = some s' := hs
        obtain ⟨fn, h1, h2⟩ := opt_some hs
        obtain ⟨k1, _, _⟩ := hE.fn _ _ h1
        obtain ⟨fc, fs', e, Rc, hbc, Rs⟩ := hfs
        subst e
        have hmc := Rc.mode
        cases hcr : c.ret with
        | ret => rw [hcr] at h2; cases h2
        | pan u r => rw [hcr] at h2; cases h2
        | run =>
          rw [hcr] at h2 hmc
          injection h2 with h2; subst h2
          have Rc' : FR E φ s.h s.h.next c fc := FR_mono (ExtB.refl _ φ s.h) hbase Rc
          refine Goes.step (f' := { fc with mode := .panicking [{ v := v', recovered := false }] }) (cs' := fs' ++ cs0) (w1 := w) ?_ ⟨φ, _, fs', w, rfl, hr, ⟨Rc'.fn, Rc'.nt, ⟨v', rfl, hv⟩, Rc'.defs, Rc'.rnd, Rc'.tb⟩, Nat.le_trans hbc hbase, Rs⟩
          rw [hform, hdefs]
          exact m_pop k1 hmc
  | cons d ds =>
    simp only [hd] at hs
    exact def_sound hE hF hr R (Or.inr ⟨v, r, hret⟩) hbase hfs hd hs
end

end
end Go.Proofs.Ytdhnacajgmjmlaa.Ev
