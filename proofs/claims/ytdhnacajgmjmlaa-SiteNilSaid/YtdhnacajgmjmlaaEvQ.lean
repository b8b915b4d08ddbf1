/- An abstract machine, part 16: an operation, a code, a return: steps of the model's. Of no program. -/
import Derived.Test.YtdhnacajgmjmlaaEvO
namespace Go.Proofs.Ytdhnacajgmjmlaa.Ev
open Go.RowKit
noncomputable section
set_option linter.unusedVariables false
set_option linter.unusedSimpArgs false

section
variable {P : Program} {E : Env} {w0 w : World} {φ φ' : Phi} {h h' : H} {tm : Tr AV} {ctm : Array Value} {cs0 : List Frame} {s s' : S} {f : Frame} {fs : List Frame}

theorem wanted_eq {all : Array Oper} {o : Oper} (hg : ∀ g want d, o.guard = some (g, want) → dstS all g = some d → vr φ (cellAt tm .undef d) (ctm.getD d Go.undef)) : wantedA all tm o = Region.wanted o (yielded all ctm) := by
  unfold wantedA Region.wanted
  cases hgu : o.guard with
  | none => rfl
  | some gw =>
    obtain ⟨g, want⟩ := gw
    simp only
    rw [dstOf_eq]
    unfold yielded
    have hd : (all[g]?).bind (·.dst) = dstS all g := rfl
    rw [hd]
    cases hds : dstS all g with
    | none => simp
    | some d =>
      have hv := hg g want d hgu hds
      simp only [Option.bind_some]
      rw [Array.getD_eq_getD_getElem?] at hv
      cases hca : cellAt tm .undef d <;> rw [hca] at hv
      case bool b =>
        cases hc : ctm[d]? with
        | none => rw [hc] at hv; cases hv
        | some v =>
          rw [hc] at hv
          have hv : v = .bool b := hv
          subst hv
          cases b <;> cases want <;> rfl
      all_goals
        have hsh := shp_of hv
        cases hc : ctm[d]? with
        | none => simp
        | some v =>
          rw [hc] at hsh
          simp only [Option.getD_some] at hsh
          cases v <;> first | (cases hsh; done) | simp
theorem aop_defer {c : Call} : aop E tm h (.defer c) = none := by
  unfold aop
  simp only [vop, hop]
  show opt (optMap (aev tm) (Op.defer c).operands.toList) (fun vals => opt (mop E (.defer c) vals) fun p => _) = none
  cases optMap (aev tm) (Op.defer c).operands.toList <;> rfl
/-! rounds -/
def putPL : Tr AV → List Nat → List AV → Tr AV
  | tm, p :: ps, a :: as => putPL (tm.set p (some a)) ps as
  | tm, _, _ => tm
theorem putParams_sound {nt : Nat} : ∀ {ps : List Nat} {args : List AV} {tm : Tr AV} {vs : List Value} {ctm : Array Value} {k : Tr AV → Option S} {r : S}, ctm.size = nt → trel φ tm ctm → vrs φ args vs → putParams nt tm ps args k = some r →
    ps.length = vs.length ∧ ∃ tm', k tm' = some r ∧ ((ps.zip vs).foldl (fun t (p : Nat × Value) => t.setIfInBounds p.1 p.2) ctm).size = nt ∧ trel φ tm' ((ps.zip vs).foldl (fun t (p : Nat × Value) => t.setIfInBounds p.1 p.2) ctm)
  | [], [], tm, vs, ctm, k, r, hn, ht, hv, hk => by
    have hv : vs = [] := hv
    subst hv
    exact ⟨rfl, tm, hk, hn, ht⟩
  | [], a :: as, tm, vs, ctm, k, r, hn, ht, hv, hk => by cases hk
  | p :: ps, [], tm, vs, ctm, k, r, hn, ht, hv, hk => by cases hk
  | p :: ps, a :: as, tm, vs, ctm, k, r, hn, ht, hv, hk => by
    obtain ⟨v, vs', e, h1, h2⟩ := hv
    subst e
    obtain ⟨h3, h4⟩ := ifB_some hk
    have h3 := blt_iff.1 h3
    rw [Tr.setT_eq] at h4
    have ht' : trel φ (tm.set p (some a)) (ctm.setIfInBounds p v) := fun q => by
      rw [cellAt_setT, set_at _ _ _ _ (by omega)]
      by_cases e : q = p
      · rw [if_pos e, if_pos e]; exact h1
      · rw [if_neg e, if_neg e]; exact ht q
    obtain ⟨g1, tm', g2, g3, g4⟩ := putParams_sound (by simpa using hn) ht' h2 h4
    exact ⟨by simp [g1], tm', g2, g3, g4⟩
theorem round_sound (hr : HR w0 φ h w) {l k sz : Nat} {args : List AV} {args' : Array Value} {cs : List AF} (hl : φ l = some (k, sz)) (hv : vrs φ args args'.toList) (he : roundF l args cs h = some s') :
    ∃ a fnn tt asg bd, s' = ⟨a, cs, h⟩ ∧ a.base = h.next ∧ (Instr.yield k args').run P w = .ok (.round k fnn tt asg bd) w ∧ FR E φ h h.next a (Frame.round k fnn tt asg bd .normal) := by
  obtain ⟨ob, h1, h2⟩ := opt_some he
  cases ob <;> first | (cases h2; done) | skip
  rename_i st pd lfn tm nt ps asg body d
  obtain ⟨a, d', sz', g1, g2, g3, g4, g5, g6, g7, g8, g9⟩ := loop_at (P := P) hr h1 hl
  obtain ⟨q1, tm', q2, q3, q4⟩ := putParams_sound (ps := ps.toList) g2 g3 hv h2
  injection q2 with q2
  have hz : ((ps.zip args').foldl (fun t (p : Nat × Value) => t.setIfInBounds p.1 p.2) a) = ((ps.toList.zip args'.toList).foldl (fun t (p : Nat × Value) => t.setIfInBounds p.1 p.2) a) := by
    rw [← Array.foldl_toList, Array.toList_zip]
  refine ⟨_, lfn, ((ps.zip args').foldl (fun t (p : Nat × Value) => t.setIfInBounds p.1 p.2) a), asg, body, q2.symm, rfl, ?_, ?_⟩
  · have hsz : args'.size = ps.size := by simpa using q1.symm
    simp only [Instr.yield, Sem.run_bind, g8, Result.andThen_ok]
    rw [if_neg (by simpa using hsz)]
    rfl
  · rw [hz]
    exact ⟨rfl, q3, rfl, rfl, rfl, ⟨k, ⟨sz, hl⟩, rfl⟩, .plain ⟨_, _, rfl, ⟨rfl, g5⟩, _, _, rfl, rfl, _, _, rfl, ⟨rfl, g6⟩, rfl⟩ q4⟩
/-- an operation -/
theorem opS_sound (hE : EnvOK P E) (hF : FnsOK P E) (hr : HR w0 φ s.h w) (R : FR E φ s.h s.h.next s.f f) (hret : s.f.ret = false) (hbase : s.f.base ≤ s.h.next) (hfs : FRs E φ s.h s.f.base s.cs fs)
    {all : Array Oper} {i : Nat} {idx : List Nat} {is : List Item} {o : Oper} (hft : f.todo = .inRegion all (i :: idx) :: is) (ho : all[i]? = some o) (hops : Ops φ s.f.tmps f.eval o.op.operands.toList)
    (hw : wantedA all s.f.tmps o = Region.wanted o (yielded all f.tmps)) (hs : opS E s all o = some s') : Goes P E w0 cs0 (lone f (fs ++ cs0) w) s' := by
  have hform := R.form hret
  rw [hft] at hform
  unfold opS at hs
  rw [ifB_eq] at hs
  split at hs
  · rename_i hwt
    rw [hw] at hwt
    obtain ⟨r, h1, h2⟩ := opt_some hs
    have hnd : ∀ c, o.op ≠ .defer c := by
      intro c hc
      rw [hc, aop_defer] at h1; cases h1
    have hRS := aop_sound hE hr hops h1
    cases r with
    | val v h' =>
      obtain ⟨n, v', w', φ', g1, g2, g3, g4, g5⟩ := hRS
      have R' : FR E φ' h' h'.next s.f f := FR_mono (g5.b (Nat.le_refl _)) g5.next R
      obtain ⟨a', e1, R2, e2⟩ := finish_sound R' g3 h2
      injection e1 with e1; subst e1
      refine Goes.step (f' := f.finish v') (cs' := fs ++ cs0) (w1 := w') ?_ ⟨φ', _, fs, w', rfl, g4, R2, by show a'.base ≤ h'.next; rw [e2]; exact Nat.le_trans hbase g5.next, by show FRs E φ' h' a'.base s.cs fs; rw [e2]; exact FRs_mono (g5.b hbase) hfs⟩
      rw [hform] at g1 ⊢
      exact m_op ho hwt g1 g2
    | enter g args =>
      obtain ⟨args', g1, g2⟩ := hRS
      obtain ⟨a, e1, e2, Ra⟩ := enter_sound hE hF g2 h2
      subst e1
      refine Goes.step (f' := Frame.enter P g args' .normal) (cs' := f :: (fs ++ cs0)) (w1 := w) ?_ ⟨φ, _, f :: fs, w, rfl, hr, Ra, by show a.base ≤ _; rw [e2]; exact Nat.le_refl _, by show FRs E φ s.h a.base (s.f :: s.cs) (f :: fs); rw [e2]; exact ⟨f, fs, rfl, R, hbase, hfs⟩⟩
      rw [hform] at g1 ⊢
      exact m_enter ho hwt hnd g1
    | round l args =>
      obtain ⟨k, sz, args', g1, g2, g3⟩ := hRS
      obtain ⟨a, fnn, tt, asg, bd, e1, e2, e3, Ra⟩ := round_sound (P := P) (E := E) hr g1 g2 h2
      subst e1
      refine Goes.step (f' := Frame.round k fnn tt asg bd .normal) (cs' := f :: (fs ++ cs0)) (w1 := w) ?_ ⟨φ, _, f :: fs, w, rfl, hr, Ra, by show a.base ≤ _; rw [e2]; exact Nat.le_refl _, by show FRs E φ s.h a.base (s.f :: s.cs) (f :: fs); rw [e2]; exact ⟨f, fs, rfl, R, hbase, hfs⟩⟩
      rw [e3] at g3
      rw [hform] at g3 ⊢
      exact m_round ho hwt hnd g3
  · rename_i hwt
    obtain ⟨a', e1, R2, e2⟩ := finish_sound R vr_undef hs
    injection e1 with e1; subst e1
    refine Goes.step (f' := f.finish Go.undef) (cs' := fs ++ cs0) (w1 := w) ?_ ⟨φ, _, fs, w, rfl, hr, R2, by show a'.base ≤ _; rw [e2]; exact hbase, by show FRs E φ s.h a'.base s.cs fs; rw [e2]; exact hfs⟩
    rw [hform]
    refine m_skipOp ?_
    rw [ho]
    simp only [Option.map_some, Option.getD_some]
    rw [← hw]
    simpa using hwt

/-- a return -/
theorem ret_sound (hE : EnvOK P E) (hr : HR w0 φ s.h w) (R : FR E φ s.h s.h.next s.f f) (hret : s.f.ret = true) (hbase : s.f.base ≤ s.h.next) (hfs : FRs E φ s.h s.f.base s.cs fs) (ht : trel φ s.f.tmps f.tmps) (hp : irels φ s.f.todo f.todo) (hs : retS E s = some s') : Goes P E w0 cs0 (lone f (fs ++ cs0) w) s' := by
  have hform := R.formR hret
  have hdefs := R.defs
  unfold retS at hs
  cases hd : s.f.defs with
  | nil =>
    simp only [hd] at hs hdefs
    have hdefs : f.defers = [] := hdefs
    cases hcs : s.cs with
    | nil => rw [hcs] at hs; cases hs
    | cons c cs =>
      rw [hcs] at hs hfs
      obtain ⟨v, h1, h2⟩ := opt_some hs
      obtain ⟨fn, v', g1, g2, g3⟩ := resOf_sound hE hr R ht h1
      obtain ⟨c2, fs', e, hrel⟩ := pop_sound (cs0 := cs0) hr (ExtB.refl _ φ s.h) hbase hfs g3 h2
      subst e
      refine Goes.step ?_ hrel
      rw [hform, hdefs]
      exact m_ret g1 g2
  | cons b ds =>
    simp only [hd] at hs hdefs
    obtain ⟨k, l', ⟨sz, hb⟩, e, hds⟩ := hdefs
    obtain ⟨ob, h1, h2⟩ := opt_some hs
    cases ob <;> first | (cases h2; done) | skip
    rename_i t
    obtain ⟨o', hk, ho⟩ := hr.obj _ _ k sz h1 hb
    cases t with
    | true => cases h2
    | false =>
      have h2 : putB s.h b (.defr true) (fun h' => some ⟨⟨s.f.fn, s.f.nt, s.f.tmps, s.f.todo, ds, s.f.ret, s.f.rnd, s.f.base⟩, s.cs, h'⟩) = some s' := h2
      rw [putB_eq] at h2
      injection h2 with h2; subst h2
      have ho : o' = .deferred (some []) := ho
      subst ho
      have hlt : k < w.heap.size := (hr.lt _ _ _ hb).1
      have hput := hr.turn (w' := { w with heap := w.heap.setIfInBounds k (.deferred none) }) hb (by rw [show s.h.t.get b = _ from h1]; simp) (o := .defr true) (o' := .deferred none) rfl rfl rfl rfl (by simp) (by simp [hlt]) (fun j hj => by simp [Array.getElem?_setIfInBounds_ne (Ne.symm hj)])
      have hrun : (Instr.takeDeferred k).run P w = .ok [] { w with heap := w.heap.setIfInBounds k (.deferred none) } := by
        simp [Instr.takeDeferred, getObj, setObj, Sem.run, hk]
      refine Goes.step (f' := frR s.f.fn f.tmps f.todo l' f.roundOf) ?_ ⟨φ, _, fs, _, rfl, hput.1, ⟨rfl, R.nt, by rw [hret]; rfl, rfl, hds, R.rnd, .plain hp ht⟩, by simpa [H.put] using hbase, FRs_mono (hput.2.b hbase) hfs⟩
      rw [hform, e]
      exact m_take hrun
end

end
end Go.Proofs.Ytdhnacajgmjmlaa.Ev
