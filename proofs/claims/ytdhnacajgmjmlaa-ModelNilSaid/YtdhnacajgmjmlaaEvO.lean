/- An abstract machine, part 15: its steps are the model's: all but the drawn regions. Of no program. -/
import Derived.Test.YtdhnacajgmjmlaaEvN
namespace Go.Proofs.Ytdhnacajgmjmlaa.Ev
open Go.RowKit
noncomputable section
set_option linter.unusedVariables false
set_option linter.unusedSimpArgs false

section
variable {P : Program} {E : Env} {w0 w : World} {φ φ' : Phi} {h h' : H} {tm : Tr AV} {ctm : Array Value} {cs0 : List Frame} {s s' : S}

/-- the model goes on to a state that stands to s' as it must -/
def Goes (P : Program) (E : Env) (w0 : World) (cs0 : List Frame) (m : Machine) (s' : S) : Prop := ∃ m', Steps P m m' ∧ Rel E w0 cs0 s' m'
theorem Goes.step {f f' : Frame} {cs cs' : List Frame} {w1 : World} (h : SG P f cs w = GO f' cs' w1) (hr : Rel E w0 cs0 s' (lone f' cs' w1)) : Goes P E w0 cs0 (lone f cs w) s' := ⟨_, steps_of h, hr⟩
theorem FR.form {hi : Nat} {a : AF} {f : Frame} (R : FR E φ h hi a f) (hr : a.ret = .run) : f = fr f.kind a.fn f.tmps f.todo f.defers f.roundOf := by
  obtain ⟨cfn, ct, ctodo, cd, cm, ck, cr⟩ := f
  obtain ⟨r1, r2, r3, r5, r6, r7⟩ := R
  simp only at r1 r3
  rw [hr] at r3
  have r3 : cm = .run := r3
  subst r1 r3
  rfl
theorem FR.formR {hi : Nat} {a : AF} {f : Frame} (R : FR E φ h hi a f) (hr : a.ret = .ret) : f = frR f.kind a.fn f.tmps f.todo f.defers f.roundOf := by
  obtain ⟨cfn, ct, ctodo, cd, cm, ck, cr⟩ := f
  obtain ⟨r1, r2, r3, r5, r6, r7⟩ := R
  simp only at r1 r3
  rw [hr] at r3
  have r3 : cm = .returning := r3
  subst r1 r3
  rfl
theorem FR.formP {hi : Nat} {a : AF} {f : Frame} {v : AV} {r : Bool} (R : FR E φ h hi a f) (hr : a.ret = .pan v r) : ∃ v', vr φ v v' ∧ f = frP [{ v := v', recovered := r }] f.kind a.fn f.tmps f.todo f.defers f.roundOf := by
  obtain ⟨cfn, ct, ctodo, cd, cm, ck, cr⟩ := f
  obtain ⟨r1, r2, r3, r5, r6, r7⟩ := R
  simp only at r1 r3
  rw [hr] at r3
  obtain ⟨v', r3, hv⟩ := r3
  subst r1 r3
  exact ⟨v', hv, rfl⟩
/-- another todo -/
theorem FR.todo {hi : Nat} {a : AF} {f : Frame} (R : FR E φ h hi a f) (hr : a.ret = .run) {k : List AI} {k' : List Item} (hk : irels φ k k') (ht : trel φ a.tmps f.tmps) : FR E φ h hi (ftodo a k) (fr f.kind a.fn f.tmps k' f.defers f.roundOf) :=
  ⟨rfl, R.nt, by show modeR φ a.ret .run; rw [hr]; rfl, R.defs, R.rnd, .plain hk ht⟩
theorem TB.trel {lo hi : Nat} {todo : List AI} {todo' : List Item} (t : TB E φ h lo hi tm ctm todo todo') (hn : ∀ all lst pend cur k, todo ≠ .draw all lst pend cur :: k) : irels φ todo todo' ∧ trel φ tm ctm := by
  cases t with
  | plain h1 h2 => exact ⟨h1, h2⟩
  | draw h1 h2 h3 => exact absurd rfl (hn _ _ _ _ _)
  | wait h1 h2 h3 h4 h5 h6 => exact absurd rfl (hn _ _ _ _ _)

/-! ### a frame is entered -/
def putL : Tr AV → Nat → List AV → Tr AV
  | tm, _, [] => tm
  | tm, i, a :: as => putL (tm.set i (some a)) (i + 1) as
theorem putArgs_eq : ∀ (args : List AV) (tm : Tr AV) (i : Nat) (k : Tr AV → Nat → Option S), putArgs tm i args k = k (putL tm i args) (i + args.length)
  | [], tm, i, k => rfl
  | a :: as, tm, i, k => by
    have e : putArgs tm i (a :: as) k = tm.setT i (some a) fun tm' => seqN (Nat.succ i) fun i' => putArgs tm' i' as k := rfl
    rw [e, Tr.setT_eq, seqN_eq, putArgs_eq as]
    simp only [putL, List.length_cons]
    rw [show i + (as.length + 1) = i + 1 + as.length by omega]
theorem cellAt_putL : ∀ (args : List AV) (tm : Tr AV) (i q : Nat), cellAt (putL tm i args) .undef q = if i ≤ q ∧ q < i + args.length then (args[q - i]?).getD .undef else cellAt tm .undef q
  | [], tm, i, q => by simp [putL]; intro h1 h2; omega
  | a :: as, tm, i, q => by
    rw [putL, cellAt_putL as, cellAt_setT]
    by_cases h1 : i + 1 ≤ q ∧ q < i + 1 + as.length
    · rw [if_pos h1, if_pos (by simp; omega)]
      obtain ⟨j, rfl⟩ : ∃ j, q = i + 1 + j := ⟨q - (i + 1), by omega⟩
      rw [show i + 1 + j - (i + 1) = j by omega, show i + 1 + j - i = j + 1 by omega, List.getElem?_cons_succ]
    · rw [if_neg h1]
      by_cases h2 : q = i
      · subst h2; rw [if_pos rfl, if_pos (by simp)]; simp
      · rw [if_neg h2, if_neg (by simp; omega)]
theorem enter_sound0 (hE : EnvOK P E) (hF : FnsOK P E) {g : Nat} {args : List AV} {args' : Array Value} {cs : List AF} (hv : vrs φ args args'.toList) (he : enterF E g args cs h = some s') :
    ∃ a, s' = ⟨a, cs, h⟩ ∧ a.base = h.next ∧ FR E φ h h.next a (Frame.enter P g args' .normal) ∧ a.rnd = .norm := by
  obtain ⟨fn, h1, h2⟩ := opt_some he
  obtain ⟨body, h3, h4⟩ := opt_some h2
  rw [putArgs_eq, seqN_eq] at h4
  injection h4 with h4
  obtain ⟨k1, k2, k3⟩ := hE.fn _ _ h1
  have hlen := vrs_length hv
  have hcode := hF.code _ _ h1
  rw [h3] at hcode
  refine ⟨_, h4.symm, rfl, ?_, rfl⟩
  have hent : Frame.enter P g args' .normal = fr .normal g (args' ++ Array.replicate (fn.ntmps - args'.size) Go.undef) [.code body] [] none := by
    simp [Frame.enter, fr, k1, h3]
  rw [hent]
  refine ⟨rfl, ?_, rfl, rfl, ⟨rfl, rfl⟩, .plain ⟨_, _, rfl, ⟨rfl, hcode⟩, rfl⟩ fun q => ?_⟩
  · simp [fr]
    have : args.length = args'.size := by simpa using hlen
    rw [this]
  · show vr φ (cellAt (putL .e 0 args) .undef q) ((args' ++ Array.replicate (fn.ntmps - args'.size) Go.undef).getD q Go.undef)
    rw [cellAt_putL]
    by_cases hq : 0 ≤ q ∧ q < 0 + args.length
    · rw [if_pos hq]
      obtain ⟨x, hx⟩ : ∃ x, args[q]? = some x := ⟨args[q]'(by omega), by rw [List.getElem?_eq_getElem]⟩
      obtain ⟨v, hv1, hv2⟩ := vrs_get hv hx
      have hq2 : q < args'.size := by simp at hlen; omega
      have e1 : (args' ++ Array.replicate (fn.ntmps - args'.size) Go.undef).getD q Go.undef = v := by
        rw [Array.getD_eq_getD_getElem?, Array.getElem?_append_left hq2]
        rw [Array.getElem?_toList] at hv1
        rw [hv1]; rfl
      rw [e1, Nat.sub_zero, hx]; exact hv2
    · rw [if_neg hq]
      have hq2 : args'.size ≤ q := by simp at hlen; omega
      have e1 : (args' ++ Array.replicate (fn.ntmps - args'.size) Go.undef).getD q Go.undef = Go.undef := by
        rw [Array.getD_eq_getD_getElem?, Array.getElem?_append_right hq2]
        simp only [Array.getElem?_replicate]
        split <;> rfl
      rw [e1]
      exact vr_undef

theorem enter_sound (hE : EnvOK P E) (hF : FnsOK P E) {g : Nat} {args : List AV} {args' : Array Value} {cs : List AF} (hv : vrs φ args args'.toList) (he : enterF E g args cs h = some s') :
    ∃ a, s' = ⟨a, cs, h⟩ ∧ a.base = h.next ∧ FR E φ h h.next a (Frame.enter P g args' .normal) := by
  obtain ⟨a, h1, h2, h3, _⟩ := enter_sound0 hE hF hv he
  exact ⟨a, h1, h2, h3⟩
/-- a deferred call begins -/
theorem enter_soundD (hE : EnvOK P E) (hF : FnsOK P E) {g : Nat} {args : List AV} {args' : Array Value} {cs : List AF} (hv : vrs φ args args'.toList) (he : enterF E g args cs h = some s') :
    ∃ a, setDk s' = ⟨a, cs, h⟩ ∧ a.base = h.next ∧ FR E φ h h.next a (Frame.enter P g args' .deferred) := by
  obtain ⟨a, h1, h2, R, h4⟩ := enter_sound0 hE hF hv he
  subst h1
  exact ⟨_, rfl, h2, ⟨R.fn, R.nt, R.mode, R.defs, ⟨rfl, rfl⟩, R.tb⟩⟩
/-! ### loops over functions -/
theorem loop_at (hr : HR w0 φ h w) {b k sz : Nat} {st : LoopState} {pd : Option Code} {fn nt d : Nat} {t : Tr AV} {ps : Array Tmp} {as bd : Code} (hl : h.t.get b = some (.loop st pd fn t nt ps as bd d)) (hb : φ b = some (k, sz)) :
    ∃ a d' sz', w.heap[k]? = some (.loop { state := st, pending := pd, fn := fn, tmps := a, params := ps, assign := as, body := bd, defers := d' }) ∧ a.size = nt ∧ trel φ t a ∧ φ d = some (d', sz') ∧ codeOK as = true ∧ codeOK bd = true ∧ jumpOK pd = true ∧
      (Instr.getLoop k).run P w = .ok { state := st, pending := pd, fn := fn, tmps := a, params := ps, assign := as, body := bd, defers := d' } w ∧
      (∀ st' pd', jumpOK pd' = true → (setObj k (.loop { state := st', pending := pd', fn := fn, tmps := a, params := ps, assign := as, body := bd, defers := d' })).run P w = .ok () { w with heap := w.heap.setIfInBounds k (.loop { state := st', pending := pd', fn := fn, tmps := a, params := ps, assign := as, body := bd, defers := d' }) } ∧
        HR w0 φ (h.put b (some (.loop st' pd' fn t nt ps as bd d))) { w with heap := w.heap.setIfInBounds k (.loop { state := st', pending := pd', fn := fn, tmps := a, params := ps, assign := as, body := bd, defers := d' }) } ∧ Ext φ h φ (h.put b (some (.loop st' pd' fn t nt ps as bd d)))) := by
  obtain ⟨o', hk, a, d', sz', ho, h1, h2, h3, h4, h5, h6⟩ := hr.obj _ _ k sz hl hb
  subst ho
  refine ⟨a, d', sz', hk, h1, h2, h3, h4, h5, h6, ?_, fun st' pd' hpd => ?_⟩
  · simp [Instr.getLoop, getObj, Sem.run, hk]
  · have hlt : k < w.heap.size := (hr.lt _ _ _ hb).1
    refine ⟨by simp [setObj, Sem.run, hk], ?_⟩
    exact hr.turn hb (by rw [hl]; simp) ⟨a, d', sz', rfl, h1, h2, h3, h4, h5, hpd⟩ rfl rfl rfl (by simp) (by simp [hlt]) (fun j hj => by simp [Array.getElem?_setIfInBounds_ne (Ne.symm hj)])

/-- the callers go on standing, and one of them goes on -/
theorem pop_sound {base : Nat} {cs : List AF} {c : AF} {fs : List Frame} {v : AV} {v' : Value} (hr : HR w0 φ' h' w) (he : ExtB base φ h φ' h') (hb : base ≤ h'.next) (hfs : FRs E φ h base (c :: cs) fs) (hv : vr φ' v v') (hfin : finishF c v (fun c' => some ⟨c', cs, h'⟩) = some s') :
    ∃ f fs', fs = f :: fs' ∧ Rel E w0 cs0 s' (lone (f.finish v') (fs' ++ cs0) w) := by
  obtain ⟨f, fs', e, R, hbase, Rs⟩ := hfs
  have R' := FR_mono he (Nat.le_refl _) R
  obtain ⟨a', e1, R2, e2⟩ := finish_sound R' hv hfin
  injection e1 with e1
  subst e1
  refine ⟨f, fs', e, φ', _, fs', w, rfl, hr, ?_, by show a'.base ≤ h'.next; rw [e2]; exact Nat.le_trans hbase hb, ?_⟩
  · have hh : ExtB base φ' h' φ' h' := ExtB.refl _ _ _
    exact FR_mono hh hb R2
  · show FRs E φ' h' a'.base cs fs'
    rw [e2]
    exact FRs_mono (he.mono hbase) Rs

theorem exitA_sound {id : Nat} : ∀ {k : List AI} {k' : List Item}, irels φ k k' → (∀ r, exitA id k = some r → ∃ r', exitTo id k' = some r' ∧ irels φ r r') ∧ (exitA id k = none → exitTo id k' = none)
  | [], k', hk => by have hk : k' = [] := hk; subst hk; exact ⟨fun r h => (by cases h), fun _ => rfl⟩
  | x :: k, k', hk => by
    obtain ⟨i, is, e, hx, hk⟩ := hk
    subst e
    have ih := exitA_sound (id := id) hk
    cases x with
    | inBlock id' =>
      have hx : i = .inBlock id' := hx
      subst hx
      have e1 : exitA id (.inBlock id' :: k) = ifB (Nat.beq id' id) (some k) (exitA id k) := rfl
      have e2 : exitTo id (.inBlock id' :: is) = if id' == id then some is else exitTo id is := by rw [exitTo]
      rw [e1, e2, ifB_eq]
      by_cases hq : id' = id
      · subst hq
        simp
        exact hk
      · have hq1 : ¬ (Nat.beq id' id = true) := fun hc => hq (Nat.eq_of_beq_eq_true hc)
        rw [if_neg hq1, if_neg (by simpa using hq)]
        exact ih
    | code c => obtain ⟨e, _⟩ := hx; subst e; exact ih
    | inLoop c => obtain ⟨e, _⟩ := hx; subst e; exact ih
    | inScope c => obtain ⟨e, _⟩ := hx; subst e; exact ih
    | ops all rest => obtain ⟨idx, e, _⟩ := hx; subst e; exact ih
    | draw => exact hx.elim
    | inRange l => obtain ⟨l', _, e⟩ := hx; subst e; exact ih
    | endRange l => obtain ⟨l', _, e⟩ := hx; subst e; exact ih
    | begin => have hx : i = .beginRound := hx; subst hx; exact ih

/-! ### the steps -/
theorem leave_sound (hr : HR w0 φ s.h w) {f : Frame} {fs : List Frame} (R : FR E φ s.h s.h.next s.f f) (hret : s.f.ret = .run) (hbase : s.f.base ≤ s.h.next) (hfs : FRs E φ s.h s.f.base s.cs fs) {k : List AI} {k' : List Item} (hk : irels φ k k') (ht : trel φ s.f.tmps f.tmps)
    {j : Option Code} (hj : (j = none ∧ s.f.todo = [] ∧ f.todo = []) ∨ (j = some .ret ∧ f.todo = .code .ret :: k' ∧ s.f.todo = .code .ret :: k) ∨ ∃ id, j = some (.exit id) ∧ f.todo = .code (.exit id) :: k' ∧ s.f.todo = .code (.exit id) :: k ∧ exitTo id k' = none)
    (hs : leaveS s j = some s') : Goes P E w0 cs0 (lone f (fs ++ cs0) w) s' := by
  have hform := R.form hret
  have hrnd := R.rnd
  unfold leaveS at hs
  have calm : f.roundOf = none → leaveN s j = some s' → Goes P E w0 cs0 (lone f (fs ++ cs0) w) s' := by
    intro hrnd0 hs
    unfold leaveN at hs
    have hitems : irels φ s.f.todo f.todo := by
      rcases hj with ⟨_, h1, h2⟩ | ⟨_, h1, h2⟩ | ⟨id, _, h1, h2, _⟩
      · rw [h1, h2]; rfl
      · rw [h1, h2]; exact ⟨_, _, rfl, ⟨rfl, rfl⟩, hk⟩
      · rw [h1, h2]; exact ⟨_, _, rfl, ⟨rfl, rfl⟩, hk⟩
    have hnew : ∀ (f2 : Frame), f2 = frR f.kind s.f.fn f.tmps f.todo f.defers f.roundOf → Rel E w0 cs0 ⟨⟨s.f.fn, s.f.nt, s.f.tmps, s.f.todo, s.f.defs, .ret, s.f.rnd, s.f.base⟩, s.cs, s.h⟩ (lone f2 (fs ++ cs0) w) := by
      rintro f2 rfl
      exact ⟨φ, _, fs, w, rfl, hr, ⟨rfl, R.nt, rfl, R.defs, R.rnd, .plain hitems ht⟩, hbase, hfs⟩
    rw [hrnd0] at hnew
    rw [hrnd0] at hform
    rcases hj with ⟨rfl, h1, h2⟩ | ⟨rfl, h1, h2⟩ | ⟨id, rfl, h1, h2, h3⟩
    · injection hs with hs; subst hs
      refine Goes.step (f' := frR f.kind s.f.fn f.tmps f.todo f.defers none) ?_ (hnew _ rfl)
      rw [hform, h2]
      exact m_leave_nil
    · injection hs with hs; subst hs
      refine Goes.step (f' := frR f.kind s.f.fn f.tmps f.todo f.defers none) ?_ (hnew _ rfl)
      rw [hform, h1]
      exact m_leave_ret
    · cases hs
  cases hr0 : s.f.rnd with
  | norm =>
    rw [hr0] at hs hrnd
    exact calm hrnd.2 hs
  | dfr =>
    rw [hr0] at hs hrnd
    exact calm hrnd.2 hs
  | round l =>
    simp only [hr0] at hs hrnd
    obtain ⟨hkn, l', ⟨sz, hl⟩, hcr⟩ := hrnd
    rw [hkn] at hform
    obtain ⟨ob, h1, h2⟩ := opt_some hs
    cases ob <;> first | (cases h2; done) | skip
    rename_i st pd lfn tm nt ps asg body d
    obtain ⟨a, d', sz', g1, g2, g3, g4, g5, g6, g7, g8, g9⟩ := loop_at (P := P) hr h1 hl
    cases hcs : s.cs with
    | nil => rw [hcs] at h2; cases h2
    | cons c cs =>
      rw [hcs] at h2 hfs
      have fin : ∀ (st' : LoopState) (bb : Bool), jumpOK j = true → putB s.h l (.loop st' j lfn tm nt ps asg body d) (fun h' => finishF c (.bool bb) fun c' => some ⟨c', cs, h'⟩) = some s' →
          (∀ (c2 : Frame) (cs2 : List Frame), (∀ w2, (Instr.endRound l' j).run P w = .ok (.bool bb) w2 → SG P f (c2 :: cs2) w = GO (c2.finish (.bool bb)) cs2 w2)) →
          (Instr.endRound l' j).run P w = .ok (.bool bb) { w with heap := w.heap.setIfInBounds l' (.loop { state := st', pending := j, fn := lfn, tmps := a, params := ps, assign := asg, body := body, defers := d' }) } → Goes P E w0 cs0 (lone f (fs ++ cs0) w) s' := by
        intro st' bb hjo hp hsg hrun
        rw [putB_eq] at hp
        obtain ⟨q1, q2, q3⟩ := g9 st' j hjo
        obtain ⟨c2, fs', e, hrel⟩ := pop_sound (cs0 := cs0) (v := .bool bb) (v' := .bool bb) q2 (q3.b hbase) (by simp [H.put]; exact hbase) hfs rfl hp
        subst e
        exact Goes.step (hsg c2 (fs' ++ cs0) _ hrun) hrel
      rcases hj with ⟨rfl, j1, j2⟩ | ⟨rfl, j1, j2⟩ | ⟨id, rfl, j1, j2, j3⟩
      · refine fin .ready true rfl h2 (fun c2 cs2 w2 hrun => ?_) ?_
        · rw [hform, j2, hcr]; exact m_round_nil hrun
        · simp only [Instr.endRound, Sem.run_bind, g8, Result.andThen_ok, Option.isNone_none, if_true]
          rw [(g9 .ready none rfl).1]; rfl
      · refine fin .done false rfl h2 (fun c2 cs2 w2 hrun => ?_) ?_
        · rw [hform, j1, hcr]; exact m_round_ret hrun
        · simp only [Instr.endRound, Sem.run_bind, g8, Result.andThen_ok, Option.isNone_some, Bool.false_eq_true, if_false]
          rw [(g9 .done (some .ret) rfl).1]; rfl
      · refine fin .done false rfl h2 (fun c2 cs2 w2 hrun => ?_) ?_
        · rw [hform, j1, hcr]; exact m_round_exit j3 hrun
        · simp only [Instr.endRound, Sem.run_bind, g8, Result.andThen_ok, Option.isNone_some, Bool.false_eq_true, if_false]
          rw [(g9 .done (some (.exit id)) rfl).1]; rfl
/-- results -/
def resF (ctm : Array Value) (r : ResultVar) : Sem Value := match r with
  | .tmp t => pure (ctm.getD t Go.undef)
  | .cell a t => do loadVar t (← asAddr (ctm.getD a Go.undef))
theorem results_eq (fn : Func) (ctm : Array Value) : results fn ctm = (do
    let vs ← fn.results.mapM (resF ctm)
    pure (if h : vs.size = 1 then vs[0] else .tuple vs)) := by
  unfold results
  congr 1
theorem resVals_sound (hE : EnvOK P E) (hr : HR w0 φ h w) (ht : trel φ tm ctm) : ∀ {rs : List ResultVar} {l : List AV}, resVals E tm h rs = some l →
    ∃ vs : List Value, (rs.mapM (resF ctm)).run P w = .ok vs w ∧ vrs φ l vs
  | [], l, hv => by injection hv with hv; subst hv; exact ⟨[], by simp, rfl⟩
  | r :: rs, l, hv => by
    cases r with
    | tmp t =>
      obtain ⟨l', h1, h2⟩ := opt_some hv
      injection h2 with h2; subst h2
      obtain ⟨vs, g1, g2⟩ := resVals_sound hE hr ht h1
      exact ⟨ctm.getD t Go.undef :: vs, by simp only [List.mapM_cons, Sem.run_bind, resF, Sem.run_pure, Result.andThen_ok, g1], ⟨_, _, rfl, ht t, g2⟩⟩
    | cell a t =>
      obtain ⟨ti, h1, h2⟩ := opt_some hv
      have ha := ht a
      cases hca : cellAt tm .undef a <;> rw [hca] at h2 ha <;> first | (cases h2; done) | skip
      rename_i b off
      obtain ⟨v, h3, h4⟩ := opt_some h2
      obtain ⟨l', h5, h6⟩ := opt_some h4
      injection h6 with h6; subst h6
      obtain ⟨k, sz, hb, hc⟩ := ha
      obtain ⟨v', g3, g4⟩ := loadAt_sound (hE.ty _ _ h1) hr hb h3
      obtain ⟨vs, g1, g2⟩ := resVals_sound hE hr ht h5
      refine ⟨v' :: vs, ?_, ⟨_, _, rfl, g4, g2⟩⟩
      have hc' : ctm.getD a Go.undef = .pointer (some ⟨k, off, none⟩) := hc
      have hrf : (resF ctm (.cell a t)).run P w = .ok v' w := by simp only [resF, Sem.run_bind, hc', asAddr, Sem.run_pure, Result.andThen_ok, g3]
      simp only [List.mapM_cons, Sem.run_bind, hrf, Sem.run_pure, Result.andThen_ok, g1]
theorem resOf_sound (hE : EnvOK P E) (hr : HR w0 φ s.h w) {f : Frame} (R : FR E φ s.h s.h.next s.f f) (ht : trel φ s.f.tmps f.tmps) {v : AV} (hv : resOf E s = some v) :
    ∃ fn v', P.funcs[s.f.fn]? = some fn ∧ (results fn f.tmps).run P w = .ok v' w ∧ vr φ v v' := by
  obtain ⟨fn, h1, h2⟩ := opt_some hv
  obtain ⟨l, h3, h4⟩ := opt_some h2
  obtain ⟨k1, _, _⟩ := hE.fn _ _ h1
  obtain ⟨vs, g1, g2⟩ := resVals_sound (P := P) hE hr ht h3
  have hrun : (results fn f.tmps).run P w = .ok (if h : vs.toArray.size = 1 then vs.toArray[0] else .tuple vs.toArray) w := by
    rw [results_eq, Array.mapM_eq_mapM_toList]
    simp only [Sem.run_bind, Sem.run_map, g1, Result.andThen_ok, Sem.run_pure]
  refine ⟨fn, _, k1, hrun, ?_⟩
  cases l with
  | nil =>
    have g2 : vs = [] := g2
    subst g2
    injection h4 with h4; subst h4
    exact ⟨#[], rfl, rfl⟩
  | cons a l =>
    obtain ⟨u, us, e, g3, g4⟩ := g2
    subst e
    cases l with
    | nil =>
      have g4 : us = [] := g4
      subst g4
      injection h4 with h4; subst h4
      simpa using g3
    | cons b l =>
      obtain ⟨u2, us2, e, g5, g6⟩ := g4
      subst e
      injection h4 with h4; subst h4
      exact ⟨_, by simp, ⟨_, _, rfl, g3, _, _, rfl, g5, g6⟩⟩
end
end
end Go.Proofs.Ytdhnacajgmjmlaa.Ev
