/- An abstract machine, part 17: codes; the orders that are drawn. Of no program. -/
import Derived.Test.YtdhnacajgmjmlaaEvQ
namespace Go.Proofs.Ytdhnacajgmjmlaa.Ev
open Go.RowKit
noncomputable section
set_option linter.unusedVariables false
set_option linter.unusedSimpArgs false

/-! ### schedules -/
theorem binds_any (e : Edge) : Region.binds .any e = bindsA e := by unfold Region.binds bindsA; cases e.ground <;> rfl
def clOf (l : Array Bool) (i : Nat) : Bool := l.getD i false
theorem ready_iff {all : Array Oper} {l : Array Bool} (hl : l.size = all.size) (i : Nat) : Ready all (clOf l) i ↔ i ∈ Region.ready .any all l := by
  rw [mem_ready]
  unfold Ready clOf
  constructor
  · rintro ⟨o, ho, hc, he⟩
    have hi : i < l.size := by rw [hl]; exact (Array.getElem?_eq_some_iff.1 ho).1
    refine ⟨?_, o, ho, fun e hm hb => he e (by simpa using hm) (by rw [← binds_any]; exact hb)⟩
    simp [hi] at hc ⊢; exact hc
  · rintro ⟨hc, o, ho, he⟩
    have hi : i < l.size := by rw [hl]; exact (Array.getElem?_eq_some_iff.1 ho).1
    refine ⟨o, ho, ?_, fun e hm hb => he e (by simpa using hm) (by rw [binds_any]; exact hb)⟩
    simp [hi] at hc ⊢; exact hc
theorem upd_set {l : Array Bool} {i : Nat} (hi : i < l.size) : clOf (l.setIfInBounds i true) = upd (clOf l) i := by
  funext x
  unfold clOf upd
  by_cases e : x = i
  · subst e; simp [hi]
  · rw [if_neg e]; simp [Array.getD_eq_getD_getElem?, Array.getElem?_setIfInBounds_ne (Ne.symm e)]
theorem sched_go {all : Array Oper} : ∀ (fuel t : Nat) (l : Array Bool), l.size = all.size → l.toList.count false ≤ fuel → Sched all (clOf l) (Region.linearise.go .any all fuel t l []) := by
  intro fuel
  induction fuel with
  | zero =>
    intro t l hl hc i hr
    obtain ⟨o, ho, hci, _⟩ := hr
    have hi : i < l.size := by rw [hl]; exact (Array.getElem?_eq_some_iff.1 ho).1
    have h0 : l.toList.count false = 0 := by omega
    have : false ∉ l.toList := List.count_eq_zero.1 h0
    unfold clOf at hci
    simp [hi] at hci
    exact this (by rw [← hci]; simp)
  | succ fuel ih =>
    intro t l hl hc
    simp only [Region.linearise.go]
    change Sched all (clOf l) (match (Region.ready .any all l)[t % (Region.ready .any all l).length]? with
      | some i => Region.linearise.go .any all fuel (t / (Region.ready .any all l).length) (l.setIfInBounds i true) [i]
      | none => [].reverse)
    cases hi : (Region.ready .any all l)[t % (Region.ready .any all l).length]? with
    | none =>
      have hnil : Region.ready .any all l = [] := by
        cases hr : Region.ready .any all l with
        | nil => rfl
        | cons x xs =>
          rw [hr] at hi
          have hlt : t % (x :: xs).length < (x :: xs).length := Nat.mod_lt _ (by simp)
          simp at hi
          simp at hlt
          omega
      intro i hri
      have := (ready_iff hl i).1 hri
      rw [hnil] at this
      cases this
    | some i =>
      simp only []
      rw [linearise_go_acc, List.reverse_singleton, List.singleton_append]
      have hmem := List.mem_of_getElem? hi
      have hri := (ready_iff hl i).2 hmem
      have hil : i < l.size := by rw [hl]; exact hri.lt
      have hci : l[i] = false := by
        obtain ⟨o, ho, hci, _⟩ := hri
        unfold clOf at hci
        simpa [hil] using hci
      refine ⟨hri, ?_⟩
      rw [← upd_set hil]
      refine ih _ _ (by simpa using hl) ?_
      rw [Array.toList_setIfInBounds, List.count_set (by simpa using hil)]
      simp [hci]
      have : 0 < l.toList.count false := List.count_pos_iff.2 (by rw [← hci]; simp)
      simp at this hc
      omega
theorem sched_start {P : Program} {all : Array Oper} (hm : P.follows .mixedOrders = true) (t : Nat) : Sched all (fun _ => false) (Region.schedule (P.follows .mixedOrders) all t) := by
  have h1 : Region.schedule (P.follows .mixedOrders) all t = Region.linearise.go .any all all.size t (Array.replicate all.size false) [] := by
    simp only [Region.schedule, hm, Bool.true_or, if_true]
    rfl
  have h2 : clOf (Array.replicate all.size false) = fun _ => false := by
    funext i
    unfold clOf
    rw [Array.getD_eq_getD_getElem?, Array.getElem?_replicate]
    split <;> rfl
  rw [h1, ← h2]
  exact sched_go _ _ _ (by simp) (by simp)

section
variable {P : Program} {E : Env} {w0 w : World} {φ φ' : Phi} {h h' : H} {tm : Tr AV} {ctm : Array Value} {cs0 : List Frame} {s s' : S} {f : Frame} {fs : List Frame}

/-- a loop over a function begins -/
theorem range_sound (hE : EnvOK P E) (hF : FnsOK P E) (hr : HR w0 φ s.h w) (R : FR E φ s.h s.h.next s.f f) (hret : s.f.ret = .run) (hbase : s.f.base ≤ s.h.next) (hfs : FRs E φ s.h s.f.base s.cs fs) {fo : Operand} {ps : Array Tmp} {asg bd : Code} {k : List AI} {k' : List Item}
    (hft : f.todo = .code (.rangeFunc fo ps asg bd) :: k') (hk : irels φ k k') (ht : trel φ s.f.tmps f.tmps) (hc1 : codeOK asg = true) (hc2 : codeOK bd = true) (hs : rangeS E s fo ps asg bd k = some s') : Goes P E w0 cs0 (lone f (fs ++ cs0) w) s' := by
  obtain ⟨kd, T, D, r0, rfl⟩ : ∃ kd T D r0, f = fr kd s.f.fn T (.code (.rangeFunc fo ps asg bd) :: k') D r0 := ⟨f.kind, f.tmps, f.defers, f.roundOf, by have := R.form hret; rw [hft] at this; exact this⟩
  have ht : trel φ s.f.tmps T := ht
  have hnt : T.size = s.f.nt := R.nt
  have hdf : drels φ s.f.defs D := R.defs
  have hrr : rndR φ s.f.rnd kd r0 := R.rnd
  obtain ⟨fv, h1, h2⟩ := opt_some hs
  have hfo := ops_of_trel (f := fr kd s.f.fn T (.code (.rangeFunc fo ps asg bd) :: k') D r0) ht rfl [fo] fo (by simp) _ h1
  cases fv <;> first | (cases h2; done) | skip
  rename_i g fi ca
  obtain ⟨fi', ca', hfv, hfi, hca⟩ := hfo
  have hinv : ∀ (l : Nat) (mark : List Deferred) (w1 : World) (fn : Func), E.fn.get g = some fn → (do let d ← resolve (fr kd s.f.fn T (.inRangeFunc l :: k') (mark ++ D) r0).eval { callee := .value fo, args := #[.const (.func (.yield l) #[] #[])], argTypes := #[] } 0; invoke d.target d.args : Sem Next).run P w1 = .ok (.enter g (fi' ++ #[.func (.yield l) #[] #[]] ++ ca')) w1 := by
    intro l mark w1 fn hfn
    obtain ⟨k1, k2, k3⟩ := hE.fn _ _ hfn
    have hev : (fr kd s.f.fn T (.inRangeFunc l :: k') (mark ++ D) r0).eval fo = .func (.func g) fi' ca' := by
      rw [← hfv]
      cases fo <;> simp [Frame.eval, fr]
    have k2' : fn.name ≠ "runtime.NumGoroutine" := by simpa using k2
    have k3' : fn.body ≠ none := by intro hn; rw [hn] at k3; cases k3
    simp only [resolve, hev, Deferred.ofValue]
    simp [invoke, callFunc, program, Sem.run, k1, k2', k3', Frame.eval]
  -- the loop's object is there; the function is entered
  have fin : ∀ (φ1 : Phi) (h1 : H) (w1 : World) (d dk dsz : Nat) (ds : List AD) (mark : List Deferred), HR w0 φ1 h1 w1 → Ext φ s.h φ1 h1 → φ1 d = some (dk, dsz) → drels φ1 ds (mark ++ D) →
      enterF E g (fi ++ (.yield h1.next :: ca)) (⟨s.f.fn, s.f.nt, s.f.tmps, .inRange h1.next :: k, ds, s.f.ret, s.f.rnd, s.f.base⟩ :: s.cs) (h1.add (.loop .ready none s.f.fn s.f.tmps s.f.nt ps asg bd d)) = some s' →
      (Instr.enterLoop s.f.fn T ps asg bd r0).run P w = .ok (w1.heap.size, mark) { w1 with heap := w1.heap.push (.loop { state := .ready, pending := none, fn := s.f.fn, tmps := T, params := ps, assign := asg, body := bd, defers := dk }) } →
      Goes P E w0 cs0 (lone (fr kd s.f.fn T (.code (.rangeFunc fo ps asg bd) :: k') D r0) (fs ++ cs0) w) s' := by
    intro φ1 hh1 w1 d dk dsz ds mark hr1 he1 hd hds hent hrun
    have ho2 : orel (φ1.more hh1.next w1.heap.size 0) 0 (.loop .ready none s.f.fn s.f.tmps s.f.nt ps asg bd d) (.loop { state := .ready, pending := none, fn := s.f.fn, tmps := T, params := ps, assign := asg, body := bd, defers := dk }) :=
      ⟨T, dk, dsz, rfl, hnt, trel_mono (he1.sub.trans (hr1.sub _ _)) ht, hr1.sub _ _ _ _ hd, hc1, hc2, rfl⟩
    have hadd2 := hr1.add (sz := 0) ho2
    have hext := he1.trans hadd2.2
    have hl2 : (φ1.more hh1.next w1.heap.size 0) hh1.next = some (w1.heap.size, 0) := Phi.more_same _ _ _ _
    obtain ⟨fn, hfn, _⟩ := opt_some hent
    obtain ⟨a, e1, e2, Ra⟩ := enter_sound hE hF (φ := φ1.more hh1.next w1.heap.size 0) (args' := fi' ++ #[.func (.yield w1.heap.size) #[] #[]] ++ ca') (by
      simp only [Array.toList_append, List.append_assoc]
      exact vrs_append (vrs_mono hext.sub _ _ hfi) ⟨_, _, rfl, ⟨w1.heap.size, 0, hl2, rfl⟩, vrs_mono hext.sub _ _ hca⟩) hent
    subst e1
    refine Goes.step (f' := Frame.enter P g (fi' ++ #[.func (.yield w1.heap.size) #[] #[]] ++ ca') .normal)
      (cs' := fr kd s.f.fn T (.inRangeFunc w1.heap.size :: k') (mark ++ D) r0 :: (fs ++ cs0)) (w1 := { w1 with heap := w1.heap.push (.loop { state := .ready, pending := none, fn := s.f.fn, tmps := T, params := ps, assign := asg, body := bd, defers := dk }) }) (m_range hrun (hinv _ _ _ fn hfn)) ?_
    refine ⟨_, _, _ :: fs, _, rfl, hadd2.1, Ra, by rw [e2]; exact Nat.le_refl _, ?_⟩
    rw [e2]
    refine ⟨_, fs, rfl, ⟨rfl, hnt, by show modeR _ s.f.ret .run; rw [hret]; rfl, drels_mono (hr1.sub _ _) _ _ hds, rndR_mono hext.sub _ _ _ hrr, .plain ⟨_, _, rfl, ⟨_, ⟨0, hl2⟩, rfl⟩, irels_mono hext.sub _ _ hk⟩ (trel_mono hext.sub ht)⟩, Nat.le_trans hbase hext.next, FRs_mono (hext.b hbase) hfs⟩
  cases hrn : s.f.rnd with
  | dfr => simp only [hrn] at h2; cases h2
  | norm =>
    simp only [hrn] at h2 hrr
    have hrr := hrr.2
    rw [addB_eq, addB_eq] at h2
    have hadd1 := hr.add (o := .defr false) (o' := .deferred (some [])) (sz := 0) rfl
    have hd1 : (φ.more s.h.next w.heap.size 0) s.h.next = some (w.heap.size, 0) := Phi.more_same _ _ _ _
    refine fin _ _ _ s.h.next w.heap.size 0 (.mark s.h.next :: s.f.defs) [{ target := .collected w.heap.size, args := #[] }] hadd1.1 hadd1.2 hd1 ⟨_, _, rfl, ⟨_, ⟨0, hd1⟩, rfl⟩, drels_mono hadd1.2.sub _ _ hdf⟩ (by rw [hrn]; exact h2) ?_
    rw [hrr]
    simp [Instr.enterLoop, newObj, Sem.run]
    rfl
  | round l0 =>
    simp only [hrn] at h2 hrr
    obtain ⟨_, l', ⟨lsz, hl⟩, hcr⟩ := hrr
    obtain ⟨ob, h3, h4⟩ := opt_some h2
    cases ob <;> first | (cases h4; done) | skip
    rename_i st pd lfn tm nt ps0 asg0 body0 d
    obtain ⟨a, d', sz', g1, g2, g3, g4, g5, g6, g7, g8, g9⟩ := loop_at (P := P) hr h3 hl
    simp only [addB_eq] at h4
    refine fin φ s.h w d d' sz' s.f.defs [] hr (Ext.refl _ _) g4 hdf (by rw [hrn]; exact h4) ?_
    rw [hcr]
    simp [Instr.enterLoop, newObj, Sem.run, g8]
/-- a code -/
theorem code_sound (hE : EnvOK P E) (hF : FnsOK P E) (hr : HR w0 φ s.h w) (R : FR E φ s.h s.h.next s.f f) (hret : s.f.ret = .run) (hbase : s.f.base ≤ s.h.next) (hfs : FRs E φ s.h s.f.base s.cs fs) {c : Code} {k : List AI} {k' : List Item}
    (hst : s.f.todo = .code c :: k) (hft : f.todo = .code c :: k') (hk : irels φ k k') (ht : trel φ s.f.tmps f.tmps) (hc : codeOK c = true) (hs : codeS E s c k = some s') : Goes P E w0 cs0 (lone f (fs ++ cs0) w) s' := by
  have hform := R.form hret
  rw [hft] at hform
  have go : ∀ (k2 : List AI) (k2' : List Item), irels φ k2 k2' → some (⟨ftodo s.f k2, s.cs, s.h⟩ : S) = some s' → SG P f (fs ++ cs0) w = GO (fr f.kind s.f.fn f.tmps k2' f.defers f.roundOf) (fs ++ cs0) w → Goes P E w0 cs0 (lone f (fs ++ cs0) w) s' := by
    intro k2 k2' hk2 he hsg
    injection he with he; subst he
    exact Goes.step hsg ⟨φ, _, fs, w, rfl, hr, R.todo hret hk2 ht, hbase, hfs⟩
  cases c with
  | skip => exact go k k' hk hs (by rw [hform]; exact m_skip)
  | label l => exact go k k' hk hs (by rw [hform]; exact m_label)
  | goto l => cases hs
  | refuse y => cases hs
  | seq a b =>
    simp only [codeOK, Bool.and_eq_true] at hc
    exact go (.code a :: .code b :: k) (.code a :: .code b :: k') ⟨_, _, rfl, ⟨rfl, hc.1⟩, _, _, rfl, ⟨rfl, hc.2⟩, hk⟩ hs (by rw [hform]; exact m_seq)
  | cond x a b =>
    simp only [codeOK, Bool.and_eq_true] at hc
    obtain ⟨v, h1, h2⟩ := opt_some hs
    have hx := ops_of_trel (f := f) ht rfl [x] x (by simp) _ h1
    cases v <;> first | (cases h2; done) | skip
    rename_i t
    have hx : f.eval x = .bool t := hx
    refine go (.code (ifB t a b) :: k) (.code (if t then a else b) :: k') ⟨_, _, rfl, ⟨by rw [ifB_eq], by rw [ifB_eq]; split; exact hc.1; exact hc.2⟩, hk⟩ h2 ?_
    rw [hform] at hx ⊢
    exact m_cond hx
  | block id a => exact go (.code a :: .inBlock id :: k) (.code a :: .inBlock id :: k') ⟨_, _, rfl, ⟨rfl, hc⟩, _, _, rfl, rfl, hk⟩ hs (by rw [hform]; exact m_block)
  | loop a => exact go (.code a :: .inLoop a :: k) (.code a :: .inLoop a :: k') ⟨_, _, rfl, ⟨rfl, hc⟩, _, _, rfl, ⟨rfl, hc⟩, hk⟩ hs (by rw [hform]; exact m_loop)
  | scope a => exact go (.code a :: .inScope a :: k) (.code a :: .inScope a :: k') ⟨_, _, rfl, ⟨rfl, hc⟩, _, _, rfl, ⟨rfl, hc⟩, hk⟩ hs (by rw [hform]; exact m_scope)
  | exit id =>
    obtain ⟨x1, x2⟩ := exitA_sound (id := id) hk
    have hs : (match exitA id k with | some k' => some (⟨ftodo s.f k', s.cs, s.h⟩ : S) | none => leaveS s (some (.exit id))) = some s' := hs
    cases hx : exitA id k with
    | some r =>
      rw [hx] at hs
      obtain ⟨r', g1, g2⟩ := x1 r hx
      exact go r r' g2 hs (by rw [hform]; exact m_exit g1)
    | none =>
      rw [hx] at hs
      exact leave_sound hr R hret hbase hfs hk ht (Or.inr (Or.inr ⟨id, rfl, hft, hst, x2 hx⟩)) hs
  | ret => exact leave_sound hr R hret hbase hfs hk ht (Or.inr (Or.inl ⟨rfl, hft, hst⟩)) hs
  | region id ops draw =>
    cases draw with
    | false =>
      refine go (.ops ops ops.toList :: k) (.inRegion ops (List.range ops.size) :: k') ⟨_, _, rfl, ⟨_, rfl, ?_⟩, hk⟩ hs (by rw [hform]; exact m_region)
      apply List.ext_getElem?
      intro i
      rw [List.getElem?_map, List.getElem?_map]
      by_cases hi : i < ops.size
      · rw [List.getElem?_range hi]; simp [hi]
      · rw [List.getElem?_eq_none (by simpa using hi), List.getElem?_eq_none (by simpa using hi)]; rfl
    | true =>
      have hs : some (⟨ftodo s.f (.draw ops 0 [] none :: k), s.cs, s.h⟩ : S) = some s' := hs
      injection hs with hs; subst hs
      have hok : regOK ops = true := by simpa [codeOK] using hc
      refine Goes.step (f' := fr f.kind s.f.fn f.tmps (.inRegion ops (Region.schedule (P.follows .mixedOrders) ops (w.tape w.drawn (.order s.f.fn id))) :: k') f.defers f.roundOf) (cs' := fs ++ cs0) (w1 := { w with drawn := w.drawn + 1 }) (by rw [hform]; exact m_draw) ?_
      refine ⟨φ, _, fs, _, rfl, hr.drawn _, ⟨rfl, R.nt, by show modeR φ s.f.ret .run; rw [hret]; rfl, R.defs, R.rnd, .draw hk ?_ (sched_start hE.mixed _)⟩, hbase, hfs⟩
      exact ⟨hok, fun i hi => (by cases hi), fun i hi => (by rw [tb_zero] at hi; cases hi), fun i o _ hi => (by cases hi), fun i o _ hi => (by rw [tb_zero] at hi; cases hi), fun t => Or.inl (ht t), fun p hp => (by cases hp), List.Pairwise.nil, fun i hi => (by rw [tb_zero] at hi; cases hi), fun p hp => (by cases hp), fun id hid => (by cases hid), fun i d hi => (by rw [tb_zero] at hi; cases hi), fun p hp => (by cases hp)⟩
  | rangeFunc fo ps asg bd =>
    simp only [codeOK, Bool.and_eq_true] at hc
    exact range_sound hE hF hr R hret hbase hfs hft hk ht hc.1 hc.2 hs
end

end
end Go.Proofs.Ytdhnacajgmjmlaa.Ev
