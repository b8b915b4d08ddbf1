/- An abstract machine, part 19: every step is the model's; a run that comes to an end is a call that returns. Of no program. -/
import Derived.Test.YtdhnacajgmjmlaaEvS
namespace Go.Proofs.Ytdhnacajgmjmlaa.Ev
open Go.RowKit
noncomputable section
set_option linter.unusedVariables false
set_option linter.unusedSimpArgs false

section
variable {P : Program} {E : Env} {w0 w : World} {φ φ' : Phi} {h h' : H} {tm : Tr AV} {ctm : Array Value} {cs0 : List Frame} {s s' : S} {f : Frame} {fs : List Frame}
variable {all : Array Oper} {lst lo hi : Nat} {pend : List PE} {cl : Nat → Bool}

/-- the slots that an operation looks at, where it may go -/
theorem DI.looked (D : DI E φ h lo hi all lst pend tm ctm cl) {i : Nat} {o : Oper} (ho : all[i]? = some o) (hpre : ∀ e ∈ o.after.toList, bindsA e = true → cl e.on = true) {t : Nat} (ht : t ∈ looks all o) : vr φ (cellAt tm .undef t) (ctm.getD t Go.undef) := by
  rcases D.d6 t with h1 | ⟨x, h1, h2, h3⟩
  · exact h1
  · rcases (regOK_dst D.ok h3 ho).2 ht with ⟨e, he, hb, hx⟩ | ⟨oi, hoi, ha⟩
    · have := hpre e he hb
      rw [hx, h2] at this; cases this
    · obtain ⟨p, hp, hpx⟩ := List.mem_map.1 h1
      have := D.d14 p hp oi (by rw [hpx]; exact hoi)
      rw [ha] at this; cases this
theorem DI.ops (D : DI E φ h lo hi all lst pend tm ctm cl) {i : Nat} {o : Oper} (ho : all[i]? = some o) (hpre : ∀ e ∈ o.after.toList, bindsA e = true → cl e.on = true) {f : Frame} (hf : f.tmps = ctm) : Ops φ tm f.eval o.op.operands.toList := by
  intro x hx a ha
  cases x with
  | tmp t =>
    injection ha with ha; subst ha; subst hf
    refine D.looked ho hpre ?_
    unfold looks tmpsOf
    exact List.mem_append_left _ (List.mem_filterMap.2 ⟨.tmp t, hx, rfl⟩)
  | const v => exact aconst_vr 6 v a φ ha
  | global g => cases ha
  | func g => injection ha with ha; subst ha; exact ⟨#[], #[], rfl, rfl, rfl⟩
theorem DI.wanted (D : DI E φ h lo hi all lst pend tm ctm cl) {i : Nat} {o : Oper} (ho : all[i]? = some o) (hpre : ∀ e ∈ o.after.toList, bindsA e = true → cl e.on = true) : wantedA all tm o = Region.wanted o (yielded all ctm) := by
  refine wanted_eq fun g want d hg hd => D.looked ho hpre ?_
  unfold looks
  rw [hg]
  exact List.mem_append_right _ (by simp [hd])
theorem all_done (D : DI E φ h lo hi all lst pend tm ctm cl) (hn : ∀ i, ¬ Ready all cl i) : ∀ i, tb lst i = true → cl i = true := by
  intro i
  induction i using Nat.strongRecOn with
  | _ i ih =>
    intro hi
    have hlt := D.d10 i hi
    have ho : all[i]? = some all[i] := by simp [hlt]
    cases hc : cl i
    · exfalso
      refine hn i ⟨all[i], ho, hc, fun e he hb => ih e.on (regOK_lt D.ok ho e he hb) (D.d4 i _ ho hi e he hb)⟩
    · rfl
/-- one that was taken ahead is done -/
theorem px_sound (hE : EnvOK P E) (hr : HR w0 φ h w) (hhi : hi = h.next) (D : DI E φ h lo hi all lst pend tm ctm cl) {i : Nat} {r : List Nat} (hrd : Ready all cl i) (hl : tb lst i = true) (hval : allValid E all tm h pend = true) {kd : CallKind} {fn : FuncId} {k' : List Item} {d : List Deferred} {r0 : Option Nat} {cs : List Frame} :
    ∃ φ' w' ctm', SG P (fr kd fn ctm (.inRegion all (i :: r) :: k') d r0) cs w = GO (fr kd fn ctm' (.inRegion all r :: k') d r0) cs w' ∧ HR w0 φ' h w' ∧ ExtB lo φ h φ' h ∧ DI E φ' h lo hi all lst pend tm ctm' (upd cl i) ∧ ctm'.size = ctm.size := by
  obtain ⟨o, ho, hci, hpre⟩ := id hrd
  obtain ⟨p, hp, hpi⟩ : ∃ p ∈ pend, p.i = i := by
    rcases D.d2 i hl with h1 | h1
    · rw [hci] at h1; cases h1
    · obtain ⟨p, h2, h3⟩ := List.mem_map.1 h1; exact ⟨p, h2, h3⟩
  have hv : validE E all tm h p = true := by
    have : ∀ (ps : List PE), allValid E all tm h ps = true → ∀ p ∈ ps, validE E all tm h p = true := by
      intro ps
      induction ps with
      | nil => intro _ p hp; cases hp
      | cons q qs ih =>
        intro hq p hp
        have hq' : ifB (validE E all tm h q) (allValid E all tm h qs) false = true := hq
        rw [ifB_eq] at hq'
        split at hq'
        · rename_i e
          rcases List.mem_cons.1 hp with rfl | hp
          · exact e
          · exact ih hq' p hp
        · cases hq'
    exact this pend hval p hp
  have hw := D.wanted ho hpre
  have hdst : dstS all i = o.dst := by unfold dstS; rw [ho]; rfl
  have hsz' : ∀ d, o.dst = some d → d < ctm.size := fun d hd => D.d13 i d hl (by rw [hdst]; exact hd)
  have hfin : ∀ (v : Value), (fr kd fn ctm (.inRegion all (i :: r) :: k') d r0).finish v = fr kd fn (putC ctm o.dst v) (.inRegion all r :: k') d r0 := by
    intro v
    simp only [Frame.finish, fr, ho, Option.bind_some]
    cases o.dst <;> rfl
  -- the relation behind it
  have mk : ∀ (φ' : Phi) (v' : Value), Sub φ φ' → (∀ d, o.dst = some d → vr φ' (cellAt tm .undef d) v') → (∀ q ∈ pend, pendOK E φ' h all tm lo hi (upd cl i) q) → DI E φ' h lo hi all lst pend tm (putC ctm o.dst v') (upd cl i) := by
    intro φ' v' hs hvr hpk
    refine ⟨D.ok, ?_, ?_, ?_, D.d4, ?_, hpk, D.d8, D.d10, D.d11, D.d12, by rw [putC_size]; exact D.d13, D.d14⟩
    · intro x hx
      unfold upd at hx
      split at hx
      · rename_i e; rw [e]; exact hl
      · exact D.d1 x hx
    · intro x hx
      rcases D.d2 x hx with h1 | h1
      · left; unfold upd; split; rfl; exact h1
      · exact Or.inr h1
    · intro x o2 ho2 hx e he hb
      unfold upd at hx ⊢
      split at hx
      · rename_i ex
        subst ex
        rw [ho] at ho2; injection ho2 with ho2; subst ho2
        split
        · rfl
        · exact hpre e he hb
      · split
        · rfl
        · exact D.d3 x o2 ho2 hx e he hb
    · intro t
      have old : (∀ d, o.dst = some d → t ≠ d) → vr φ' (cellAt tm .undef t) (ctm.getD t Go.undef) ∨ ∃ x, x ∈ pend.map PE.i ∧ upd cl i x = false ∧ dstS all x = some t := by
        intro hne
        rcases D.d6 t with h1 | ⟨x, h1, h2, h3⟩
        · exact Or.inl (vr_mono hs _ _ h1)
        · right
          refine ⟨x, h1, ?_, h3⟩
          unfold upd
          split
          · rename_i e
            subst e
            rw [hdst] at h3
            exact absurd rfl (hne t h3)
          · exact h2
      cases hd : o.dst with
      | none => exact old (fun d hh => by rw [hd] at hh; cases hh)
      | some d =>
        show vr φ' (cellAt tm .undef t) ((ctm.setIfInBounds d v').getD t Go.undef) ∨ _
        rw [set_at _ _ _ _ (hsz' d hd)]
        by_cases e : t = d
        · rw [if_pos e, e]; exact Or.inl (hvr d hd)
        · rw [if_neg e]; exact old (fun d' hh => by rw [hd] at hh; injection hh with hh; subst hh; exact e)
  have keepPend : ∀ q ∈ pend, pendOK E φ h all tm lo hi (upd cl i) q := by
    intro q hq
    have := D.d7 q hq
    cases q with
    | val x => trivial
    | mem x vals id =>
      intro hc
      refine this ?_
      unfold upd at hc
      split at hc
      · cases hc
      · exact hc
  have noWorld : ∀ (v' : Value), (∀ d, o.dst = some d → vr φ (cellAt tm .undef d) v') → SG P (fr kd fn ctm (.inRegion all (i :: r) :: k') d r0) cs w = GO ((fr kd fn ctm (.inRegion all (i :: r) :: k') d r0).finish v') cs w →
      ∃ φ' w' ctm', SG P (fr kd fn ctm (.inRegion all (i :: r) :: k') d r0) cs w = GO (fr kd fn ctm' (.inRegion all r :: k') d r0) cs w' ∧ HR w0 φ' h w' ∧ ExtB lo φ h φ' h ∧ DI E φ' h lo hi all lst pend tm ctm' (upd cl i) ∧ ctm'.size = ctm.size := by
    intro v' hvr hsg
    rw [hfin] at hsg
    exact ⟨φ, w, _, hsg, hr, ExtB.refl _ _ _, mk φ v' (Sub.refl _) hvr keepPend, putC_size _ _ _⟩
  cases p with
  | val x =>
    have hx : x = i := hpi
    subst hx
    unfold validE at hv
    simp only [lget_eq, Array.getElem?_toList, ho] at hv
    rw [ifB_eq] at hv
    split at hv
    · rename_i hwt
      rw [hw] at hwt
      cases hvo : vopX E tm h o.op with
      | none => rw [hvo] at hv; cases hv
      | some v =>
        rw [hvo] at hv
        obtain ⟨v', g1, g2⟩ := vopX_sound (P := P) hE hr (D.ops ho hpre (f := fr kd fn ctm (.inRegion all (x :: r) :: k') d r0) rfl) hvo
        refine noWorld v' (fun d2 hd => ?_) (m_op ho hwt g1 rfl)
        simp only [hd] at hv
        rw [← (aveq_eq 6).1 _ _ hv]; exact g2
    · rename_i hwt
      refine noWorld Go.undef (fun d2 hd => ?_) (m_skipOp ?_)
      · simp only [hd] at hv
        rw [← (aveq_eq 6).1 _ _ hv]; exact vr_undef
      · rw [ho]
        simp only [Option.map_some, Option.getD_some]
        rw [← hw]; simpa using hwt
  | mem x vals id =>
    have hx : x = i := hpi
    subst hx
    obtain ⟨p1, p2, p3, o2, O, mk2, p4, p5, p6, p7⟩ := D.d7 _ hp hci
    rw [ho] at p4; injection p4 with p4; subst p4
    unfold validE at hv
    simp only [lget_eq, Array.getElem?_toList, ho] at hv
    rw [ifB_eq] at hv
    split at hv
    · rename_i hwt
      rw [hw] at hwt
      cases hvo : vopX E tm h o.op with
      | some v => rw [hvo] at hv; cases hv
      | none =>
        rw [hvo] at hv
        cases hvs : optMap (aev tm) o.op.operands.toList with
        | none => rw [hvs] at hv; cases hv
        | some vs =>
          rw [hvs] at hv
          have hve : vals = vs := (aveq_eq 6).2 _ _ hv
          subst hve
          have hops := D.ops ho hpre (f := fr kd fn ctm (.inRegion all (x :: r) :: k') d r0) rfl
          obtain ⟨o', v', sz, g1, g2⟩ := mop_sound (o := o) hE (hops.list (fun y hy => hy) hvs) p5 w
          obtain ⟨g3, g4⟩ := g2 id p1
          have hb := hr.bind p1 (by omega) p6 g3 w.drawn
          have hsub := Phi.sub_more (k := w.heap.size) (sz := sz) p1
          refine ⟨φ.more id w.heap.size sz, _, _, by rw [m_op ho hwt g1 rfl, hfin], hb, ⟨hsub, Nat.le_refl _, fun b hb2 hn => ⟨by unfold Phi.more; rw [if_neg (by omega)]; exact hn, rfl⟩⟩, mk _ v' hsub (fun d2 hd => by rw [p7 d2 hd]; exact g4) ?_, putC_size _ _ _⟩
          intro q hq
          have := keepPend q hq
          cases q with
          | val y => trivial
          | mem y vals2 id2 =>
            intro hc
            obtain ⟨q1, q2, q3, o3, O3, mk3, q4, q5, q6, q7⟩ := this hc
            have hne : id2 ≠ id := by
              rintro rfl
              have := ids_inj D.d8 hq hp
              subst this
              simp [upd] at hc
            exact ⟨by unfold Phi.more; rw [if_neg hne]; exact q1, q2, q3, o3, O3, mk3, q4, q5, q6, q7⟩
    · cases hv
/-- all that was taken ahead is done, up to the one that may not be -/
theorem drain (hE : EnvOK P E) (hhi : hi = h.next) (hval : allValid E all tm h pend = true) {kd : CallKind} {fn : FuncId} {k' : List Item} {d : List Deferred} {r0 : Option Nat} {cs : List Frame} :
    ∀ {rest : List Nat} {φ : Phi} {w : World} {ctm : Array Value} {cl : Nat → Bool}, HR w0 φ h w → DI E φ h lo hi all lst pend tm ctm cl → Sched all cl rest →
      ∃ φ' w' ctm' cl' rest', Steps P (lone (fr kd fn ctm (.inRegion all rest :: k') d r0) cs w) (lone (fr kd fn ctm' (.inRegion all rest' :: k') d r0) cs w') ∧ HR w0 φ' h w' ∧ ExtB lo φ h φ' h ∧ DI E φ' h lo hi all lst pend tm ctm' cl' ∧ Sched all cl' rest' ∧ ctm'.size = ctm.size ∧ (∀ i r, rest' = i :: r → tb lst i = false)
  | [], φ, w, ctm, cl, hr, D, hs => ⟨φ, w, ctm, cl, [], Steps.refl _ _, hr, ExtB.refl _ _ _, D, hs, rfl, fun i r e => by cases e⟩
  | i :: r, φ, w, ctm, cl, hr, D, hs => by
    cases hl : tb lst i
    · exact ⟨φ, w, ctm, cl, i :: r, Steps.refl _ _, hr, ExtB.refl _ _ _, D, hs, rfl, fun i' r' e => by injection e with e1 e2; subst e1; exact hl⟩
    · obtain ⟨hrd, hs2⟩ := hs
      obtain ⟨φ1, w1, ctm1, g1, g2, g3, g4, g5⟩ := px_sound (P := P) hE hr hhi D hrd hl hval (fn := fn) (k' := k') (d := d) (r0 := r0) (cs := cs) (r := r)
      obtain ⟨φ2, w2, ctm2, cl2, rest2, k1, k2, k3, k4, k5, k6, k7⟩ := drain hE hhi hval (rest := r) g2 g4 hs2
      exact ⟨φ2, w2, ctm2, cl2, rest2, (steps_of g1).trans k1, k2, g3.trans k3, k4, k5, k6.trans g5, k7⟩
theorem rdyL_spec {lst : Nat} : ∀ {os : List Oper} {i : Nat}, all.toList.drop i = os → ∀ j, i ≤ j → ((∃ o, all[j]? = some o ∧ tb lst j = false ∧ edgesOk lst o.after.toList = true) ↔ (i ≤ j ∧ j ∈ rdyL lst os i))
  | [], i, hos, j, hij => by
    have hlen : all.size ≤ i := by simpa using hos
    constructor
    · rintro ⟨o, ho, _⟩
      have := (Array.getElem?_eq_some_iff.1 ho).1
      omega
    · rintro ⟨_, hj⟩; cases hj
  | o :: os, i, hos, j, hij => by
    have ho : all[i]? = some o := by
      have := congrArg (·[0]?) hos
      simpa using this
    have hos' : all.toList.drop (i + 1) = os := by
      have := congrArg (List.drop 1) hos
      simpa [List.drop_drop, Nat.add_comm] using this
    have e1 : rdyL lst (o :: os) i = ifB (tb lst i) (rdyL lst os (i + 1)) (ifB (edgesOk lst o.after.toList) (i :: rdyL lst os (i + 1)) (rdyL lst os (i + 1))) := rfl
    have low : ∀ {os : List Oper} {a x : Nat}, x ∈ rdyL lst os a → a ≤ x := by
      intro os
      induction os with
      | nil => intro a x hx; cases hx
      | cons o os ih =>
        intro a x hx
        have hx' : x ∈ ifB (tb lst a) (rdyL lst os (a + 1)) (ifB (edgesOk lst o.after.toList) (a :: rdyL lst os (a + 1)) (rdyL lst os (a + 1))) := hx
        rw [ifB_eq, ifB_eq] at hx'
        split at hx'
        · have := ih hx'; omega
        · split at hx'
          · rcases List.mem_cons.1 hx' with rfl | h1
            · exact Nat.le_refl _
            · have := ih h1; omega
          · have := ih hx'; omega
    rw [e1, ifB_eq, ifB_eq]
    by_cases hj : j = i
    · subst hj
      rw [ho]
      constructor
      · rintro ⟨o', e, h1, h2⟩
        injection e with e; subst e
        simp [h1, h2]
      · rintro ⟨_, hm⟩
        refine ⟨o, rfl, ?_, ?_⟩
        · cases ht : tb lst j
          · rfl
          · rw [ht] at hm; simp at hm; have := low hm; omega
        · cases ht : tb lst j
          · rw [ht] at hm
            simp at hm
            cases he : edgesOk lst o.after.toList
            · rw [he] at hm; simp at hm; have := low hm; omega
            · rfl
          · rw [ht] at hm; simp at hm; have := low hm; omega
    · have ih := rdyL_spec (lst := lst) hos' j (by omega)
      rw [ih]
      constructor
      · rintro ⟨h1, h2⟩
        refine ⟨hij, ?_⟩
        split
        · exact h2
        · split
          · exact List.mem_cons_of_mem _ h2
          · exact h2
      · rintro ⟨_, h2⟩
        refine ⟨by omega, ?_⟩
        split at h2
        · exact h2
        · split at h2
          · rcases List.mem_cons.1 h2 with h3 | h3
            · exact absurd h3 hj
            · exact h3
          · exact h2
theorem draw_sound (hE : EnvOK P E) (hF : FnsOK P E) (hr : HR w0 φ s.h w) (R : FR E φ s.h s.h.next s.f f) (hret : s.f.ret = .run) (hbase : s.f.base ≤ s.h.next) (hfs : FRs E φ s.h s.f.base s.cs fs) {k : List AI} {k' : List Item} {rest : List Nat}
    (hft : f.todo = .inRegion all rest :: k') (hk : irels φ k k') (D : DI E φ s.h s.f.base s.h.next all lst pend s.f.tmps f.tmps cl) (hsch : Sched all cl rest) (hs : drawS E s all lst pend k = some s') : Goes P E w0 cs0 (lone f (fs ++ cs0) w) s' := by
  obtain ⟨kd, T, dd, r0, rfl⟩ : ∃ kd T dd r0, f = fr kd s.f.fn T (.inRegion all rest :: k') dd r0 := ⟨f.kind, f.tmps, f.defers, f.roundOf, by have := R.form hret; rw [hft] at this; exact this⟩
  have D : DI E φ s.h s.f.base s.h.next all lst pend s.f.tmps T cl := D
  have hnt : T.size = s.f.nt := R.nt
  have hdf : drels φ s.f.defs dd := R.defs
  have hrr : rndR φ s.f.rnd kd r0 := R.rnd
  obtain ⟨tm2, h2, lst2, pend2, p1, p2, p3, D2⟩ := pass_sound hnt (by simp) hr hbase D hs
  have rdy := fun j => rdyL_spec (all := all) (lst := lst2) (os := all.toList) (i := 0) (by simp) j (Nat.zero_le _)
  have rndm : ∀ {φ2 : Phi}, Sub φ φ2 → rndR φ2 s.f.rnd kd r0 := fun hs2 => rndR_mono hs2 _ _ _ hrr
  have hmode : ∀ {φ2 : Phi}, modeR φ2 s.f.ret .run := by intro φ2; rw [hret]; rfl
  cases hrd : rdyL lst2 all.toList 0 with
  | nil =>
    rw [hrd] at p1
    obtain ⟨hval, p1⟩ := ifB_some p1
    injection p1 with p1; subst p1
    obtain ⟨φ3, w3, T3, cl3, rest3, q1, q2, q3, D3, q5, q6, q7⟩ := drain (P := P) hE rfl hval (kd := kd) (fn := s.f.fn) (k' := k') (d := dd) (r0 := r0) (cs := fs ++ cs0) p2 D2 hsch
    have hnil : rest3 = [] := by
      cases rest3 with
      | nil => rfl
      | cons i r =>
        exfalso
        obtain ⟨⟨o, ho, hci, hpre⟩, _⟩ := q5
        have hl := q7 i r rfl
        have := (rdy i).1 ⟨o, ho, hl, edgesOk_spec.2 fun e he hb => D3.d1 _ (hpre e he hb)⟩
        rw [hrd] at this
        cases this.2
    subst hnil
    have hdone := all_done D3 q5
    have hext : ExtB s.f.base φ s.h φ3 h2 := (p3.b hbase).trans q3
    refine ⟨_, q1.trans (steps_of m_regionEnd), φ3, _, fs, w3, rfl, q2, ⟨rfl, q6.trans hnt, hmode, drels_mono hext.sub _ _ hdf, rndm hext.sub, .plain (irels_mono hext.sub _ _ hk) fun t => ?_⟩, Nat.le_trans hbase p3.next, FRs_mono hext hfs⟩
    rcases D3.d6 t with h1 | ⟨x, h1, h3, h4⟩
    · exact h1
    · obtain ⟨p, hp, hpx⟩ := List.mem_map.1 h1
      have := hdone x (by rw [← hpx]; exact D3.d11 p hp)
      rw [h3] at this; cases this
  | cons j js =>
    rw [hrd] at p1
    cases js with
    | cons j2 js => cases p1
    | nil =>
      obtain ⟨hval, p1⟩ := ifB_some p1
      obtain ⟨o, ho, p1⟩ := opt_some p1
      rw [lget_eq, Array.getElem?_toList] at ho
      obtain ⟨φ3, w3, T3, cl3, rest3, q1, q2, q3, D3, q5, q6, q7⟩ := drain (P := P) hE rfl hval (kd := kd) (fn := s.f.fn) (k' := k') (d := dd) (r0 := r0) (cs := fs ++ cs0) p2 D2 hsch
      have hj := (rdy j).2 ⟨Nat.zero_le _, by rw [hrd]; exact List.mem_cons_self ..⟩
      obtain ⟨o', ho', hjl, hje⟩ := hj
      have hcj : cl3 j = false := by
        cases hc : cl3 j
        · rfl
        · rw [D3.d1 j hc] at hjl; cases hjl
      cases rest3 with
      | nil =>
        exfalso
        have hdone := all_done D3 q5
        exact q5 j ⟨o', ho', hcj, fun e he hb => hdone _ (edgesOk_spec.1 hje e he hb)⟩
      | cons i r =>
        obtain ⟨hrdi, q5⟩ := q5
        obtain ⟨o2, ho2, hci, hpre⟩ := id hrdi
        have hl := q7 i r rfl
        have hi := (rdy i).1 ⟨o2, ho2, hl, edgesOk_spec.2 fun e he hb => D3.d1 _ (hpre e he hb)⟩
        rw [hrd] at hi
        have hij : i = j := by
          rcases List.mem_cons.1 hi.2 with h1 | h1
          · exact h1
          · cases h1
        subst hij
        rw [ho] at ho2; injection ho2 with ho2; subst ho2
        have hext : ExtB s.f.base φ s.h φ3 h2 := (p3.b hbase).trans q3
        have R3 : FR E φ3 h2 h2.next ⟨s.f.fn, s.f.nt, tm2, .draw all lst2 pend2 (some i) :: k, s.f.defs, s.f.ret, s.f.rnd, s.f.base⟩ (fr kd s.f.fn T3 (.inRegion all (i :: r) :: k') dd r0) :=
          ⟨rfl, q6.trans hnt, hmode, drels_mono hext.sub _ _ hdf, rndm hext.sub, .wait (irels_mono hext.sub _ _ hk) D3 hrdi hl q5 (fun e he hb => D3.d1 _ (by
            have : all.getD i default = o := by rw [Array.getD_eq_getD_getElem?, ho]; rfl
            rw [this] at he
            exact hpre e he hb))⟩
        have hgo := opS_sound (s := ⟨⟨s.f.fn, s.f.nt, tm2, .draw all lst2 pend2 (some i) :: k, s.f.defs, s.f.ret, s.f.rnd, s.f.base⟩, s.cs, h2⟩) (cs0 := cs0) hE hF q2 R3 hret (Nat.le_trans hbase p3.next) (FRs_mono hext hfs) rfl ho (D3.ops ho hpre rfl) (D3.wanted ho hpre) p1
        obtain ⟨m', g1, g2⟩ := hgo
        exact ⟨m', q1.trans g1, g2⟩

/-- every step -/
theorem step_sound (hE : EnvOK P E) (hF : FnsOK P E) {m : Machine} (hR : Rel E w0 cs0 s m) (hs : step E s = some s') : Goes P E w0 cs0 m s' := by
  obtain ⟨φ, f, fs, w, rfl, hr, R, hbase, hfs⟩ := hR
  unfold step at hs
  cases hret : s.f.ret with
  | ret =>
    simp only [hret] at hs
    obtain ⟨hnd, hs⟩ := ifB_some hs
    have hpl : irels φ s.f.todo f.todo ∧ trel φ s.f.tmps f.tmps := R.tb.trel fun all lst pend cur k e => by rw [e] at hnd; cases hnd
    exact ret_sound hE hF hr R hret hbase hfs hpl.2 hpl.1 hs
  | pan v r =>
    simp only [hret] at hs
    exact pan_sound hE hF hr R hret hbase hfs hs
  | run =>
    simp only [hret] at hs
    unfold runS at hs
    have hform := R.form hret
    cases htd : s.f.todo with
    | nil =>
      rw [htd] at hs
      obtain ⟨h1, h2⟩ := R.tb.trel fun all lst pend cur k e => by rw [htd] at e; cases e
      rw [htd] at h1
      have h1 : f.todo = [] := h1
      exact leave_sound (k := []) (k' := []) hr R hret hbase hfs rfl h2 (Or.inl ⟨rfl, htd, h1⟩) hs
    | cons x k =>
      rw [htd] at hs
      by_cases hdr : ∃ all lst pend cur, x = .draw all lst pend cur
      · obtain ⟨all, lst, pend, cur, rfl⟩ := hdr
        cases cur with
        | some j => cases hs
        | none =>
          have tb := R.tb
          generalize hft : f.todo = ft at tb
          rw [htd] at tb
          cases tb with
          | plain h1 h2 => obtain ⟨i, is, _, h3, _⟩ := h1; exact h3.elim
          | draw h1 h2 h3 => exact draw_sound hE hF hr R hret hbase hfs hft h1 h2 h3 hs
      · obtain ⟨h1, ht⟩ := R.tb.trel fun all lst pend cur k2 e => by
          rw [htd] at e
          injection e with e1 e2
          exact hdr ⟨_, _, _, _, e1⟩
        rw [htd] at h1
        obtain ⟨i, is, hft, hx, hk⟩ := h1
        have go : ∀ (k2 : List AI) (k2' : List Item), irels φ k2 k2' → some (⟨ftodo s.f k2, s.cs, s.h⟩ : S) = some s' → SG P f (fs ++ cs0) w = GO (fr f.kind s.f.fn f.tmps k2' f.defers f.roundOf) (fs ++ cs0) w → Goes P E w0 cs0 (lone f (fs ++ cs0) w) s' := by
          intro k2 k2' hk2 he hsg
          injection he with he; subst he
          exact Goes.step hsg ⟨φ, _, fs, w, rfl, hr, R.todo hret hk2 ht, hbase, hfs⟩
        rw [hft] at hform
        cases x with
        | draw all lst pend cur => exact absurd ⟨_, _, _, _, rfl⟩ hdr
        | code c =>
          obtain ⟨e, hc⟩ := hx
          subst e
          exact code_sound hE hF hr R hret hbase hfs htd hft hk ht hc hs
        | inBlock id =>
          have hx : i = .inBlock id := hx
          subst hx
          exact go k is hk hs (by rw [hform]; exact m_inBlock)
        | inScope c =>
          obtain ⟨e, hc⟩ := hx
          subst e
          exact go k is hk hs (by rw [hform]; exact m_inScope)
        | inLoop c =>
          obtain ⟨e, hc⟩ := hx
          subst e
          exact go (.code c :: .inLoop c :: k) (.code c :: .inLoop c :: is) ⟨_, _, rfl, ⟨rfl, hc⟩, _, _, rfl, ⟨rfl, hc⟩, hk⟩ hs (by rw [hform]; exact m_inLoop)
        | inRange l => cases hs
        | ops all rest =>
          obtain ⟨idx, e, hidx⟩ := hx
          subst e
          cases rest with
          | nil =>
            cases idx with
            | nil => exact go k is hk hs (by rw [hform]; exact m_regionEnd)
            | cons a b => cases hidx
          | cons o rest =>
            cases idx with
            | nil => cases hidx
            | cons i idx =>
              simp only [List.map_cons, List.cons.injEq] at hidx
              exact opS_sound hE hF hr R hret hbase hfs hft hidx.1 (ops_of_trel ht rfl _) (wanted_eq fun g want d _ _ => ht d) hs
        | begin =>
          have hx : i = .beginRound := hx
          subst hx
          have hrr := R.rnd
          cases hrn : s.f.rnd with
          | norm => simp only [hrn] at hs; cases hs
          | dfr => simp only [hrn] at hs; cases hs
          | round l =>
            simp only [hrn] at hs hrr
            obtain ⟨_, l', ⟨sz, hl⟩, hcr⟩ := hrr
            obtain ⟨ob, h3, h4⟩ := opt_some hs
            cases ob <;> first | (cases h4; done) | skip
            rename_i st pd fn tm nt ps asg body d
            cases st <;> first | (cases h4; done) | skip
            obtain ⟨a, d', sz', g1, g2, g3, g4, g5, g6, g7, g8, g9⟩ := loop_at (P := P) hr h3 hl
            have h4 : putB s.h l (.loop .busy pd fn tm nt ps asg body d) (fun h' => some ⟨ftodo s.f k, s.cs, h'⟩) = some s' := h4
            rw [putB_eq] at h4
            injection h4 with h4; subst h4
            obtain ⟨q1, q2, q3⟩ := g9 .busy pd g7
            have hrun : (Instr.beginRound l').run P w = .ok () { w with heap := w.heap.setIfInBounds l' (.loop { state := .busy, pending := pd, fn := fn, tmps := a, params := ps, assign := asg, body := body, defers := d' }) } := by
              simp only [Instr.beginRound, Sem.run_bind, g8, Result.andThen_ok, q1]
              rfl
            have R2 := (R.todo hret hk ht)
            refine Goes.step (f' := fr f.kind s.f.fn f.tmps is f.defers f.roundOf) ?_ ⟨φ, _, fs, _, rfl, q2, FR_mono (q3.b (Nat.le_refl _)) q3.next R2, Nat.le_trans hbase q3.next, FRs_mono (q3.b hbase) hfs⟩
            rw [hform, hcr]
            exact m_begin hrun
        | endRange l =>
          obtain ⟨l', ⟨sz, hl⟩, e⟩ := hx
          subst e
          obtain ⟨ob, h3, h4⟩ := opt_some hs
          cases ob <;> first | (cases h4; done) | skip
          rename_i st pd fn tm nt ps asg body d
          obtain ⟨a, d', sz', g1, g2, g3, g4, g5, g6, g7, g8, g9⟩ := loop_at (P := P) hr h3 hl
          obtain ⟨q1, q2, q3⟩ := g9 .exhausted pd g7
          have hnb : st ≠ .busy := by rintro rfl; cases h4
          have h4 : putB s.h l (.loop .exhausted pd fn tm nt ps asg body d) (fun h' => endK s k pd h') = some s' := by
            cases st <;> first | exact absurd rfl hnb | exact h4
          rw [putB_eq] at h4
          have hrun : (Instr.endLoop l').run P w = .ok pd { w with heap := w.heap.setIfInBounds l' (.loop { state := .exhausted, pending := pd, fn := fn, tmps := a, params := ps, assign := asg, body := body, defers := d' }) } := by
            have hb : (st == LoopState.busy) = false := by cases st <;> first | exact absurd rfl hnb | rfl
            simp only [Instr.endLoop, Sem.run_bind, g8, Result.andThen_ok, hb, Bool.false_eq_true, if_false, q1, Sem.run_pure]
          have go2 : ∀ (k2 : List AI), irels φ k2 ((pd.map Item.code).toList ++ is) → some (⟨ftodo s.f k2, s.cs, s.h.put l (some (.loop .exhausted pd fn tm nt ps asg body d))⟩ : S) = some s' → Goes P E w0 cs0 (lone f (fs ++ cs0) w) s' := by
            intro k2 hk2 he
            injection he with he; subst he
            have R2 := (R.todo hret hk2 ht)
            refine Goes.step (f' := fr f.kind s.f.fn f.tmps ((pd.map Item.code).toList ++ is) f.defers f.roundOf) ?_ ⟨φ, _, fs, _, rfl, q2, FR_mono (q3.b (Nat.le_refl _)) q3.next R2, Nat.le_trans hbase q3.next, FRs_mono (q3.b hbase) hfs⟩
            rw [hform]
            exact m_endRange hrun
          cases pd with
          | none => exact go2 k (by simpa using hk) h4
          | some c => exact go2 (.code c :: k) ⟨_, _, rfl, ⟨rfl, g7⟩, hk⟩ h4
theorem run_sound (hE : EnvOK P E) (hF : FnsOK P E) : ∀ (n : Nat) {s s' : S} {m : Machine}, Rel E w0 cs0 s m → runA E n s = some s' → Goes P E w0 cs0 m s'
  | 0, s, s', m, hR, hs => by injection hs with hs; subst hs; exact ⟨m, Steps.refl _ _, hR⟩
  | n + 1, s, s', m, hR, hs => by
    have hs : Option.rec (motive := fun _ => Option S) none (fun s1 => forceS s1 (runA E n)) (step E s) = some s' := hs
    cases h1 : step E s with
    | none => rw [h1] at hs; cases hs
    | some s1 =>
      rw [h1] at hs
      have hs : forceS s1 (runA E n) = some s' := hs
      rw [forceS_eq] at hs
      obtain ⟨m1, g1, g2⟩ := step_sound hE hF hR h1
      obtain ⟨m2, g3, g4⟩ := run_sound hE hF n g2 hs
      exact ⟨m2, g1.trans g3, g4⟩
end

/-- a run that comes to its end is a call that returns; nothing that there was is turned -/
theorem calls_of_goes {P : Program} {E : Env} (hE : EnvOK P E) (hF : FnsOK P E) {F : Nat} {s0 s1 : S} {v : AV} (h0 : enterF E F [] [] ⟨.e, 0⟩ = some s0) {w : World} (h1 : ∀ cs m, Rel E w cs s0 m → Goes P E w cs m s1) (h2 : fin E F s1 = some v) :
    Calls P F #[] w fun e w' => (∃ v' φ, e = .returned v' ∧ vr φ v v') ∧ Below w.heap.size w w' := by
  intro cs
  have hr0 : HR w (fun _ => none) ⟨.e, 0⟩ w := ⟨Below.refl _ _, fun b k sz hb => (by cases hb), fun b o k sz hb => (by cases hb), fun b b' k sz sz' hb => (by cases hb), fun b hb => rfl⟩
  obtain ⟨a, e1, e2, Ra⟩ := enter_sound hE hF (φ := fun _ => none) (args' := #[]) (h := ⟨.e, 0⟩) (show vrs (fun _ => none) [] [] from rfl) h0
  have hRel : Rel E w cs s0 (lone (Frame.enter P F #[] .normal) cs w) := by
    subst e1
    exact ⟨fun _ => none, _, [], w, rfl, hr0, Ra, by rw [e2]; exact Nat.le_refl _, rfl⟩
  obtain ⟨m', g1, φ, f, fs, w', rfl, hr, R, hbase, hfs⟩ := h1 _ _ hRel
  unfold fin at h2
  split at h2 <;> first | (cases h2; done) | skip
  rename_i hret
  split at h2 <;> first | (cases h2; done) | skip
  rename_i hrnd
  split at h2 <;> first | (cases h2; done) | skip
  rename_i hd
  split at h2 <;> first | (cases h2; done) | skip
  rename_i hcs
  obtain ⟨hnd, h2⟩ := ifB_some h2
  obtain ⟨hfn, h2⟩ := ifB_some h2
  have hpl : irels φ s1.f.todo f.todo ∧ trel φ s1.f.tmps f.tmps := R.tb.trel fun all lst pend cur k e => by rw [e] at hnd; cases hnd
  obtain ⟨fn, v', k1, k2, k3⟩ := resOf_sound hE hr R hpl.2 h2
  rw [hcs] at hfs
  have hfs : fs = [] := hfs
  subst hfs
  have hfd : f.defers = [] := by have := R.defs; rw [hd] at this; exact this
  have hfn : s1.f.fn = F := Nat.eq_of_beq_eq_true hfn
  have hffn : f.fn = F := R.fn.trans hfn
  refine ⟨.returned v', w', f, ⟨⟨v', φ, rfl, k3⟩, hr.bel⟩, g1, hffn, ?_, hfd, by { have := R.rnd; rw [hrnd] at this; exact this.1 }, fn, ?_, k2⟩
  · have := R.mode; rw [hret] at this; exact this
  · rw [hffn, ← hfn]; exact k1
theorem calls_of_run {P : Program} {E : Env} (hE : EnvOK P E) (hF : FnsOK P E) {F n : Nat} {s0 s1 : S} {v : AV} (h0 : enterF E F [] [] ⟨.e, 0⟩ = some s0) (h1 : runA E n s0 = some s1) (h2 : fin E F s1 = some v) (w : World) :
    Calls P F #[] w fun e w' => (∃ v' φ, e = .returned v' ∧ vr φ v v') ∧ Below w.heap.size w w' := calls_of_goes hE hF h0 (fun _ _ hR => run_sound hE hF n hR h1) h2
/-- so with one that returns true -/
def isT (a : Option AV) : Bool := match a with | some v => (match v with | .bool b => b | _ => false) | none => false
theorem calls_true {P : Program} {E : Env} (hE : EnvOK P E ∧ FnsOK P E) {F n : Nat} (h : isT (opt (opt (enterF E F [] [] ⟨.e, 0⟩) (runA E n)) (fin E F)) = true) (w : World) : Calls P F #[] w fun e w' => e = .returned (.bool true) ∧ Below w.heap.size w w' := by
  cases hq : opt (opt (enterF E F [] [] ⟨.e, 0⟩) (runA E n)) (fin E F) with
  | none => rw [hq] at h; cases h
  | some v =>
    rw [hq] at h
    obtain ⟨s1, h1, h2⟩ := opt_some hq
    obtain ⟨s0, h3, h4⟩ := opt_some h1
    have hv : v = .bool true := by
      cases v <;> first | (cases h; done) | (have h : _ = true := h; simp only [isT] at h; rw [h])
    subst hv
    refine (calls_of_run hE.1 hE.2 h3 h4 h2 w).mono ?_
    rintro e w' ⟨⟨v', φ, rfl, hv⟩, hb⟩
    have hv : v' = .bool true := hv
    exact ⟨by rw [hv], hb⟩

end
end Go.Proofs.Ytdhnacajgmjmlaa.Ev
