/- An abstract machine, part 14: masks, regions, a frame that an operation's value comes to. Of no program. -/
import Derived.Test.YtdhnacajgmjmlaaEvM
namespace Go.Proofs.Ytdhnacajgmjmlaa.Ev
open Go.RowKit
noncomputable section
set_option linter.unusedVariables false
set_option linter.unusedSimpArgs false

/-! ### masks -/
theorem tb_eq (m i : Nat) : tb m i = m.testBit i := by
  unfold tb
  rw [Nat.testBit_eq_decide_div_mod_eq]
  show Nat.beq ((m >>> i) % 2) 1 = _
  rw [Nat.shiftRight_eq_div_pow, Bool.eq_iff_iff]
  simp
theorem tb_sb (m i j : Nat) : tb (sb m i) j = (decide (i = j) || tb m j) := by
  rw [tb_eq, tb_eq]
  show (m ||| (1 <<< i)).testBit j = _
  rw [Nat.testBit_or, Nat.one_shiftLeft, Nat.testBit_two_pow, Bool.or_comm]
theorem tb_zero (i : Nat) : tb 0 i = false := by rw [tb_eq]; simp
theorem edgeMask_spec : ∀ {es : List Edge} {m i : Nat}, tb (edgeMask es m) i = true → tb m i = true ∨ ∃ e ∈ es, bindsA e = true ∧ e.on = i
  | [], m, i, h => Or.inl h
  | e :: es, m, i, h => by
    have h' : tb (ifB (bindsA e) (edgeMask es (sb m e.on)) (edgeMask es m)) i = true := h
    rw [ifB_eq] at h'
    split at h'
    · rename_i hb
      rcases edgeMask_spec h' with h1 | ⟨e', h1, h2⟩
      · rw [tb_sb] at h1
        rcases Bool.or_eq_true_iff.1 h1 with h1 | h1
        · exact Or.inr ⟨e, List.mem_cons_self .., hb, of_decide_eq_true h1⟩
        · exact Or.inl h1
      · exact Or.inr ⟨e', List.mem_cons_of_mem _ h1, h2⟩
    · rcases edgeMask_spec h' with h1 | ⟨e', h1, h2⟩
      · exact Or.inl h1
      · exact Or.inr ⟨e', List.mem_cons_of_mem _ h1, h2⟩
theorem edgesOk_spec : ∀ {es : List Edge} {m : Nat}, edgesOk m es = true ↔ ∀ e ∈ es, bindsA e = true → tb m e.on = true
  | [], m => by simp [edgesOk]
  | e :: es, m => by
    have h' : edgesOk m (e :: es) = ifB (bindsA e) (ifB (tb m e.on) (edgesOk m es) false) (edgesOk m es) := rfl
    have ih := edgesOk_spec (es := es) (m := m)
    rw [h', ifB_eq, List.forall_mem_cons, ← ih]
    cases hb : bindsA e
    · simp
    · cases ht : tb m e.on <;> simp [ifB, ht]

/-! ### regions -/
theorem dstOf_eq (all : Array Oper) (i : Nat) : dstOf all i = dstS all i := by
  unfold dstOf dstS
  rw [lget_eq, Array.getElem?_toList]
  cases all[i]? <;> rfl
theorem regOK_lt {all : Array Oper} (h : regOK all = true) {j : Nat} {o : Oper} (ho : all[j]? = some o) : ∀ e ∈ o.after.toList, bindsA e = true → e.on < j := by
  have hj : j < all.size := (Array.getElem?_eq_some_iff.1 ho).1
  unfold regOK at h
  rw [List.all_eq_true] at h
  have h1 := h j (List.mem_range.2 hj)
  simp only [ho, Bool.and_eq_true, List.all_eq_true] at h1
  intro e he hb
  have := h1.1 e he
  simp only [hb, Bool.not_true, Bool.false_or] at this
  exact blt_iff.1 this
theorem regOK_dst {all : Array Oper} (h : regOK all = true) {i j d : Nat} {o : Oper} (hi : dstS all i = some d) (ho : all[j]? = some o) : (o.dst = some d → i = j) ∧ (d ∈ looks all o → (∃ e ∈ o.after.toList, bindsA e = true ∧ e.on = i) ∨ ∃ oi, all[i]? = some oi ∧ antiA all oi = true) := by
  have hj : j < all.size := (Array.getElem?_eq_some_iff.1 ho).1
  have hil : i < all.size := by
    rcases Nat.lt_or_ge i all.size with h1 | h1
    · exact h1
    · unfold dstS at hi; rw [Array.getElem?_eq_none h1] at hi; cases hi
  obtain ⟨oi, hoi⟩ : ∃ oi, all[i]? = some oi := ⟨all[i], by simp [hil]⟩
  have hdi : oi.dst = some d := by unfold dstS at hi; rw [hoi] at hi; exact hi
  unfold regOK at h
  rw [List.all_eq_true] at h
  have h1 := h j (List.mem_range.2 hj)
  simp only [ho, Bool.and_eq_true, List.all_eq_true] at h1
  have h2 := h1.2 i (List.mem_range.2 hil)
  simp only [hoi, hdi, Bool.and_eq_true, Bool.or_eq_true] at h2
  refine ⟨fun hd => ?_, fun hm => ?_⟩
  · rcases h2.1 with h3 | h3
    · simpa using h3
    · rw [hd] at h3; simp at h3
  · rcases h2.2 with (h3 | h3) | h3
    · simp at h3; exact absurd hm h3
    · obtain ⟨e, he, hb⟩ := List.any_eq_true.1 h3
      simp only [Bool.and_eq_true, beq_iff_eq] at hb
      exact Or.inl ⟨e, he, hb.1, hb.2⟩
    · obtain ⟨ha, h3⟩ := h3
      obtain ⟨e, he, hb⟩ := List.any_eq_true.1 h3
      simp only [Bool.and_eq_true, beq_iff_eq] at hb
      refine Or.inr ⟨oi, hoi, ?_⟩
      have hany : (oi.after.toList.any fun e => bindsA e && waitsFor all d e.on) = true := by
        refine List.any_eq_true.2 ⟨e, he, ?_⟩
        rw [hb.1, hb.2]
        unfold waitsFor
        rw [ho]
        simpa using hm
      unfold isAssign at ha
      unfold antiA
      split at ha
      · rename_i x hx
        simp only [hdi]
        exact hany
      · cases ha
theorem Ready.lt {all : Array Oper} {cl : Nat → Bool} {i : Nat} (h : Ready all cl i) : i < all.size := by
  obtain ⟨o, ho, _⟩ := h; exact (Array.getElem?_eq_some_iff.1 ho).1

section
variable {P : Program} {E : Env} {w0 w : World} {φ φ' : Phi} {h h' : H} {tm : Tr AV} {ctm : Array Value}

theorem prune_spec {all : Array Oper} {cl : Nat → Bool} (hc : ∀ i o, all[i]? = some o → cl i = true → ∀ e ∈ o.after.toList, bindsA e = true → cl e.on = true) :
    ∀ {ps : List PE} {m : Nat}, (∀ i, tb m i = true → cl i = true) → (∀ p ∈ prune all m ps, p ∈ ps) ∧ (∀ p ∈ ps, cl p.i = true ∨ p ∈ prune all m ps) ∧ (ids (prune all m ps)).Sublist (ids ps)
  | [], m, hm => ⟨fun p hp => hp, fun p hp => (by cases hp), List.Sublist.refl _⟩
  | p :: ps, m, hm => by
    have hcons : ∀ (q : PE) (l : List PE), ∃ x, ids (q :: l) = x ++ ids l := by
      intro q l; cases q
      · exact ⟨[], rfl⟩
      · exact ⟨[_], rfl⟩
    have sub1 : ∀ {l l' : List PE} (q : PE), (ids l).Sublist (ids l') → (ids l).Sublist (ids (q :: l')) := by
      intro l l' q hs
      obtain ⟨x, hx⟩ := hcons q l'
      rw [hx]; exact List.Sublist.trans hs (List.sublist_append_right _ _)
    have sub2 : ∀ {l l' : List PE} (q : PE), (ids l).Sublist (ids l') → (ids (q :: l)).Sublist (ids (q :: l')) := by
      intro l l' q hs
      cases q
      · exact hs
      · exact List.Sublist.cons_cons _ hs
    have e1 : prune all m (p :: ps) = ifB (tb m p.i) (match lget all.toList p.i with | some o => prune all (edgeMask o.after.toList m) ps | none => prune all m ps) (p :: prune all m ps) := rfl
    rw [e1, ifB_eq]
    split
    · rename_i ht
      have hcl := hm _ ht
      rw [lget_eq, Array.getElem?_toList]
      cases ho : all[p.i]? with
      | none =>
        obtain ⟨g1, g2, g3⟩ := prune_spec hc (ps := ps) hm
        exact ⟨fun q hq => List.mem_cons_of_mem _ (g1 q hq), fun q hq => by rcases List.mem_cons.1 hq with rfl | hq; exact Or.inl hcl; exact g2 q hq, sub1 p g3⟩
      | some o =>
        obtain ⟨g1, g2, g3⟩ := prune_spec hc (ps := ps) (m := edgeMask o.after.toList m) (fun i hi => by
          rcases edgeMask_spec hi with h1 | ⟨e, h1, h2, h3⟩
          · exact hm i h1
          · rw [← h3]; exact hc _ o ho hcl e h1 h2)
        exact ⟨fun q hq => List.mem_cons_of_mem _ (g1 q hq), fun q hq => by rcases List.mem_cons.1 hq with rfl | hq; exact Or.inl hcl; exact g2 q hq, sub1 p g3⟩
    · obtain ⟨g1, g2, g3⟩ := prune_spec hc (ps := ps) hm
      refine ⟨fun q hq => ?_, fun q hq => ?_, sub2 p g3⟩
      · rcases List.mem_cons.1 hq with rfl | hq
        · exact List.mem_cons_self ..
        · exact List.mem_cons_of_mem _ (g1 q hq)
      · rcases List.mem_cons.1 hq with rfl | hq
        · exact Or.inr (List.mem_cons_self ..)
        · rcases g2 q hq with h1 | h1
          · exact Or.inl h1
          · exact Or.inr (List.mem_cons_of_mem _ h1)
theorem pruneBy_spec {all : Array Oper} {cl : Nat → Bool} {j : Nat} (hc : ∀ i o, all[i]? = some o → cl i = true → ∀ e ∈ o.after.toList, bindsA e = true → cl e.on = true) (hj : cl j = true) (ps : List PE) :
    (∀ p ∈ pruneBy all j ps, p ∈ ps) ∧ (∀ p ∈ ps, cl p.i = true ∨ p ∈ pruneBy all j ps) ∧ (ids (pruneBy all j ps)).Sublist (ids ps) := by
  unfold pruneBy
  rw [lget_eq, Array.getElem?_toList]
  cases ho : all[j]? with
  | none => exact ⟨fun p hp => hp, fun p hp => Or.inr hp, List.Sublist.refl _⟩
  | some o =>
    refine prune_spec hc fun i hi => ?_
    rcases edgeMask_spec hi with h1 | ⟨e, h1, h2, h3⟩
    · rw [tb_zero] at h1; cases h1
    · rw [← h3]; exact hc _ o ho hj e h1 h2
theorem set_at (a : Array Value) (d t : Nat) (v : Value) (hd : d < a.size) : (a.setIfInBounds d v).getD t Go.undef = if t = d then v else a.getD t Go.undef := by
  by_cases e : t = d
  · subst e; simp [hd]
  · rw [if_neg e]
    simp [Array.getD_eq_getD_getElem?, Array.getElem?_setIfInBounds_ne (Ne.symm e)]
theorem cellAt_setT (t : Tr AV) (d i : Nat) (v x : AV) : cellAt (t.set d (some v)) x i = if i = d then v else cellAt t x i := by
  unfold cellAt
  rw [Tr.get_set]
  by_cases e : i = d
  · rw [if_pos e, if_pos e]
  · rw [if_neg e, if_neg e]
/-- the slots behind an operation's value -/
def putA (tm : Tr AV) (d : Option Nat) (v : AV) : Tr AV := match d with | none => tm | some d => tm.set d (some v)
def putC (ctm : Array Value) (d : Option Nat) (v : Value) : Array Value := match d with | none => ctm | some d => ctm.setIfInBounds d v
theorem putC_size (ctm : Array Value) (d : Option Nat) (v : Value) : (putC ctm d v).size = ctm.size := by cases d <;> simp [putC]
/-- an operation of the region is done -/
theorem DI.done {all : Array Oper} {lst j : Nat} {pend : List PE} {lo hi : Nat} {cl : Nat → Bool} (D : DI E φ h lo hi all lst pend tm ctm cl) {o : Oper} (ho : all[j]? = some o) (hrdy : Ready all cl j) (hnl : tb lst j = false)
    {v : AV} {v' : Value} (hv : vr φ v v') (hlt : ∀ d, o.dst = some d → d < ctm.size) :
    DI E φ h lo hi all (sb lst j) (pruneBy all j pend) (putA tm o.dst v) (putC ctm o.dst v') (upd cl j) := by
  obtain ⟨o', ho', hcj, hpre⟩ := hrdy
  rw [ho] at ho'; injection ho' with ho'; subst ho'
  have hc' : ∀ i o, all[i]? = some o → upd cl j i = true → ∀ e ∈ o.after.toList, bindsA e = true → upd cl j e.on = true := by
    intro i o2 ho2 hi e he hb
    unfold upd at hi ⊢
    split at hi
    · rename_i ei
      subst ei
      rw [ho] at ho2; injection ho2 with ho2; subst ho2
      split
      · rfl
      · exact hpre e he hb
    · split
      · rfl
      · exact D.d3 i o2 ho2 hi e he hb
  obtain ⟨p1, p2, p3⟩ := pruneBy_spec hc' (j := j) (by simp [upd]) pend
  have hjp : j ∉ pend.map PE.i → True := fun _ => trivial
  have hup : ∀ i, cl i = true → upd cl j i = true := fun i hi => by unfold upd; split <;> first | rfl | exact hi
  have hnd : ∀ i d, i ∈ pend.map PE.i → cl i = false → dstS all i = some d → o.dst = some d → False := by
    intro i d hi hci hd hod
    have := (regOK_dst D.ok hd ho).1 hod
    subst this
    -- j is not in the pending ones that are not done: it is not listed
    have hl : tb lst i = false := hnl
    obtain ⟨p, hp, hpi⟩ := List.mem_map.1 hi
    exact absurd (D.d11 p hp) (by rw [hpi, hl]; simp)
  refine ⟨D.ok, ?_, ?_, hc', ?_, ?_, ?_, ?_, ?_, ?_, fun id hid => D.d12 id (p3.subset hid), fun i d2 hi hd => ?_, fun p hp => D.d14 p (p1 p hp)⟩
  · intro i hi
    rw [tb_sb]
    unfold upd at hi
    split at hi
    · rename_i e; simp [e]
    · simp [D.d1 i hi]
  · intro i hi
    rw [tb_sb] at hi
    rcases Bool.or_eq_true_iff.1 hi with h1 | h1
    · left; have := of_decide_eq_true h1; simp [upd, this]
    · rcases D.d2 i h1 with h2 | h2
      · exact Or.inl (hup i h2)
      · obtain ⟨p, hp, hpi⟩ := List.mem_map.1 h2
        rcases p2 p hp with h3 | h3
        · left; rw [← hpi]; exact h3
        · right; exact List.mem_map.2 ⟨p, h3, hpi⟩
  · intro i o2 ho2 hi e he hb
    rw [tb_sb] at hi ⊢
    rcases Bool.or_eq_true_iff.1 hi with h1 | h1
    · have h1 := of_decide_eq_true h1
      subst h1
      rw [ho] at ho2; injection ho2 with ho2; subst ho2
      simp [D.d1 _ (hpre e he hb)]
    · simp [D.d4 i o2 ho2 h1 e he hb]
  · intro t
    have base : vr φ (cellAt tm .undef t) (ctm.getD t Go.undef) ∨ ∃ i, i ∈ (pruneBy all j pend).map PE.i ∧ upd cl j i = false ∧ dstS all i = some t := by
      rcases D.d6 t with h1 | ⟨i, h1, h2, h3⟩
      · exact Or.inl h1
      · right
        obtain ⟨p, hp, hpi⟩ := List.mem_map.1 h1
        have hij : i ≠ j := by
          rintro rfl
          have := D.d11 p hp
          rw [hpi, hnl] at this; cases this
        have hui : upd cl j i = false := by unfold upd; rw [if_neg hij]; exact h2
        refine ⟨i, ?_, hui, h3⟩
        rcases p2 p hp with h4 | h4
        · rw [hpi, hui] at h4; cases h4
        · exact List.mem_map.2 ⟨p, h4, hpi⟩
    cases hod : o.dst with
    | none => exact base
    | some d =>
      show vr φ (cellAt (tm.set d (some v)) .undef t) ((ctm.setIfInBounds d v').getD t Go.undef) ∨ _
      rw [cellAt_setT, set_at _ _ _ _ (hlt d hod)]
      by_cases e : t = d
      · rw [if_pos e, if_pos e]; exact Or.inl hv
      · rw [if_neg e, if_neg e]; exact base
  · intro p hp
    have := D.d7 p (p1 p hp)
    cases p with
    | val i => trivial
    | mem i vals id =>
      intro hc
      have hci : cl i = false := by
        cases hq : cl i
        · rfl
        · rw [hup i hq] at hc; cases hc
      obtain ⟨g1, g2, g3, o2, O, mk, g4, g5, g6, g7⟩ := this hci
      refine ⟨g1, g2, g3, o2, O, mk, g4, g5, g6, fun d hd => ?_⟩
      cases hod : o.dst with
      | none => exact g7 d hd
      | some d2 =>
        show cellAt (tm.set d2 (some v)) .undef d = _
        rw [cellAt_setT]
        by_cases e : d = d2
        · subst e
          exact (hnd i d (List.mem_map.2 ⟨_, p1 _ hp, rfl⟩) hci (by unfold dstS; rw [g4]; exact hd) hod).elim
        · rw [if_neg e]; exact g7 d hd
  · exact List.Pairwise.sublist p3 D.d8
  · intro i hi
    rw [tb_sb] at hi
    rcases Bool.or_eq_true_iff.1 hi with h1 | h1
    · have h1 := of_decide_eq_true h1; subst h1; exact (Array.getElem?_eq_some_iff.1 ho).1
    · exact D.d10 i h1
  · intro p hp
    rw [tb_sb]; simp [D.d11 p (p1 p hp)]
  · rw [putC_size]
    rw [tb_sb] at hi
    rcases Bool.or_eq_true_iff.1 hi with h1 | h1
    · have h1 := of_decide_eq_true h1
      subst h1
      exact hlt d2 (by unfold dstS at hd; rw [ho] at hd; exact hd)
    · exact D.d13 i d2 h1 hd

/-- a frame that an operation's value comes to -/
theorem finish_sound {hi : Nat} {a : AF} {f : Frame} {v : AV} {v' : Value} {k : AF → Option S} {r : S} (R : FR E φ h hi a f) (hv : vr φ v v') (hf : finishF a v k = some r) :
    ∃ a', k a' = some r ∧ FR E φ h hi a' (f.finish v') ∧ a'.base = a.base := by
  obtain ⟨fn, nt, tm, todo, defs, rmode, rnd, base⟩ := a
  obtain ⟨cfn, ctm, ctodo, cdefs, cmode, ckind, crnd⟩ := f
  obtain ⟨r1, r2, r3, r5, r6, r7⟩ := R
  simp only at r1 r2 r3 r5 r6 r7
  unfold finishF at hf
  simp only at hf
  cases r7 with
  | plain h1 h2 =>
    cases todo with
    | nil => cases hf
    | cons x t =>
      obtain ⟨i, is, h3, h4, h5⟩ := h1
      subst h3
      cases x with
      | code c => cases hf
      | inBlock id => cases hf
      | inLoop c => cases hf
      | inScope c => cases hf
      | endRange l => cases hf
      | draw all lst pend cur => exact h4.elim
      | inRange l =>
        obtain ⟨l', h6, h7⟩ := h4
        subst h7
        refine ⟨_, hf, ⟨r1, r2, r3, r5, r6, .plain ⟨_, _, rfl, ⟨l', h6, rfl⟩, h5⟩ h2⟩, rfl⟩
      | begin =>
        have h4 : i = .beginRound := h4
        subst h4
        exact ⟨_, hf, ⟨r1, r2, r3, r5, r6, .plain h5 h2⟩, rfl⟩
      | ops all rest =>
        obtain ⟨idx, h6, h7⟩ := h4
        subst h6
        cases rest with
        | nil => cases hf
        | cons o rest =>
          cases idx with
          | nil => cases h7
          | cons i idx =>
            simp only [List.map_cons, List.cons.injEq] at h7
            obtain ⟨h8, h9⟩ := h7
            cases hd : o.dst with
            | none =>
              simp only [hd] at hf
              refine ⟨_, hf, ⟨r1, ?_, r3, r5, r6, ?_⟩, rfl⟩
              · simp [Frame.finish, h8, hd]; exact r2
              · have : (Frame.finish { fn := cfn, tmps := ctm, todo := .inRegion all (i :: idx) :: is, defers := cdefs, mode := cmode, kind := ckind, roundOf := crnd } v') = { fn := cfn, tmps := ctm, todo := .inRegion all idx :: is, defers := cdefs, mode := cmode, kind := ckind, roundOf := crnd } := by simp [Frame.finish, h8, hd]
                rw [this]
                exact .plain ⟨_, _, rfl, ⟨idx, rfl, h9⟩, h5⟩ h2
            | some d =>
              simp only [hd] at hf
              obtain ⟨h10, h11⟩ := ifB_some hf
              have h10 := blt_iff.1 h10
              rw [Tr.setT_eq] at h11
              have this : (Frame.finish { fn := cfn, tmps := ctm, todo := .inRegion all (i :: idx) :: is, defers := cdefs, mode := cmode, kind := ckind, roundOf := crnd } v') = { fn := cfn, tmps := ctm.setIfInBounds d v', todo := .inRegion all idx :: is, defers := cdefs, mode := cmode, kind := ckind, roundOf := crnd } := by simp [Frame.finish, h8, hd]
              refine ⟨_, h11, ?_, rfl⟩
              rw [this]
              refine ⟨r1, by simpa using r2, r3, r5, r6, .plain ⟨_, _, rfl, ⟨idx, rfl, h9⟩, h5⟩ fun q => ?_⟩
              show vr φ (cellAt (tm.set d (some v)) .undef q) _
              rw [cellAt_setT, set_at _ _ _ _ (by omega)]
              by_cases e : q = d
              · rw [if_pos e, if_pos e]; exact hv
              · rw [if_neg e, if_neg e]; exact h2 q
  | draw h1 h2 h3 => cases hf
  | @wait all lst j pend k0 k' rest cl h1 h2 h3 h4 h5 h6 =>
    obtain ⟨o, ho, hcj, hpre⟩ := id h3
    have hdst : dstOf all j = o.dst := by rw [dstOf_eq]; unfold dstS; rw [ho]; rfl
    have hfin : ∀ tmq, (Frame.finish { fn := cfn, tmps := tmq, todo := .inRegion all (j :: rest) :: k', defers := cdefs, mode := cmode, kind := ckind, roundOf := crnd } v') = { fn := cfn, tmps := putC tmq o.dst v', todo := .inRegion all rest :: k', defers := cdefs, mode := cmode, kind := ckind, roundOf := crnd } := by
      intro tmq
      simp only [Frame.finish, ho, Option.bind_some]
      cases o.dst <;> rfl
    simp only [hdst] at hf
    cases hd : o.dst with
    | none =>
      simp only [hd, seqN_eq] at hf
      have D := h2.done ho h3 h4 hv (fun d hh => by rw [hd] at hh; cases hh)
      rw [hd] at D
      refine ⟨_, hf, ?_, rfl⟩
      rw [hfin, hd]
      exact ⟨r1, r2, r3, r5, r6, .draw h1 D h5⟩
    | some d =>
      simp only [hd] at hf
      obtain ⟨h10, h11⟩ := ifB_some hf
      have h10 := blt_iff.1 h10
      rw [Tr.setT_eq, seqN_eq] at h11
      have D := h2.done ho h3 h4 hv (fun d' hh => by rw [hd] at hh; injection hh with hh; subst hh; exact Nat.lt_of_lt_of_eq h10 r2.symm)
      rw [hd] at D
      refine ⟨_, h11, ?_, rfl⟩
      rw [hfin, hd]
      exact ⟨r1, by simpa [putC] using r2, r3, r5, r6, .draw h1 D h5⟩
end

end
end Go.Proofs.Ytdhnacajgmjmlaa.Ev
