/- An abstract machine, part 18: regions whose order is drawn; every step. Of no program. -/
import Derived.Test.YtdhnacajgmjmlaaEvR
namespace Go.Proofs.Ytdhnacajgmjmlaa.Ev
open Go.RowKit
noncomputable section
set_option linter.unusedVariables false
set_option linter.unusedSimpArgs false

theorem aveq_eq : ∀ (f : Nat), (∀ a b, aveq f a b = true → a = b) ∧ (∀ as bs, aveq.avseq f as bs = true → as = bs) := by
  intro f
  induction f with
  | zero =>
    refine ⟨fun a b h => by simp [aveq] at h, ?_⟩
    intro as
    cases as with
    | nil => intro bs h; cases bs with | nil => rfl | cons b bs => simp [aveq.avseq] at h
    | cons a as => intro bs h; cases bs with | nil => simp [aveq.avseq] at h | cons b bs => simp [aveq.avseq, aveq, ifB] at h
  | succ f ih =>
    obtain ⟨ih1, ih2⟩ := ih
    have h1 : ∀ a b, aveq (f + 1) a b = true → a = b := by
      intro a b h
      cases a with
      | int k n => simp only [aveq] at h; exact isInt_eq h
      | bool p => cases b <;> simp only [aveq] at h <;> first | (cases h; done) | (rename_i q; cases p <;> cases q <;> first | rfl | (cases h; done))
      | str s => cases b <;> simp only [aveq] at h <;> first | (cases h; done) | (rename_i q; unfold bytesEq at h; have h2 := beq_iff_eq.1 h; obtain ⟨d1⟩ := s; obtain ⟨d2⟩ := q; simp at h2; rw [h2])
      | nilptr => cases b <;> simp only [aveq] at h <;> first | (cases h; done) | rfl
      | ptr x o => cases b <;> simp only [aveq] at h <;> first | (cases h; done) | (obtain ⟨e1, e2⟩ : _ ∧ _ := by { rw [ifB_eq] at h; split at h; rename_i e; exact ⟨Nat.eq_of_beq_eq_true e, Nat.eq_of_beq_eq_true h⟩; cases h }; rw [e1, e2])
      | nilsl => cases b <;> simp only [aveq] at h <;> first | (cases h; done) | rfl
      | sl x o n c =>
        cases b <;> simp only [aveq] at h <;> first | (cases h; done) | skip
        rename_i y o' n' c'
        rw [ifB_eq] at h
        split at h <;> first | (cases h; done) | skip
        rename_i e1
        rw [ifB_eq] at h
        split at h <;> first | (cases h; done) | skip
        rename_i e2
        rw [ifB_eq] at h
        split at h <;> first | (cases h; done) | skip
        rename_i e3
        rw [Nat.eq_of_beq_eq_true e1, Nat.eq_of_beq_eq_true e2, Nat.eq_of_beq_eq_true e3]
        cases c <;> cases c' <;> simp only at h <;> first | (cases h; done) | rw [Nat.eq_of_beq_eq_true h]
      | slz x => cases b <;> simp only [aveq] at h <;> first | (cases h; done) | rw [Nat.eq_of_beq_eq_true h]
      | nilmap => cases b <;> simp only [aveq] at h <;> first | (cases h; done) | rfl
      | map x => cases b <;> simp only [aveq] at h <;> first | (cases h; done) | rw [Nat.eq_of_beq_eq_true h]
      | func g fi ca =>
        cases b <;> simp only [aveq] at h <;> first | (cases h; done) | skip
        rw [ifB_eq] at h
        split at h <;> first | (cases h; done) | skip
        rename_i e1
        rw [ifB_eq] at h
        split at h <;> first | (cases h; done) | skip
        rename_i e2
        rw [Nat.eq_of_beq_eq_true e1, ih2 _ _ e2, ih2 _ _ h]
      | yield x => cases b <;> simp only [aveq] at h <;> first | (cases h; done) | rw [Nat.eq_of_beq_eq_true h]
      | nilfunc => cases b <;> simp only [aveq] at h <;> first | (cases h; done) | rfl
      | iface t v =>
        cases b <;> simp only [aveq] at h <;> first | (cases h; done) | skip
        rw [ifB_eq] at h
        split at h <;> first | (cases h; done) | skip
        rename_i e1
        rw [Nat.eq_of_beq_eq_true e1, ih1 _ _ h]
      | niliface => cases b <;> simp only [aveq] at h <;> first | (cases h; done) | rfl
      | agg cs => cases b <;> simp only [aveq] at h <;> first | (cases h; done) | rw [ih2 _ _ h]
      | tup cs => cases b <;> simp only [aveq] at h <;> first | (cases h; done) | rw [ih2 _ _ h]
    refine ⟨h1, ?_⟩
    intro as
    induction as with
    | nil => intro bs h; cases bs with | nil => rfl | cons b bs => simp [aveq.avseq] at h
    | cons a as iha =>
      intro bs h
      cases bs with
      | nil => simp [aveq.avseq] at h
      | cons b bs =>
        simp only [aveq.avseq] at h
        rw [ifB_eq] at h
        split at h <;> first | (cases h; done) | skip
        rename_i e1
        rw [h1 _ _ e1, iha _ h]
theorem mem_ids : ∀ {qs : List PE} {k x : Nat} {y : List AV}, PE.mem k y x ∈ qs → x ∈ ids qs
  | [], k, x, y, h => by cases h
  | q :: qs, k, x, y, h => by
    rcases List.mem_cons.1 h with h1 | h1
    · subst h1; exact List.mem_cons_self ..
    · have := mem_ids h1
      cases q with
      | val j => exact this
      | mem j w z => exact List.mem_cons_of_mem _ this
theorem ids_inj : ∀ {ps : List PE} {i i2 id : Nat} {v v2 : List AV}, (ids ps).Pairwise (· ≠ ·) → PE.mem i v id ∈ ps → PE.mem i2 v2 id ∈ ps → i = i2
  | [], _, _, _, _, _, _, h, _ => by cases h
  | .val j :: ps, i, i2, id, v, v2, hp, h1, h2 => by
    have g1 : PE.mem i v id ∈ ps := by
      rcases List.mem_cons.1 h1 with q | q
      · cases q
      · exact q
    have g2 : PE.mem i2 v2 id ∈ ps := by
      rcases List.mem_cons.1 h2 with q | q
      · cases q
      · exact q
    exact ids_inj (ps := ps) hp g1 g2
  | .mem j w z :: ps, i, i2, id, v, v2, hp, h1, h2 => by
    have hp' : (∀ a' ∈ ids ps, z ≠ a') ∧ (ids ps).Pairwise (· ≠ ·) := List.pairwise_cons.1 hp
    rcases List.mem_cons.1 h1 with q1 | q1
    · rcases List.mem_cons.1 h2 with q2 | q2
      · cases q1; cases q2; rfl
      · cases q1; exact absurd rfl (hp'.1 _ (mem_ids q2))
    · rcases List.mem_cons.1 h2 with q2 | q2
      · cases q2; exact absurd rfl (hp'.1 _ (mem_ids q1))
      · exact ids_inj (ps := ps) hp'.2 q1 q2

section
variable {P : Program} {E : Env} {w0 w : World} {φ φ' : Phi} {h h' : H} {tm : Tr AV} {ctm : Array Value} {cs0 : List Frame} {s s' : S} {f : Frame} {fs : List Frame}
variable {all : Array Oper} {lst lo : Nat} {pend : List PE} {cl : Nat → Bool}

theorem setDst_eq {nt : Nat} {d : Option Nat} {v : AV} {k : Tr AV → Option S} {r : S} (hs : setDst nt tm d v k = some r) : k (putA tm d v) = some r ∧ ∀ x, d = some x → x < nt := by
  cases d with
  | none => exact ⟨hs, fun x hx => by cases hx⟩
  | some d =>
    obtain ⟨h1, h2⟩ := ifB_some hs
    rw [Tr.setT_eq] at h2
    exact ⟨h2, fun x hx => by injection hx with hx; subst hx; exact blt_iff.1 h1⟩
theorem soft_anti {o : Oper} {sr : SR} (h1 : soft E all tm h o = some sr) : antiA all o = false ∧ (ifB (wantedA all tm o) (match vopX E tm h o.op with
    | some v => some (.v v)
    | none => opt (optMap (aev tm) o.op.operands.toList) fun vals => opt (mop E o.op vals) fun p => some (.m vals p.1 p.2)) (some (.v .undef))) = some sr := by
  unfold soft at h1
  rw [ifB_eq] at h1
  split at h1
  · cases h1
  · rename_i ha
    exact ⟨by simpa using ha, h1⟩
/-- an operation is taken ahead -/
theorem DI.take {hi : Nat} (D : DI E φ h lo hi all lst pend tm ctm cl) {i : Nat} {o : Oper} (ho : all[i]? = some o) (hl : tb lst i = false) (he : edgesOk lst o.after.toList = true) (v : AV) {p : PE} (hp : p.i = i)
    (hpk : pendOK E φ h all (putA tm o.dst v) lo hi cl p) (hids : (ids (p :: pend)).Pairwise (· ≠ ·)) (hlt : ∀ id ∈ ids (p :: pend), id < hi) (hdl : ∀ d, o.dst = some d → d < ctm.size) (han : antiA all o = false) : DI E φ h lo hi all (sb lst i) (p :: pend) (putA tm o.dst v) ctm cl := by
  have hci : cl i = false := by
    cases hc : cl i
    · rfl
    · rw [D.d1 i hc] at hl; cases hl
  refine ⟨D.ok, ?_, ?_, D.d3, ?_, ?_, ?_, hids, ?_, ?_, hlt, ?_, ?_⟩
  · intro x hx; rw [tb_sb]; simp [D.d1 x hx]
  · intro x hx
    rw [tb_sb] at hx
    rcases Bool.or_eq_true_iff.1 hx with h1 | h1
    · right; have := of_decide_eq_true h1; simp [hp, this]
    · rcases D.d2 x h1 with h2 | h2
      · exact Or.inl h2
      · right; simp; right; simpa using h2
  · intro x o2 ho2 hx e hm hb
    rw [tb_sb] at hx ⊢
    rcases Bool.or_eq_true_iff.1 hx with h1 | h1
    · have h1 := of_decide_eq_true h1
      subst h1
      rw [ho] at ho2; injection ho2 with ho2; subst ho2
      simp [edgesOk_spec.1 he e hm hb]
    · simp [D.d4 x o2 ho2 h1 e hm hb]
  · intro t
    have old : vr φ (cellAt tm .undef t) (ctm.getD t Go.undef) ∨ ∃ x, x ∈ (p :: pend).map PE.i ∧ cl x = false ∧ dstS all x = some t := by
      rcases D.d6 t with h1 | ⟨x, h1, h2, h3⟩
      · exact Or.inl h1
      · exact Or.inr ⟨x, by simp; right; simpa using h1, h2, h3⟩
    cases hd : o.dst with
    | none => exact old
    | some d =>
      show vr φ (cellAt (tm.set d (some v)) .undef t) _ ∨ _
      rw [cellAt_setT]
      by_cases e : t = d
      · right
        exact ⟨i, by simp [hp], hci, by unfold dstS; rw [ho, e]; exact hd⟩
      · rw [if_neg e]; exact old
  · intro q hq
    rcases List.mem_cons.1 hq with rfl | hq
    · exact hpk
    · have := D.d7 q hq
      cases q with
      | val x => trivial
      | mem x vals id =>
        intro hc
        obtain ⟨g1, g2, g3, o2, O, mk, g4, g5, g6, g7⟩ := this hc
        refine ⟨g1, g2, g3, o2, O, mk, g4, g5, g6, fun d hd => ?_⟩
        cases hod : o.dst with
        | none => exact g7 d hd
        | some d2 =>
          show cellAt (tm.set d2 (some v)) .undef d = _
          rw [cellAt_setT]
          by_cases e : d = d2
          · exfalso
            subst e
            have h1 := (regOK_dst D.ok (show dstS all i = some d by unfold dstS; rw [ho]; exact hod) g4).1 hd
            subst h1
            have := D.d11 _ hq
            rw [show (PE.mem i vals id).i = i from rfl, hl] at this; cases this
          · rw [if_neg e]; exact g7 d hd
  · intro x hx
    rw [tb_sb] at hx
    rcases Bool.or_eq_true_iff.1 hx with h1 | h1
    · have := of_decide_eq_true h1; subst this; exact (Array.getElem?_eq_some_iff.1 ho).1
    · exact D.d10 x h1
  · intro q hq
    rw [tb_sb]
    rcases List.mem_cons.1 hq with rfl | hq
    · simp [hp]
    · simp [D.d11 q hq]
  · intro x d hx hd
    rw [tb_sb] at hx
    rcases Bool.or_eq_true_iff.1 hx with h1 | h1
    · have := of_decide_eq_true h1
      subst this
      exact hdl d (by unfold dstS at hd; rw [ho] at hd; exact hd)
    · exact D.d13 x d h1 hd
  · intro q hq oi hoi
    rcases List.mem_cons.1 hq with rfl | hq
    · rw [hp, ho] at hoi; injection hoi with hoi; subst hoi; exact han
    · exact D.d14 q hq oi hoi
theorem pass_sound {nt : Nat} (hnt : ctm.size = nt) {k : Tr AV → H → Nat → List PE → Option S} {r : S} : ∀ {os : List Oper} {i : Nat} {tm : Tr AV} {h : H} {lst : Nat} {pend : List PE}, all.toList.drop i = os → HR w0 φ h w → lo ≤ h.next → DI E φ h lo h.next all lst pend tm ctm cl → pass E all nt os i tm h lst pend k = some r →
    ∃ tm2 h2 lst2 pend2, k tm2 h2 lst2 pend2 = some r ∧ HR w0 φ h2 w ∧ Ext φ h φ h2 ∧ DI E φ h2 lo h2.next all lst2 pend2 tm2 ctm cl
  | [], i, tm, h, lst, pend, hos, hr, hlo, D, hp => ⟨tm, h, lst, pend, hp, hr, Ext.refl _ _, D⟩
  | o :: os, i, tm, h, lst, pend, hos, hr, hlo, D, hp => by
    have ho : all[i]? = some o := by
      have := congrArg (·[0]?) hos
      simpa using this
    have hos' : all.toList.drop (i + 1) = os := by
      have := congrArg (List.drop 1) hos
      simpa [List.drop_drop, Nat.add_comm] using this
    have hp' : ifB (tb lst i) (pass E all nt os (i + 1) tm h lst pend k) (ifB (edgesOk lst o.after.toList) (match soft E all tm h o with
      | none => pass E all nt os (i + 1) tm h lst pend k
      | some (.v a) => setDst nt tm o.dst a fun tm' => seqN (sb lst i) fun lst' => pass E all nt os (i + 1) tm' h lst' (.val i :: pend) k
      | some (.m vals O mk) => addB h O fun id h' => setDst nt tm o.dst (mk id) fun tm' => seqN (sb lst i) fun lst' => pass E all nt os (i + 1) tm' h' lst' (.mem i vals id :: pend) k)
      (pass E all nt os (i + 1) tm h lst pend k)) = some r := hp
    rw [ifB_eq] at hp'
    split at hp'
    · exact pass_sound hnt hos' hr hlo D hp'
    · rename_i hl
      have hl : tb lst i = false := by simpa using hl
      rw [ifB_eq] at hp'
      split at hp'
      · rename_i he
        cases hso : soft E all tm h o with
        | none => rw [hso] at hp'; exact pass_sound hnt hos' hr hlo D hp'
        | some sr =>
          obtain ⟨han, hso2⟩ := soft_anti hso
          rw [hso] at hp'
          cases sr with
          | v a =>
            obtain ⟨h1, hdl⟩ := setDst_eq hp'
            rw [seqN_eq] at h1
            have D2 := D.take ho hl he a (p := .val i) rfl trivial D.d8 D.d12 (by rw [hnt]; exact hdl) han
            exact pass_sound hnt hos' hr hlo D2 h1
          | m vals O mk =>
            have hp2 : addB h O (fun id h' => setDst nt tm o.dst (mk id) fun tm' => seqN (sb lst i) fun lst' => pass E all nt os (i + 1) tm' h' lst' (.mem i vals id :: pend) k) = some r := hp'
            rw [addB_eq] at hp2
            obtain ⟨h1, hdl⟩ := setDst_eq hp2
            rw [seqN_eq] at h1
            -- what it makes
            have hmop : mop E o.op vals = some (O, mk) := by
              rw [ifB_eq] at hso2
              split at hso2
              · split at hso2
                · injection hso2 with hso2; cases hso2
                · obtain ⟨vs, g1, g2⟩ := opt_some hso2
                  obtain ⟨p, g3, g4⟩ := opt_some g2
                  injection g4 with g4
                  injection g4 with g4 g5 g6
                  subst g4 g5 g6
                  exact g3
              · injection hso2 with hso2; cases hso2
            obtain ⟨hr2, he2⟩ := hr.reserve O
            have D1 := DI_mono (he2.b (Nat.le_refl _)) he2.next D
            have hget : (h.add O).t.get h.next = some O := by simp [H.add, Tr.get_set]
            have D2 := D1.take ho hl he (mk h.next) (p := .mem i vals h.next) rfl
              (fun _ => ⟨hr.fresh (Nat.le_refl _), hlo, by simp [H.add], o, O, mk, ho, hmop, hget, fun d hd => by rw [hd]; show cellAt (tm.set d (some (mk h.next))) .undef d = _; rw [cellAt_setT, if_pos rfl]⟩)
              (List.pairwise_cons.2 ⟨fun x hx => by have := D.d12 x hx; omega, D.d8⟩)
              (fun x hx => by
                rcases List.mem_cons.1 hx with rfl | hx
                · simp [H.add]
                · have := D.d12 x hx; simp [H.add]; omega)
              (by rw [hnt]; exact hdl) han
            obtain ⟨tm2, h2, lst2, pend2, g1, g2, g3, g4⟩ := pass_sound hnt hos' hr2 (by simp [H.add]; omega) D2 h1
            exact ⟨tm2, h2, lst2, pend2, g1, g2, he2.trans g3, g4⟩
      · exact pass_sound hnt hos' hr hlo D hp'
end

end
end Go.Proofs.Ytdhnacajgmjmlaa.Ev
