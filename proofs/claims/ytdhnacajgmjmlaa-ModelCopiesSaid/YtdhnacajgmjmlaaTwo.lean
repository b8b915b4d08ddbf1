/- Two pairs of maps side by side. -/
import Derived.Deep.RegionHeld3
import Derived.Test.YtdhnacajgmjmlaaStays
namespace Go.Proofs.Ytdhnacajgmjmlaa
open Go.RowKit
set_option linter.unusedVariables false
set_option linter.unusedSimpArgs false

structure Two (w0 : World) (m : Nat) (v : Value) (ps : PairL) (r : Nat) (u : Value) (L : RL) (c : Nat) (v2 : Value) (ps2 : PairL) (q : Nat) (u2 : Value) (L2 : RL) (w : World) : Prop where
  A : Both w0 m v ps r u L w
  B : Both w0 c v2 ps2 q u2 L2 w
  ap : ∀ k, (k ∈ foot c v2 ∨ k ∈ foot q u2) → k ∉ foot m v ∧ k ∉ foot r u
section
variable {w0 w w' : World} {m r c q : Nat} {v v' u u' v2 u2 : Value} {ps ps' ps2 : PairL} {L L' L2 : RL}
theorem Two.swap (h : Two w0 m v ps r u L c v2 ps2 q u2 L2 w) : Two w0 c v2 ps2 q u2 L2 m v ps r u L w :=
  ⟨h.B, h.A, fun k hk => ⟨fun hx => by have := h.ap k (Or.inl hx); exact hk.elim this.1 this.2, fun hx => by have := h.ap k (Or.inr hx); exact hk.elim this.1 this.2⟩⟩
theorem Two.turn (h : Two w0 m v ps r u L c v2 ps2 q u2 L2 w) (hA : Both w0 m v' ps' r u' L' w') (hT : Turn m r w v u w' v' u') : Two w0 m v' ps' r u' L' c v2 ps2 q u2 L2 w' := by
  have hno : ∀ k, (k ∈ foot c v2 ∨ k ∈ foot q u2) → k ∉ foot m v ++ foot r u := fun k hk hx => (List.mem_append.1 hx).elim (h.ap k hk).1 (h.ap k hk).2
  have hlt : ∀ k, (k ∈ foot c v2 ∨ k ∈ foot q u2) → k < w.heap.size := fun k hk => hk.elim (h.B.map.foot_lt k) (h.B.ref.foot_lt k)
  refine ⟨hA, ⟨h.B.map.only hT.only (hno c (Or.inl (foot_mem.2 (Or.inl rfl)))) (fun k hk => hno k (Or.inl (foot_mem.2 (Or.inr hk)))), h.B.ref.only hT.only (hno q (Or.inr (foot_mem.2 (Or.inl rfl)))) (fun k hk => hno k (Or.inr (foot_mem.2 (Or.inr hk)))), hA.bel, h.B.mlow, h.B.rlow, h.B.far⟩, fun k hk => ⟨fun hx => ?_, fun hx => ?_⟩⟩
  · rcases hT.mf k hx with h1 | h1
    · exact (h.ap k hk).1 h1
    · have := hlt k hk; omega
  · rcases hT.rf k hx with h1 | h1
    · exact (h.ap k hk).2 h1
    · have := hlt k hk; omega
theorem Two.bel' (h : Two w0 m v ps r u L c v2 ps2 q u2 L2 w) (hb : Below w.heap.size w w') : Two w0 m v ps r u L c v2 ps2 q u2 L2 w' := h.turn (h.A.bel' hb) (Turn.bel hb)
end
theorem Two.only {w0 w w' : World} {m r c q : Nat} {v u v2 u2 : Value} {ps ps2 : PairL} {L L2 : RL} {f : List Nat} (h : Two w0 m v ps r u L c v2 ps2 q u2 L2 w) (ho : Only f w w') (hf : ∀ k, k ∈ f → w0.heap.size ≤ k ∧ k ∉ foot m v ∧ k ∉ foot r u ∧ k ∉ foot c v2 ∧ k ∉ foot q u2) : Two w0 m v ps r u L c v2 ps2 q u2 L2 w' := by
  have hb := h.A.bel.trans (ho.below (B := w0.heap.size) (fun x hx => (hf x hx).1) h.A.bel.size)
  refine ⟨⟨h.A.map.only ho (fun hx => (hf _ hx).2.1 (foot_mem.2 (Or.inl rfl))) (fun k hk hx => (hf k hx).2.1 (foot_mem.2 (Or.inr hk))), h.A.ref.only ho (fun hx => (hf _ hx).2.2.1 (foot_mem.2 (Or.inl rfl))) (fun k hk hx => (hf k hx).2.2.1 (foot_mem.2 (Or.inr hk))), hb, h.A.mlow, h.A.rlow, h.A.far⟩,
    ⟨h.B.map.only ho (fun hx => (hf _ hx).2.2.2.1 (foot_mem.2 (Or.inl rfl))) (fun k hk hx => (hf k hx).2.2.2.1 (foot_mem.2 (Or.inr hk))), h.B.ref.only ho (fun hx => (hf _ hx).2.2.2.2 (foot_mem.2 (Or.inl rfl))) (fun k hk hx => (hf k hx).2.2.2.2 (foot_mem.2 (Or.inr hk))), hb, h.B.mlow, h.B.rlow, h.B.far⟩, h.ap⟩
theorem Two.feet {w0 w : World} {m r c q : Nat} {v u v2 u2 : Value} {ps ps2 : PairL} {L L2 : RL} (h : Two w0 m v ps r u L c v2 ps2 q u2 L2 w) : ∀ k, w.heap.size ≤ k → w0.heap.size ≤ k ∧ k ∉ foot m v ∧ k ∉ foot r u ∧ k ∉ foot c v2 ∧ k ∉ foot q u2 := fun k hk =>
  ⟨Nat.le_trans h.A.bel.size hk, fun hx => by have := h.A.map.foot_lt k hx; omega, fun hx => by have := h.A.ref.foot_lt k hx; omega, fun hx => by have := h.B.map.foot_lt k hx; omega, fun hx => by have := h.B.ref.foot_lt k hx; omega⟩
theorem pairEq_comm (p q : Int × ByteArray) : pairEq p q = pairEq q p := by
  unfold pairEq
  rw [Bool.eq_iff_iff]
  simp only [Bool.and_eq_true, beq_iff_eq]
  exact ⟨fun h => ⟨h.1.symm, h.2.symm⟩, fun h => ⟨h.1.symm, h.2.symm⟩⟩
theorem pairsEq_comm : ∀ (ps qs : PairL), pairsEq ps qs = pairsEq qs ps
  | [], [] => rfl
  | [], _ :: _ => rfl
  | _ :: _, [] => rfl
  | p :: ps, q :: qs => by unfold pairsEq; rw [pairEq_comm p q, pairsEq_comm ps qs]
theorem pc_set1 (ps : PairL) (i : Nat) (h : i < ps.length) (s : ByteArray) : (pc ps).set (i * 2 + 1) (.string s) = pc (ps.set i (ps[i].1, s)) := by
  have e0 : ps.set i (ps[i].1, s) = ps.take i ++ [(ps[i].1, s)] ++ ps.drop (i + 1) := by
    rw [List.set_eq_take_append_cons_drop, if_pos h, List.append_assoc, List.singleton_append]
  rw [e0, ← pc_set ps i h]
  congr 1
  have := (pc_at ps i h).1
  apply List.ext_getElem?
  intro j
  rw [List.getElem?_set]
  split
  · rename_i e
    subst e
    rw [if_pos (List.getElem?_eq_some_iff.1 this).1]
    exact this
  · rfl
def Small (ps : PairL) : Prop := ∀ p ∈ ps, p.2.size ≤ 120
theorem small_nil : Small [] := fun p hp => by cases hp
theorem mem_putM_of {k : Int} {s : ByteArray} {ps : PairL} {p : Int × ByteArray} (h : p ∈ putM k s ps) : p = (k, s) ∨ p ∈ ps := by
  unfold putM at h
  rw [List.mem_append, List.mem_append] at h
  rcases h with (h | h) | h
  · exact Or.inr (List.mem_of_mem_take h)
  · left; simpa using h
  · exact Or.inr (List.mem_of_mem_drop h)
theorem mem_delM_of {k : Int} {ps : PairL} {p : Int × ByteArray} (h : p ∈ delM k ps) : p ∈ ps := by
  unfold delM at h
  split at h
  · rw [List.mem_append] at h
    rcases h with h | h
    · exact List.mem_of_mem_take h
    · exact List.mem_of_mem_drop h
  · exact h
theorem small_doN {op key hi lim : Int} {s : ByteArray} {ps : PairL} (h : Small ps) : Small (doN op key hi lim s ps) := by
  intro p hp
  unfold doN at hp
  split at hp
  · rename_i h0
    rcases mem_putM_of hp with rfl | hp
    · rcases may_cases h0.1 with h1 | h1 | h1 | h1
      · exact h1.2
      · omega
      · omega
      · omega
    · exact h p hp
  · split at hp
    · exact h p (mem_delM_of hp)
    · exact h p hp

def BehPostS (w : World) (n : Nat) (e : Ending) (w' : World) : Prop :=
  ∃ m v r u L, e = .returned (.tuple #[.pointer (some ⟨m, 0, none⟩), .pointer (some ⟨r, 0, none⟩), .bool true]) ∧ L.length ≤ n ∧ Both w m v (absL L) r u L w' ∧ Small (absL L)

set_option maxRecDepth 100000 in
set_option maxHeartbeats 4000000 in
theorem behind_s (v0 : Value) (cs : List CallT) (w : World) (h : CallsAt w v0 cs) (hn : cs.length ≤ 1000) :
    Calls Try.prog 37 #[v0] w (BehPostS w cs.length) := by
  obtain ⟨ao, cap, rfl, h⟩ := h
  obtain ⟨n, hl⟩ : ∃ n, n = cs.length := ⟨_, rfl⟩
  rw [← hl] at hn ⊢
  have HN := hid hl
  have HH := hid h
  clear hl h
  go_enter Try.func37, Try.ntmps37
  go_wp2_with fail
  refine (New_nil w).mono ?_
  rintro e w1 ⟨m, v, rfl, hown⟩
  have hB := hid (Both.start hown)
  have HO := hid hown.bel.size
  have c1 : m ≠ w1.heap.size := Nat.ne_of_lt hown.map.obj.lt
  clear hown
  go_wp2_with fail
  go_loopw [7] (fun i wr => ∃ (k : Nat) (v' u : Value) (L : RL), k ≤ n ∧ i = .int .i64 k ∧ L.length ≤ k ∧ Hid (Both w m v' (absL L) w1.heap.size u L wr) ∧ Hid (Small (absL L))) (fun i _ => (n - (intOf i).toNat))
  case atStart => exact ⟨0, v, .slice none 0 0, [], by omega, rfl, by simp, hB, hid (by rw [show absL [] = [] from rfl]; exact small_nil)⟩
  case round =>
    obtain ⟨k, v', u, L, hk, rfl, hLk, hS, hSm⟩ := hrel
    by_cases hlt : k < n
    · have hkl : k < cs.length := by have := HN.out; omega
      rcases HH.out with h0 | ⟨b, off, rfl, hbl, hc⟩
      · have := HN.out; rw [h0.1] at this; simp at this; omega
      have hcc := hid (hc k hkl)
      obtain ⟨C, hC⟩ : ∃ C, C = cs[k] := ⟨_, rfl⟩
      have hC' := hid hC
      rw [← hC] at hcc
      obtain ⟨o, K, H, M, S⟩ := C
      obtain ⟨g0, g1, g2, g3, g4⟩ := cellsC hS.out.bel hbl hcc.out
      have i1 : (0 : Int) ≤ (k : Int) := by omega
      have i2 : (k : Int) < (n : Int) := by omega
      have hfew : (absL L).length + 1 ≤ 1000000 := by have := absL_length L; omega
      clear hc hC
      go_wp2
      go_region_held3 (fun w' => w'.cell? ⟨b, off + k * 5, none⟩ = some (.int .i64 o) ∧ w'.cell? ⟨b, off + k * 5 + 1, none⟩ = some (.int .u64 K) ∧ w'.cell? ⟨b, off + k * 5 + 2, none⟩ = some (.int .u64 H) ∧ w'.cell? ⟨b, off + k * 5 + 3, none⟩ = some (.int .i64 M) ∧ w'.cell? ⟨b, off + k * 5 + 4, none⟩ = some (.string S)) (go_keep)
        (first
        | ((go_at_call 65; refine (MMay_z o K H M S _).mono ?_; rintro e v1 ⟨rfl, hb1⟩; have B1 := hid (hS.out.bel' (bx (bdrew (Below.refl _ _)) hb1)); obtain ⟨k0, k1, k2, k3, k4⟩ := cellsC B1.out.bel hbl hcc.out; clear hb1))
        | ((go_at_call 58; refine (RMay_z22 o K H M S _).mono ?_; rintro e v2 ⟨rfl, hb2⟩; have B2 := hid (B1.out.bel' hb2); obtain ⟨l0, l1, l2, l3, l4⟩ := cellsC B2.out.bel hbl hcc.out; clear hb2))
        | ((go_at_call 38; refine (Do_z m v' o K H M S _ _ B2.out.map hfew).mono ?_; intro e v3 hp; obtain ⟨v'', pv, rfl, hm', ho', hown', hrow', hpf'⟩ := hp; obtain ⟨pa, pn, rfl⟩ := row_form hrow'; have B3 := hid (B2.out.mapTurn hm' ho' hown'); have HR3 := hid hrow'; have HP3 : Hid (∀ q, (Value.slice pa (List.length (doP o K H M S.size (absL L))) pn).ownBlock = some q → q ∉ foot w1.heap.size u) := (fun q hq hx => by have h1 := (row_lt hrow' q hq).1; have h2 := B2.out.ref.foot_lt q hx; omega); obtain ⟨m0, m1, m2, m3, m4⟩ := cellsC B3.out.bel hbl hcc.out; clear hm' ho' hown' hrow' hpf'))
        | ((go_at_call 22; refine (RDo_z _ u o K H M S L _ B3.out.ref (by omega)).mono ?_; intro e v4 hp; obtain ⟨L', hL1, hL2, u', qv, rfl, hm', ho', hown', hrow', hpf'⟩ := hp; obtain ⟨qa, qn, rfl⟩ := row_form hrow'; have HL1 := hid hL1; have B4 := hid (B3.out.refTurn hm' ho' hown'); have HR4 := hid (row_zero (ho'.own (row_zero HR3.out) HP3.out)); have HR5 := hid (row_zero hrow'); obtain ⟨n0, n1, n2, n3, n4⟩ := cellsC B4.out.bel hbl hcc.out; clear hL1 hm' ho' hown' hrow' hpf'))
        | ((go_at_call 39; refine (RSame_z _ _ _ _ _ _ _ _ _ HR4.out HR5.out doP_few doP_few).mono ?_; rintro e v5 ⟨rfl, hb5⟩; rw [same_self]; have B5 : Hid (Both w m v'' (absL L') w1.heap.size u' L' v5) := (by have := B4.out.bel' hb5; rw [← HL1.out] at this; exact this); obtain ⟨o0, o1, o2, o3, o4⟩ := cellsC B5.out.bel hbl hcc.out; clear hb5)))
      have hL3 : L'.length ≤ k + 1 := by omega
      have hSm' : Hid (Small (absL L')) := by rw [HL1.out]; exact small_doN hSm.out
      clear hS hL2 hLk B1 B2 B3 B4
      go_wp2
      go_roundw
      case rel => exact ⟨k + 1, v'', u', L', by omega, by go_num, hL3, B5, hSm'⟩
      case measure => simp [intOf]; omega
    · obtain rfl : k = n := by omega
      have hfew := hid (show (absL L).length ≤ 1000000 by have := absL_length L; omega)
      go_wp2_with fail
      refine (Pairs_some m v' (absL L) _ hS.out.map).mono ?_
      rintro e v3 ⟨pv, rfl, hr3, hb3⟩
      obtain ⟨pa, pn, rfl⟩ := row_form hr3
      have B3 := hid (hS.out.bel' hb3)
      have HR3 := hid (row_zero hr3)
      clear hr3 hb3
      go_wp2_with fail
      refine (RPairs_z _ u L _ B3.out.ref).mono ?_
      rintro e v4 ⟨qv, rfl, hr4, hb4⟩
      obtain ⟨qa, qn, rfl⟩ := row_form hr4
      have B4 := hid (B3.out.bel' hb4)
      have HR4 := hid (row_zero hr4)
      have HR5 := hid ((Only.of_below hb4 []).own HR3.out (fun _ _ => by simp))
      clear hr4 hb4
      go_wp2_with fail
      refine (RSamePairs_z _ _ _ _ _ HR5.out HR4.out hfew.out hfew.out).mono ?_
      rintro e v5 ⟨rfl, hb5⟩
      rw [pairsEq_self]
      have B5 := hid (B4.out.bel' hb5)
      clear hb5 hS B3 B4
      go_wp2
      go_ret3
      exact ⟨m, v', _, u, L, rfl, hLk, B5.out, hSm.out⟩

end Go.Proofs.Ytdhnacajgmjmlaa
