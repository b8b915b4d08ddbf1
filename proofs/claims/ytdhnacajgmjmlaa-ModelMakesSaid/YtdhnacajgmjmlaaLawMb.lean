/- ModelMakes. -/
import Derived.Deep.RegionHeld3
import Derived.Test.YtdhnacajgmjmlaaBoth
namespace Go.Proofs.Ytdhnacajgmjmlaa
open Go.RowKit
set_option linter.unusedVariables false
set_option linter.unusedSimpArgs false

structure OwnRef (w0 : World) (r : Nat) (u : Value) (L : RL) (w : World) : Prop where
  ref : RefIs w r u L
  bel : Below w0.heap.size w0 w
  low : ∀ k, k ∈ foot r u → w0.heap.size ≤ k
theorem OwnRef.new (w : World) : OwnRef w w.heap.size (.slice none 0 0) [] (w.alloc (.cells #[.slice none 0 0] 50)) :=
  ⟨RefIs.new w, ba (Below.refl _ _) _, by simp [foot, Value.ownBlock]⟩
theorem OwnRef.bel' {w0 w w' : World} {r : Nat} {u : Value} {L : RL} (h : OwnRef w0 r u L w) (hb : Below w.heap.size w w') : OwnRef w0 r u L w' := ⟨h.ref.bel hb, bx h.bel hb, h.low⟩
theorem OwnRef.post {w0 w w' : World} {r : Nat} {u : Value} {L : RL} {op key hi lim : Int} {s : ByteArray} {e : Ending} (h : OwnRef w0 r u L w) (hp : RDoPost w r u op key hi lim s L e w') :
    ∃ L' u' pa pn, e = .returned (.agg #[.int .i64 (doC op key hi lim s.size (absL L)), .string (doV op key hi lim s.size (absL L)), .slice pa (doP op key hi lim s.size (absL L)).length pn]) ∧ absL L' = doN op key hi lim s (absL L) ∧ L'.length ≤ L.length + 1 ∧ OwnRef w0 r u' L' w' := by
  obtain ⟨L', hL1, hL2, u', pv, rfl, hm, ho, hown, hr, hf⟩ := hp
  obtain ⟨pa, pn, rfl⟩ := row_form hr
  refine ⟨L', u', pa, pn, rfl, hL1, hL2, hm, h.bel.trans (ho.below h.low h.bel.size), fun k hk => ?_⟩
  rcases foot_turn hown k hk with h1 | h1
  · exact h.low k h1
  · exact Nat.le_trans h.bel.size h1
theorem Both.made {w0 w w' : World} {m r : Nat} {v u : Value} {ps : PairL} {L : RL} (h : OwnRef w0 r u L w) (k : OwnMap w m v ps w') : Both w0 m v ps r u L w' :=
  ⟨k.map, h.ref.bel k.bel, bx h.bel k.bel, fun x hx => Nat.le_trans h.bel.size (k.low x hx), h.low, fun x hx hx2 => by have := k.low x hx; have := h.ref.foot_lt x hx2; omega⟩

set_option maxRecDepth 100000 in
set_option maxHeartbeats 1000000 in
theorem ModelMakes_long (v0 : Value) (ps : PairL) (key : Int) (val : ByteArray) (w : World) (h : PairsAt w v0 ps) (hm : ps.length ≤ 9223372036854775807) (hv : val.size ≤ 9223372036854775807) (hl : 40 < ps.length ∨ 200 < val.size) :
    Calls Try.prog 5 #[v0, .int .u64 key, .string val] w fun e w' => e = .returned (.bool true) ∧ Below w.heap.size w w' := by
  obtain ⟨ao, cap, rfl, h⟩ := h
  obtain ⟨n, hn⟩ : ∃ n, n = ps.length := ⟨_, rfl⟩
  rw [← hn] at hm hl ⊢
  clear hn h
  by_cases h1 : (n : Int) > 40
  · go_enter Try.func5, Try.ntmps5
    go_wp2_with fail
    refine (known_z22 _).mono ?_
    rintro e w2 ⟨rfl, hb⟩
    have HB := hid hb
    clear hb
    go_wp2
    go_ret
    exact ⟨rfl, HB.out⟩
  · have h2 : (val.size : Int) > 200 := by omega
    have h1' : ¬ (n : Int) > 40 := h1
    go_enter Try.func5, Try.ntmps5
    go_wp2_with fail
    refine (known_z22 _).mono ?_
    rintro e w2 ⟨rfl, hb⟩
    have HB := hid hb
    clear hb
    go_wp2
    go_ret
    exact ⟨rfl, HB.out⟩

set_option maxRecDepth 100000 in
set_option maxHeartbeats 4000000 in
theorem ModelMakes_few (v0 : Value) (ps : PairL) (key : Int) (val : ByteArray) (w : World) (h : PairsAt w v0 ps) (hm : ps.length ≤ 40) (hv : val.size ≤ 200) :
    Calls Try.prog 5 #[v0, .int .u64 key, .string val] w fun e w' => e = .returned (.bool true) ∧ Below w.heap.size w w' := by
  have HP := hid h
  obtain ⟨ao, cap, rfl, h⟩ := h
  obtain ⟨n, hn⟩ : ∃ n, n = ps.length := ⟨_, rfl⟩
  rw [← hn] at hm HP ⊢
  have HN := hid hn
  have HH := hid h
  have h1 : ¬ (n : Int) > 40 := by omega
  have h2 : ¬ (val.size : Int) > 200 := by omega
  clear hn h
  go_enter Try.func5, Try.ntmps5
  go_wp2_with fail
  go_loopw [8] (fun i wr => ∃ (k : Nat) (u : Value) (L : RL), k ≤ n ∧ i = .int .i64 k ∧ L.length ≤ k ∧ Hid (OwnRef w w.heap.size u L wr) ∧ Hid (absL L = newL (ps.take k))) (fun i _ => (n - (intOf i).toNat))
  case atStart => exact ⟨0, _, [], by omega, rfl, by simp, OwnRef.new w, hid (by simp [newL, absL])⟩
  case round =>
    obtain ⟨k, u, L, hk, rfl, hLk, hS, hA⟩ := hrel
    by_cases hlt : k < n
    · have hkl : k < ps.length := by have := HN.out; omega
      rcases HH.out with h0 | ⟨b, off, rfl, hbl, hc⟩
      · have := HN.out; rw [h0] at this; simp at this; omega
      obtain ⟨K, hK⟩ : ∃ K, K = ps[k].1 := ⟨_, rfl⟩
      obtain ⟨S, hSS⟩ : ∃ S, S = ps[k].2 := ⟨_, rfl⟩
      have hcc := hc k hkl
      rw [← hK, ← hSS] at hcc
      have z0 := (hS.out.bel.cell (p := ⟨b, off + k * 2, none⟩) hbl).trans hcc.1
      have z1 := (hS.out.bel.cell (p := ⟨b, off + k * 2 + 1, none⟩) hbl).trans hcc.2
      have hT := hid (show newL (ps.take (k + 1)) = putZ K S (newL (ps.take k)) by rw [List.take_succ_eq_append_getElem hkl, newL_snoc, hK, hSS])
      have HC := hid hcc
      have i1 : (0 : Int) ≤ (k : Int) := by omega
      have i2 : (k : Int) < (n : Int) := by omega
      have hLf : L.length + 1 ≤ 1000000 := by omega
      clear hK hSS hc hcc
      by_cases hs : (S.size : Int) > 200
      · go_wp2_with fail
        refine (known_z22 _).mono ?_
        rintro e w2 ⟨rfl, hb⟩
        have HB := hid (bx hS.out.bel hb)
        clear hb
        go_wp2
        go_ret
        exact ⟨rfl, HB.out⟩
      · go_wp2
        go_region_held3 (fun w' => w'.cell? ⟨b, off + k * 2, none⟩ = some (.int .u64 K) ∧ w'.cell? ⟨b, off + k * 2 + 1, none⟩ = some (.string S)) (go_keep)
          (first | ((go_at_call 22; refine (RDo_z _ u 1 K 0 0 S L _ (hS.out.bel' (bdrew (Below.refl _ _))).ref hLf).mono ?_; intro e v4 hp; obtain ⟨L', u', pa, pn, rfl, hL1, hL2, hS'⟩ := (hS.out.bel' (bdrew (Below.refl _ _))).post hp; have HL1 := hid hL1; have HS' := hid hS'; have y0 := (hS'.bel.cell (p := ⟨b, off + k * 2, none⟩) hbl).trans HC.out.1; have y1 := (hS'.bel.cell (p := ⟨b, off + k * 2 + 1, none⟩) hbl).trans HC.out.2; clear hL1 hS' hp)))
        have hA' : Hid (absL L' = newL (ps.take (k + 1))) := by rw [hT.out, HL1.out, doN_put, hA.out]; exact rfl
        have hL3 : L'.length ≤ k + 1 := by omega
        clear hS hA
        go_wp2
        go_roundw
        case rel => exact ⟨k + 1, u', L', by omega, by go_num, hL3, HS', hA'⟩
        case measure => simp [intOf]; omega
    · obtain rfl : k = n := by omega
      have hA' : Hid (absL L = newL ps) := by have := hA.out; rw [List.take_of_length_le (by have := HN.out; omega)] at this; exact this
      clear hA
      go_wp2_with fail
      refine (New_at _ ps _ (by have := HP.out; exact this.bel hS.out.bel) (by have := HN.out; omega)).mono ?_
      rintro e w1 ⟨m, v, rfl, hown⟩
      have B1 := hid (Both.made hS.out hown)
      rw [← hA'.out] at B1
      clear hown
      go_wp2_with fail
      refine (Len_z m v _ _ B1.out.map).mono ?_
      rintro e w2 ⟨rfl, rfl⟩
      have hfew := hid (show (absL L).length ≤ 40 by have := absL_length L; omega)
      go_wp2_with fail
      refine (RPairs_z _ u L _ B1.out.ref).mono ?_
      rintro e w3 ⟨pv, rfl, hr3, hb3⟩
      obtain ⟨pa, pn, rfl⟩ := row_form hr3
      have B3 := hid (B1.out.bel' hb3)
      clear hr3 hb3 B1
      go_wp2_with fail
      refine (Pairs_some m v _ _ B3.out.map).mono ?_
      rintro e w4 ⟨pv4, rfl, hr4, hb4⟩
      obtain ⟨pa4, pn4, rfl⟩ := row_form hr4
      have B4 := hid (B3.out.bel' hb4)
      have R4 := hid (row_zero hr4)
      clear hr4 hb4 B3
      go_wp2_with fail
      refine (RPairs_z _ u L _ B4.out.ref).mono ?_
      rintro e w5 ⟨pv5, rfl, hr5, hb5⟩
      obtain ⟨pa5, pn5, rfl⟩ := row_form hr5
      have B5 := hid (B4.out.bel' hb5)
      have R5 := hid (row_zero hr5)
      have R5' := hid ((Only.of_below hb5 []).own R4.out (fun _ _ => by simp))
      clear hr5 hb5 B4
      go_wp2_with fail
      refine (RSamePairs_z _ _ _ _ _ R5'.out R5.out (by have := hfew.out; omega) (by have := hfew.out; omega)).mono ?_
      rintro e w6 ⟨rfl, hb6⟩
      rw [pairsEq_self]
      have B6 := hid (B5.out.bel' hb6)
      clear hb6 B5
      obtain ⟨Q, hQ⟩ : ∃ Q, Q = absL L := ⟨_, rfl⟩
      rw [← hQ] at B6 hfew
      have HQ := hid hQ
      clear hQ
      obtain ⟨ge, hge⟩ : ∃ x, x = errGet key Q := ⟨_, rfl⟩
      obtain ⟨gv, hgv⟩ : ∃ x, x = getM key Q := ⟨_, rfl⟩
      have HGE := hid hge
      have HGV := hid hgv
      go_wp2_with fail
      refine (Get_z m v key Q _ B6.out.map).mono ?_
      rintro e w7 ⟨rfl, hb7⟩
      rw [← hge, ← hgv]
      have B7 := hid (B6.out.bel' hb7)
      clear hb7 B6 hge hgv
      go_wp2_with fail
      refine (RDo_z _ u 2 key 0 0 ⟨#[]⟩ L _ B7.out.ref (by omega)).mono ?_
      intro e w8 hp
      obtain ⟨L1, u1, xa, xn, rfl, hL1, hL2, hB8, hT8, _⟩ := B7.out.rdoPost hp
      obtain ⟨d1, d2, d3, d4⟩ := do_get (key := key) (hi := 0) (lim := 0) (s := ⟨#[]⟩) (absL L) (may_zero (Or.inl rfl))
      rw [d4] at hL1
      rw [d1, d2, d3, ← HQ.out, ← HGE.out, ← HGV.out]
      have HQ1 := hid (HQ.out.trans hL1.symm)
      have B8 := hid hB8
      have hlen1 : L1.length ≤ k + 1 := by omega
      clear hp hL1 hB8 hT8 d1 d2 d3 d4 B7
      have X8 := hid (B8.out.side 54 #[.int .i64 ge, .string gv, .slice xa 0 xn])
      have B8' := hid (B8.out.bel' (ba (Below.refl _ _) (.cells #[.int .i64 ge, .string gv, .slice xa 0 xn] 54)))
      go_wp2_with fail
      refine (Put_z m v key val Q _ B8'.out.map (by have := hfew.out; omega)).mono ?_
      intro e w9 hp
      obtain ⟨rfl, v1, hB9, hT9⟩ := B8'.out.putPost hp
      obtain ⟨pe, hpe⟩ : ∃ x, x = putE val := ⟨_, rfl⟩
      rw [← hpe]
      have HPE := hid hpe
      have B9 := hid hB9
      have X9 := hid (X8.out.turn hT9)
      clear hp hB9 hT9 hpe X8 B8'
      go_wp2_with fail
      refine (RDo_z _ u1 1 key 0 0 val L1 _ B9.out.ref (by omega)).mono ?_
      intro e w10 hp
      obtain ⟨L2, u2, ya, yn, rfl, hL1, hL3, hB10, hT10, _⟩ := B9.out.rdoPost hp
      have hq2 : absL L2 = putZ key val Q := by rw [hL1, doN_put, HQ1.out]
      have hd3 : doP 1 key 0 0 val.size (absL L1) = [] := by
        unfold doP; rw [if_neg (by omega)]
      have hd2 : doV 1 key 0 0 val.size (absL L1) = ⟨#[]⟩ := by
        unfold doV; rw [if_neg (by omega)]
      rw [doC_put, hd2, hd3, ← HPE.out]
      obtain ⟨Q2, hQ2⟩ : ∃ Q2, Q2 = putZ key val Q := ⟨_, rfl⟩
      rw [← hQ2] at hq2 hB10
      have HQ2 := hid hq2
      have hfew2 := hid (show Q2.length ≤ 41 by have := putZ_length key val Q; have := hfew.out; rw [hQ2]; omega)
      have B10 := hid hB10
      have X10 := hid (X9.out.turn hT10)
      have hlen2 : L2.length ≤ k + 2 := by omega
      clear hp hL1 hB10 hT10 hd2 hd3 hq2 hQ2 X9 B9
      have Y10 := hid (B10.out.side 54 #[.int .i64 pe, .string ⟨#[]⟩, .slice ya 0 yn])
      have B10' := hid (B10.out.bel' (ba (Below.refl _ _) (.cells #[.int .i64 pe, .string ⟨#[]⟩, .slice ya 0 yn] 54)))
      have X10' := hid (X10.out.turn (Turn.bel (ba (Below.refl _ _) (.cells #[.int .i64 pe, .string ⟨#[]⟩, .slice ya 0 yn] 54))))
      obtain ⟨he, hhe⟩ : ∃ x, x = errGet key Q2 := ⟨_, rfl⟩
      obtain ⟨hv', hhv⟩ : ∃ x, x = getM key Q2 := ⟨_, rfl⟩
      have HHE := hid hhe
      have HHV := hid hhv
      clear X10 B10
      go_wp2_with fail
      refine (Get_z m v1 key Q2 _ B10'.out.map).mono ?_
      rintro e w11 ⟨rfl, hb11⟩
      rw [← hhe, ← hhv]
      have B11 := hid (B10'.out.bel' hb11)
      have X11 := hid (X10'.out.turn (Turn.bel hb11))
      have Y11 := hid (Y10.out.turn (Turn.bel hb11))
      clear hb11 hhe hhv X10' B10' Y10
      go_wp2_with fail
      refine (RDo_z _ u2 2 key 0 0 ⟨#[]⟩ L2 _ B11.out.ref (by omega)).mono ?_
      intro e w12 hp
      obtain ⟨L3, u3, za, zn, rfl, hL1, hL4, hB12, hT12, _⟩ := B11.out.rdoPost hp
      obtain ⟨d1, d2, d3, d4⟩ := do_get (key := key) (hi := 0) (lim := 0) (s := ⟨#[]⟩) (absL L2) (may_zero (Or.inl rfl))
      rw [d4] at hL1
      rw [d1, d2, d3, HQ2.out, ← HHE.out, ← HHV.out]
      have HQ3 := hid (hL1.trans HQ2.out)
      have B12 := hid hB12
      have X12 := hid (X11.out.turn hT12)
      have Y12 := hid (Y11.out.turn hT12)
      have hlen3 : L3.length ≤ k + 3 := by omega
      clear hp hL1 hB12 hT12 d1 d2 d3 d4 B11 X11 Y11
      have Z12 := hid (B12.out.side 54 #[.int .i64 he, .string hv', .slice za 0 zn])
      have T12 := hid (Turn.bel (m := m) (r := w.heap.size) (v := v1) (u := u3) (ba (Below.refl _ w12) (.cells #[.int .i64 he, .string hv', .slice za 0 zn] 54)))
      have B12' := hid (B12.out.bel' (ba (Below.refl _ _) (.cells #[.int .i64 he, .string hv', .slice za 0 zn] 54)))
      have X12' := hid (X12.out.turn T12.out)
      have Y12' := hid (Y12.out.turn T12.out)
      clear X12 Y12 B12 T12
      go_wp2_with fail
      refine (Delete_z m v1 key Q2 _ B12'.out.map).mono ?_
      intro e w13 hp
      obtain ⟨rfl, v2, hB13, hT13⟩ := B12'.out.putPost hp
      rw [← HHE.out]
      have B13 := hid hB13
      have X13 := hid (X12'.out.turn hT13)
      have Y13 := hid (Y12'.out.turn hT13)
      have Z13 := hid (Z12.out.turn hT13)
      clear hp hB13 hT13 X12' Y12' Z12 B12'
      go_wp2_with fail
      refine (RDo_z _ u3 3 key 0 0 ⟨#[]⟩ L3 _ B13.out.ref (by omega)).mono ?_
      intro e w14 hp
      obtain ⟨L4, u4, ua, un, rfl, hL1, hL5, hB14, hT14, _⟩ := B13.out.rdoPost hp
      obtain ⟨d1, d2, d3, d4⟩ := do_del (key := key) (hi := 0) (lim := 0) (s := ⟨#[]⟩) (absL L3) (may_zero (Or.inr (Or.inl rfl)))
      rw [d4, HQ3.out] at hL1
      rw [d1, d2, d3, HQ3.out, ← HHE.out]
      obtain ⟨Q4, hQ4⟩ : ∃ Q4, Q4 = delM key Q2 := ⟨_, rfl⟩
      rw [← hQ4] at hL1 hB14
      have hfew4 := hid (show Q4.length ≤ 41 by have := delM_length key Q2; have := hfew2.out; rw [hQ4]; omega)
      have HQ4 := hid hL1
      have B14 := hid hB14
      have X14 := hid (X13.out.turn hT14)
      have Y14 := hid (Y13.out.turn hT14)
      have Z14 := hid (Z13.out.turn hT14)
      clear hp hL1 hB14 hT14 d1 d2 d3 d4 B13 X13 Y13 Z13 hQ4
      have T14 := hid (Turn.bel (m := m) (r := w.heap.size) (v := v2) (u := u4) (ba (Below.refl _ w14) (.cells #[.int .i64 he, .string ⟨#[]⟩, .slice ua 0 un] 54)))
      have B14' := hid (B14.out.bel' (ba (Below.refl _ _) (.cells #[.int .i64 he, .string ⟨#[]⟩, .slice ua 0 un] 54)))
      have hx := (X14.out.turn T14.out).blk
      have hy := (Y14.out.turn T14.out).blk
      have hz := (Z14.out.turn T14.out).blk
      have x0 := hx.cell 0
      have x1 := hx.cell 1
      have y0 := hy.cell 0
      have z0 := hz.cell 0
      have z1 := hz.cell 1
      clear hx hy hz X14 Y14 Z14 T14
      go_wp2_with fail
      refine (Pairs_some m v2 Q4 _ B14'.out.map).mono ?_
      rintro e w15 ⟨pv15, rfl, hr15, hb15⟩
      obtain ⟨pa15, pn15, rfl⟩ := row_form hr15
      have B15 := hid (B14'.out.bel' hb15)
      have R15 := hid (row_zero hr15)
      clear hr15 hb15 B14'
      go_wp2_with fail
      refine (RPairs_z _ u4 L4 _ B15.out.ref).mono ?_
      rintro e w16 ⟨pv16, rfl, hr16, hb16⟩
      rw [HQ4.out] at hr16
      obtain ⟨pa16, pn16, rfl⟩ := row_form hr16
      have B16 := hid (B15.out.bel' hb16)
      have R16 := hid (row_zero hr16)
      have R16' := hid ((Only.of_below hb16 []).own R15.out (fun _ _ => by simp))
      clear hr16 hb16 B15
      go_wp2_with fail
      refine (RSamePairs_z _ _ _ _ _ R16'.out R16.out (by have := hfew4.out; omega) (by have := hfew4.out; omega)).mono ?_
      rintro e w17 ⟨rfl, hb17⟩
      rw [pairsEq_self]
      have B17 := hid (B16.out.bel' hb17)
      clear hb17 B16
      go_wp2_with fail
      refine (known_z22 _).mono ?_
      rintro e w18 ⟨rfl, hb18⟩
      have B18 := hid (B17.out.bel' hb18).bel
      clear hb18 B17
      go_wp2
      go_ret
      exact ⟨rfl, B18.out⟩

theorem ModelMakes_z (v0 : Value) (ps : PairL) (key : Int) (val : ByteArray) (w : World) (h : PairsAt w v0 ps) (hm : ps.length ≤ 9223372036854775807) (_ : 0 ≤ key) (_ : key ≤ 18446744073709551615) (hv : val.size ≤ 9223372036854775807) :
    Calls Try.prog 5 #[v0, .int .u64 key, .string val] w fun e w' => e = .returned (.bool true) ∧ Below w.heap.size w w' := by
  by_cases hl : 40 < ps.length ∨ 200 < val.size
  · exact ModelMakes_long v0 ps key val w h hm hv hl
  · exact ModelMakes_few v0 ps key val w h (by omega) (by omega)

end Go.Proofs.Ytdhnacajgmjmlaa
