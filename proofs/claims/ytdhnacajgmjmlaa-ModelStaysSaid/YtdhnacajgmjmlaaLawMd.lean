/- ModelStays: no calls ahead; joined. -/
import Derived.Test.YtdhnacajgmjmlaaLawMc
namespace Go.Proofs.Ytdhnacajgmjmlaa
open Go.RowKit
set_option linter.unusedVariables false
set_option linter.unusedSimpArgs false

set_option maxRecDepth 100000 in
set_option maxHeartbeats 4000000 in
theorem ModelStays_none (cs : List CallT) (o K H M : Int) (S : ByteArray) (w : World) (h : CallsAt w (.slice none 0 0) cs) (hcs : cs = []) :
    Calls Try.prog 8 #[.slice none 0 0, .agg #[.int .i64 o, .int .u64 K, .int .u64 H, .int .i64 M, .string S]] w fun e w' => e = .returned (.bool true) ∧ Below w.heap.size w w' := by
  obtain ⟨i0, hi0, hz0, hz1, hz2⟩ := info_parts infoCall
  have HH := hid h
  have HN := hid hcs
  have HCELL := hid trivial
  have HCC := hid trivial
  have X0 := (Blk.new w 58 #[.int .i64 o, .int .u64 K, .int .u64 H, .int .i64 M, .string S])
  have HX0 := hid X0
  have HX1 : Hid (Blk ((w.alloc (.cells #[.int .i64 o, .int .u64 K, .int .u64 H, .int .i64 M, .string S] 58)).alloc (.cells #[.int .i64 o, .int .u64 K, .int .u64 H, .int .i64 M, .string S] 58)) (w.heap.size + 1) 58 #[.int .i64 o, .int .u64 K, .int .u64 H, .int .i64 M, .string S]) := by
    have := Blk.new (w.alloc (.cells #[.int .i64 o, .int .u64 K, .int .u64 H, .int .i64 M, .string S] 58)) 58 #[.int .i64 o, .int .u64 K, .int .u64 H, .int .i64 M, .string S]
    rw [World.size_alloc] at this
    exact this
  clear hcs h X0
  go_enter Try.func8, Try.ntmps8
  go_wp2_with fail
  go_region_law (first
    | (refine step_append_none rfl (.const (.slice none 0 0)) (.tmp 14) 82 rfl 0 58 i0 5 Try.underlying82 hi0 (.slice none 0 0) 0 [] rfl ⟨rfl, Or.inl ⟨rfl, rfl⟩⟩ rfl ?_)
    | (refine step_append_own rfl (.tmp 15) (.tmp 17) 82 rfl 0 58 i0 (.agg #[.int .i64 0, .int .u64 0, .int .u64 0, .int .i64 0, .string ⟨#[]⟩]) 5 48 Try.underlying82 hi0 hz0 hz1 hz2 rfl (by decide) (.slice none 0 0) 0 [] rfl ⟨rfl, Or.inl ⟨rfl, rfl⟩⟩ ⟨w.heap.size + 1, 0, none⟩ 1 1 (callCells ⟨o, K, H, M, S⟩).toList rfl rfl (World.news_of_block HX1.out.drew) (by simp [callCells, Value.oneCell']) (by unfold maxLen; omega) (by omega) (Nat.zero_le _) ?_; intro v2 wB ho2 hg2 hob2; obtain ⟨a2, c2, rfl⟩ := row_form ho2; simp only [Nat.zero_add, List.nil_append] at ho2; have HB2 : Hid (Below w.heap.size w wB) := Below.grown (by (repeat (first | exact Below.refl _ _ | (refine ba ?_ _) | (refine Below.drew ?_) | (refine below_drewN ?_ _) | (refine Below.alloc ?_ (by first | omega | (simp; done) | (simp; omega)) _) | (refine Below.setCell ?_ (by first | omega | (simp; done) | (simp; omega)) _) | (refine bx ?_ (by assumption)) | (refine Below.trans ?_ (Below.mono (by assumption) (by first | omega | (simp; done) | (simp; omega))))))) hg2 (by first | (simp; done) | (simp; omega)) (fun k e => by simp [Value.ownBlock] at e); have HXB : Hid (Blk wB w.heap.size 58 #[.int .i64 o, .int .u64 K, .int .u64 H, .int .i64 M, .string S]) := Blk.grown (HX0.out.alloc _).drew hg2 (by simp [Value.ownBlock]); have HC2 : Hid (CallsAt wB (.slice a2 1 c2) (cs ++ [⟨o, K, H, M, S⟩])) := CallsAt.of_row (base := 0) (by rw [HN.out]; exact ho2); clear ho2 hg2 hob2)
    | (go_simp; go_at_call 36; refine (few_z _ _ 41 _ HC2.out (by rw [HN.out]; simp)).mono ?_; rintro e w3 ⟨rfl, rfl⟩))
  all_goals
    try go_simp
    try simp only [Act.put, List.setIfInBounds_toArray, List.set_cons_zero, List.set_cons_succ]
    clear HX0 HX1 HCELL HCC
    cases hfb : fewB (cs ++ [⟨o, K, H, M, S⟩]) 41
    · clear hfb
      go_wp2_with fail
      refine (known_z22 _).mono ?_
      rintro e w12 ⟨rfl, hb12⟩
      have B12 := hid (bx HB2.out hb12)
      clear hb12
      go_wp2
      go_ret
      exact ⟨rfl, B12.out⟩
    · have hle : cs.length ≤ 40 := by have := fewB_t hfb; simp at this; omega
      clear hfb
      go_wp2_with fail
      refine (behind_z _ cs _ (HH.out.bel HB2.out) (by omega)).mono ?_
      rintro e w4 ⟨m, v, r, u, L, rfl, hL, hB⟩
      have B4 := hid hB
      have hfew := hid (show (absL L).length ≤ 1000 by have := absL_length L; omega)
      clear hB
      go_wp2_with fail
      refine (Pairs_some m v _ _ B4.out.map).mono ?_
      rintro e w5 ⟨wv, rfl, hr5, hb5⟩
      obtain ⟨wa, wn, rfl⟩ := row_form hr5
      have W5 := hid (B4.out.sideRow hr5)
      have B5 := hid (B4.out.bel' hb5)
      have hxb := HXB.out.bel B5.out.bel
      have y0 := hxb.cell 0
      have y1 := hxb.cell 1
      have y2 := hxb.cell 2
      have y3 := hxb.cell 3
      have y4 := hxb.cell 4
      clear hr5 hb5 B4 hxb
      go_wp2_with fail
      refine (Do_z m v o K H M S _ _ B5.out.map (by have := hfew.out; omega)).mono ?_
      intro e w6 hp
      obtain ⟨v1, pa, pn, rfl, hB6, hT6, hS6⟩ := B5.out.doPost hp
      obtain ⟨dc, hdc⟩ : ∃ x, x = doC o K H M S.size (absL L) := ⟨_, rfl⟩
      obtain ⟨dv, hdv⟩ : ∃ x, x = doV o K H M S.size (absL L) := ⟨_, rfl⟩
      obtain ⟨dp, hdp⟩ : ∃ x, x = doP o K H M S.size (absL L) := ⟨_, rfl⟩
      rw [← hdp] at hS6
      rw [← hdc, ← hdv, ← hdp]
      have HDC := hid hdc
      have HDV := hid hdv
      have HDP := hid hdp
      have hdl := hid (show dp.length ≤ 1000000 by rw [hdp]; exact doP_few)
      have B6 := hid hB6
      have S6 := hid hS6
      have W6 := hid (W5.out.turn hT6)
      clear hp hB6 hT6 hS6 hdc hdv hdp B5 W5 y0 y1 y2 y3 y4
      have X6 := hid (B6.out.side 54 #[.int .i64 dc, .string dv, .slice pa (List.length dp) pn])
      have T6 := hid (Turn.bel (m := m) (r := r) (v := v1) (u := u) (ba (Below.refl _ w6) (.cells #[.int .i64 dc, .string dv, .slice pa (List.length dp) pn] 54)))
      have B6' := hid (B6.out.bel' (ba (Below.refl _ _) (.cells #[.int .i64 dc, .string dv, .slice pa (List.length dp) pn] 54)))
      have S6' := hid (S6.out.turn T6.out)
      have W6' := hid (W6.out.turn T6.out)
      have hxb := HXB.out.bel B6'.out.bel
      have y0 := hxb.cell 0
      have y1 := hxb.cell 1
      have y2 := hxb.cell 2
      have y3 := hxb.cell 3
      have y4 := hxb.cell 4
      clear B6 S6 W6 T6 hxb
      go_wp2_with fail
      refine (RDo_z r u o K H M S L _ B6'.out.ref (by omega)).mono ?_
      intro e w7 hp
      obtain ⟨L', u', qa, qn, rfl, hL1, hL2, hB7, hT7, hS7⟩ := B6'.out.rdoPost hp
      rw [← HDP.out] at hS7
      rw [← HDC.out, ← HDV.out, ← HDP.out]
      have B7 := hid hB7
      have Q7 := hid hS7
      have S7 := hid (S6'.out.turn hT7)
      have W7 := hid (W6'.out.turn hT7)
      have X7 := hid (X6.out.turn hT7)
      clear hp hL1 hL2 hB7 hT7 hS7 B6' S6' W6' X6 y0 y1 y2 y3 y4
      have Y7 := hid (B7.out.side 54 #[.int .i64 dc, .string dv, .slice qa (List.length dp) qn])
      have T7 := hid (Turn.bel (m := m) (r := r) (v := v1) (u := u') (ba (Below.refl _ w7) (.cells #[.int .i64 dc, .string dv, .slice qa (List.length dp) qn] 54)))
      have B8 := hid (B7.out.bel' (ba (Below.refl _ _) (.cells #[.int .i64 dc, .string dv, .slice qa (List.length dp) qn] 54)))
      have S8 := hid (S7.out.turn T7.out)
      have Q8 := hid (Q7.out.turn T7.out)
      have W8 := hid (W7.out.turn T7.out)
      have X8 := hid (X7.out.turn T7.out)
      have x0 := X8.out.blk.cell 0
      have x1 := X8.out.blk.cell 1
      have x2 := X8.out.blk.cell 2
      clear B7 S7 Q7 W7 X7 T7
      go_wp2_with fail
      refine (RSame_z _ _ _ _ _ _ _ _ _ S8.out.row Q8.out.row hdl.out hdl.out).mono ?_
      rintro e w9 ⟨rfl, hb9⟩
      rw [same_self]
      have B9 := hid (B8.out.bel' hb9)
      have W9 := hid (W8.out.turn (Turn.bel hb9))
      have x0 := (X8.out.turn (Turn.bel hb9)).blk.cell 0
      have hxb := HXB.out.bel B9.out.bel
      have y0 := hxb.cell 0
      clear hb9 B8 W8 S8 Q8 X8 Y7 x1 x2 hxb
      by_cases h1 : dc = 0
      · by_cases h2 : o = 2
        · have HSAME := hid (doN_same (op := o) (key := K) (hi := H) (lim := M) (s := S) (ps := absL L) (Or.inr (Or.inl h2)))
          have e1 : (dc != 0) = false := by simpa using h1
          have e2 : (o == 2) = true := by simpa using h2
          clear h1 h2
          go_wp2_with fail
          refine (Pairs_some m v1 _ _ B9.out.map).mono ?_
          rintro e w10 ⟨pv10, rfl, hr10, hb10⟩
          obtain ⟨pa10, pn10, rfl⟩ := row_form hr10
          have HR10 := hid (row_zero hr10)
          have HW10 := hid (W9.out.turn (Turn.bel hb10)).row
          have B10 := hid (B9.out.bel' hb10)
          clear hr10 hb10
          go_wp2_with fail
          refine (RSamePairs_z _ _ _ _ _ HR10.out HW10.out (by rw [HSAME.out]; exact Nat.le_trans hfew.out (by omega)) (Nat.le_trans hfew.out (by omega))).mono ?_
          rintro e w11 ⟨rfl, hb11⟩
          rw [HSAME.out, pairsEq_self]
          have B11 := hid (B10.out.bel' hb11).bel
          clear hb11
          go_wp2_with fail
          refine (known_z22 _).mono ?_
          rintro e w12 ⟨rfl, hb12⟩
          have B12 := hid (bx HB2.out (bx B11.out hb12))
          clear hb12
          go_wp2
          go_ret
          exact ⟨rfl, B12.out⟩

        · by_cases h4 : o = 4
          · have HSAME := hid (doN_same (op := o) (key := K) (hi := H) (lim := M) (s := S) (ps := absL L) (Or.inr (Or.inr h4)))
            have e1 : (dc != 0) = false := by simpa using h1
            have e2 : (o == 2) = false := by simpa using h2
            have e3 : (o == 4) = true := by simpa using h4
            clear h1 h2 h4
            go_wp2_with fail
            refine (Pairs_some m v1 _ _ B9.out.map).mono ?_
            rintro e w10 ⟨pv10, rfl, hr10, hb10⟩
            obtain ⟨pa10, pn10, rfl⟩ := row_form hr10
            have HR10 := hid (row_zero hr10)
            have HW10 := hid (W9.out.turn (Turn.bel hb10)).row
            have B10 := hid (B9.out.bel' hb10)
            clear hr10 hb10
            go_wp2_with fail
            refine (RSamePairs_z _ _ _ _ _ HR10.out HW10.out (by rw [HSAME.out]; exact Nat.le_trans hfew.out (by omega)) (Nat.le_trans hfew.out (by omega))).mono ?_
            rintro e w11 ⟨rfl, hb11⟩
            rw [HSAME.out, pairsEq_self]
            have B11 := hid (B10.out.bel' hb11).bel
            clear hb11
            go_wp2_with fail
            refine (known_z22 _).mono ?_
            rintro e w12 ⟨rfl, hb12⟩
            have B12 := hid (bx HB2.out (bx B11.out hb12))
            clear hb12
            go_wp2
            go_ret
            exact ⟨rfl, B12.out⟩

          · have e1 : (dc != 0) = false := by simpa using h1
            have e2 : (o == 2) = false := by simpa using h2
            have e3 : (o == 4) = false := by simpa using h4
            clear h1 h2 h4
            obtain ⟨n8, hn8⟩ : ∃ n8, n8 = (absL L).length := ⟨_, rfl⟩
            have HN8 := hid hn8
            have hn9 : n8 ≤ 1000 := by rw [hn8]; exact hfew.out
            rw [← hn8]
            clear hn8
            go_wp2_with fail
            go_loopw [11] (fun i wr => ∃ k : Nat, k ≤ n8 ∧ i = .int .i64 k ∧ Hid (Both wB m v1 (doN o K H M S (absL L)) r u' L' wr) ∧ Hid (SideRow m r v1 u' wr (.slice wa n8 wn) (absL L)) ∧ Hid (Blk wr w.heap.size 58 #[.int .i64 o, .int .u64 K, .int .u64 H, .int .i64 M, .string S])) (fun i _ => (n8 - (intOf i).toNat))
            case atStart => exact ⟨0, by omega, rfl, B9, by rw [HN8.out]; exact W9, hid (HXB.out.bel B9.out.bel)⟩
            case round =>
              obtain ⟨k, hk, rfl, hB, hW, hX⟩ := hrel
              by_cases hlt : k < n8
              · have hkl : k < (absL L).length := by have := HN8.out; omega
                have hnil : ∃ g, wa = some ⟨g, 0, none⟩ := by
                  rcases hW.out.row.2 with ⟨h0, _⟩ | ⟨g, cap, cur, h0, _⟩
                  · injection h0 with _ h0 _; omega
                  · injection h0 with h0 _ _; exact ⟨g, h0⟩
                obtain ⟨g, rfl⟩ := hnil
                have hrow := hW.out.row
                rw [← HN8.out] at hrow
                obtain ⟨z0, z1⟩ := row_at hrow HN8.out.symm k hkl
                obtain ⟨K2, hK2⟩ : ∃ K2, K2 = (absL L)[k].1 := ⟨_, rfl⟩
                obtain ⟨S2, hS2⟩ : ∃ S2, S2 = (absL L)[k].2 := ⟨_, rfl⟩
                have hmem := hid (show (K2, S2) ∈ absL L by rw [hK2, hS2]; exact List.getElem_mem hkl)
                rw [← hK2] at z0
                rw [← hS2] at z1
                have i1 : (0 : Int) ≤ (k : Int) := by omega
                have i2 : (k : Int) < (n8 : Int) := by omega
                have hgw := (row_lt hrow g rfl).2
                clear hK2 hS2 hrow
                go_wp2_with fail
                refine (Get_z m v1 K2 _ _ hB.out.map).mono ?_
                rintro e w10 ⟨rfl, hb10⟩
                have z2 := ck z0 hb10
                have z3 := ck z1 hb10
                have hX2 := hid (hX.out.bel hb10)
                have hB2 := hid (hB.out.bel' hb10)
                have hW2 := hid (hW.out.turn (Turn.bel hb10))
                have y1 := hX2.out.cell 1
                obtain ⟨gv, hgv⟩ : ∃ gv, gv = getM K2 (doN o K H M S (absL L)) := ⟨_, rfl⟩
                obtain ⟨ge, hge⟩ : ∃ ge, ge = errGet K2 (doN o K H M S (absL L)) := ⟨_, rfl⟩
                rw [← hgv, ← hge]
                have hgk := hid (show K2 ≠ K → gv = S2 ∧ ge = 0 from fun hne => by rw [hgv, hge]; exact get_kept (absL_rises L) hmem.out hne)
                clear hgv hge hb10 z0 z1 hB hW hX
                by_cases hne : K2 = K
                · have d1 : (K2 != K) = false := by simpa using hne
                  have hB3 := fun nq => hid (hB2.out.bel' (below_drewN (Below.refl _ _) nq))
                  have hW3 := fun nq => hid (hW2.out.turn (Turn.bel (below_drewN (Below.refl _ _) nq)))
                  have hX3 := fun nq => hid (hX2.out.drewN nq)
                  have HB3 := hid hB3
                  have HW3 := hid hW3
                  have HX3 := hid hX3
                  clear hB3 hW3 hX3
                  go_wp2
                  go_quiet (fail)
                  have hB4 := HB3.out nq
                  have hW4 := HW3.out nq
                  have hX4 := HX3.out nq
                  clear hB2 hW2 hX2 HB3 HW3 HX3
                  go_wp2
                  go_roundw
                  case rel => exact ⟨k + 1, by omega, by go_num, hB4, hW4, hX4⟩
                  case measure => simp [intOf]; omega
                · have d1 : (K2 != K) = true := by simpa using hne
                  obtain ⟨e1, e2⟩ := hgk.out hne
                  subst e1
                  subst e2
                  have hB3 := fun nq => hid (hB2.out.bel' (below_drewN (Below.refl _ _) nq))
                  have hW3 := fun nq => hid (hW2.out.turn (Turn.bel (below_drewN (Below.refl _ _) nq)))
                  have hX3 := fun nq => hid (hX2.out.drewN nq)
                  have HB3 := hid hB3
                  have HW3 := hid hW3
                  have HX3 := hid hX3
                  clear hB3 hW3 hX3
                  go_wp2
                  go_quiet (fail)
                  have hB4 := HB3.out nq
                  have hW4 := HW3.out nq
                  have hX4 := HX3.out nq
                  clear hB2 hW2 hX2 HB3 HW3 HX3
                  go_wp2
                  go_roundw
                  case rel => exact ⟨k + 1, by omega, by go_num, hB4, hW4, hX4⟩
                  case measure => simp [intOf]; omega
              · obtain rfl : k = n8 := by omega
                have HBL := hid hB.out.bel
                clear hB hW hX
                go_wp2_with fail
                refine (known_z22 _).mono ?_
                rintro e w12 ⟨rfl, hb12⟩
                have B12 := hid (bx HB2.out (bx HBL.out hb12))
                clear hb12
                go_wp2
                go_ret
                exact ⟨rfl, B12.out⟩

      · have HSAME := hid (doN_same (op := o) (key := K) (hi := H) (lim := M) (s := S) (ps := absL L) (Or.inl (by rw [← HDC.out]; exact h1)))
        have e1 : (dc != 0) = true := by simpa using h1
        clear h1
        go_wp2_with fail
        refine (Pairs_some m v1 _ _ B9.out.map).mono ?_
        rintro e w10 ⟨pv10, rfl, hr10, hb10⟩
        obtain ⟨pa10, pn10, rfl⟩ := row_form hr10
        have HR10 := hid (row_zero hr10)
        have HW10 := hid (W9.out.turn (Turn.bel hb10)).row
        have B10 := hid (B9.out.bel' hb10)
        clear hr10 hb10
        go_wp2_with fail
        refine (RSamePairs_z _ _ _ _ _ HR10.out HW10.out (by rw [HSAME.out]; exact Nat.le_trans hfew.out (by omega)) (Nat.le_trans hfew.out (by omega))).mono ?_
        rintro e w11 ⟨rfl, hb11⟩
        rw [HSAME.out, pairsEq_self]
        have B11 := hid (B10.out.bel' hb11).bel
        clear hb11
        go_wp2_with fail
        refine (known_z22 _).mono ?_
        rintro e w12 ⟨rfl, hb12⟩
        have B12 := hid (bx HB2.out (bx B11.out hb12))
        clear hb12
        go_wp2
        go_ret
        exact ⟨rfl, B12.out⟩


theorem ModelStays_z (v0 : Value) (cs : List CallT) (o K H M : Int) (S : ByteArray) (w : World) (h : CallsAt w v0 cs) (hm : cs.length ≤ 9223372036854775807) (hr : cs.length * 48 ≤ 140737488351232) :
    Calls Try.prog 8 #[v0, .agg #[.int .i64 o, .int .u64 K, .int .u64 H, .int .i64 M, .string S]] w fun e w' => e = .returned (.bool true) ∧ Below w.heap.size w w' := by
  obtain ⟨ao, cap, rfl, h0⟩ := id h
  cases ao with
  | some a => exact ModelStays_some a cs.length cap cs o K H M S w h hr
  | none =>
    rcases h0 with ⟨rfl, hn⟩ | ⟨b, off, hb, _⟩
    · obtain rfl := hn rfl
      exact ModelStays_none [] o K H M S w h rfl
    · cases hb

end Go.Proofs.Ytdhnacajgmjmlaa
