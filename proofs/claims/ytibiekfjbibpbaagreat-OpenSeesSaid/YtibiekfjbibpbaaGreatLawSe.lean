import Derived.Test.YtibiekfjbibpbaaGreatLawOb
import Derived.Test.YtibiekfjbibpbaaGreatSeeA
import Derived.Test.YtibiekfjbibpbaaGreatPmS
import Derived.Test.YtibiekfjbibpbaaGreatOpS
/- The law OpenSees, walked. -/
namespace Go.Proofs.YtibiekfjbibpbaaGreat
open Go.RowKit
set_option linter.unusedVariables false
set_option linter.unusedSimpArgs false

/-- an opening that is begun, over a memory that has lines -/
theorem opn_startS {N q o m : Nat} {v : Value} {B : MB} {M0 : MemS} {w2 w3 : World} (hq : M0.view.length = q) (hst : M0.st.a = 0) (hq0 : 0 < q) (hM : q4f w2 m B M0) (hlo : ∀ k ∈ q2g m B M0, N ≤ k) (hN : N ≤ w2.heap.size) (ho : w2.heap.size ≤ o) (hB : Blk w3 o 212 (opnC m v nilS (q3g o) false 0 nilS nilS nilS nilS 0 0))
    (hr : rowU w3 w2.heap.size v (adL (List.range q))) (hno : v.ownBlock ≠ some o) (hb : Below w2.heap.size w2 w3) : ∃ tg c, v = .slice (some ⟨tg, 0, none⟩) q c ∧ OpnL N w3 o m B (memS M0 0) 0 q c tg nilS := by
  have hal : (adL (List.range q)).length = q := by simp [adL]
  rcases hr.2 with ⟨_, h2⟩ | ⟨tg, c, cur, h2, h3, h4, h5, h6, h7, h8⟩
  · omega
  rw [hal] at h2 h5 h8
  have hfl := hM.foot_lt
  have hm0 : memS M0 0 = M0 := by
    unfold memS
    obtain ⟨st, a2, a3, a4, a5⟩ := M0
    obtain ⟨s1, s2, s3, s4⟩ := a5
    cases hst
    rfl
  rw [hm0]
  refine ⟨tg, c, h2, ⟨hM.only (Only.of_below hb []) (by simp), by omega, by rw [← h2]; exact hB, ⟨h5, by unfold maxLen at h6; omega⟩, fun i hi => ?_, (Array.getElem?_eq_some_iff.1 h4).1, World.ownsRow_nil _ _ _ _, ?_, fun b hb => by simp [nilS, Value.ownBlock] at hb, ?_⟩⟩
  · have h9 : (cur.toList.take (q * 1))[i]? = some (adrV i) := by rw [h8, List.getElem?_map]; unfold adL; rw [List.getElem?_map, List.getElem?_range (by omega)]; rfl
    rw [List.getElem?_take, if_pos (by omega)] at h9
    rw [(show Blk w3 tg 51 cur from h4).cell]
    simpa using h9
  · refine ⟨fun hc => ?_, fun e => hno (by rw [h2, e]; rfl), fun hc => ?_⟩
    · have := hfl o hc; omega
    · have := hfl tg hc; omega
  · exact ⟨by omega, by omega, hlo⟩

/-- a sound image's answer -/
theorem looks_ok {bs : List Int} {rs : List (List (Int × NodeA))} {ps : List (Int × ByteArray)} (hb : ∀ x ∈ bs, 0 ≤ x ∧ x < 256) (hok : q1a bs rs ps) : ∃ (h nn : Int) (R F K : List Int), (ps.length ≤ 1000000 ∧ R.length ≤ 1000000 ∧ F.length ≤ 1000000 ∧ K.length ≤ 1000000) ∧
    (∀ w w' e, q3u bs w e w' → Below w.heap.size w w' ∧ z3f h nn 0 ps R F K e w') := by
  obtain ⟨leaves, hl, hv⟩ := hok.vals
  have hfw := x2n hb (rs := rs) ⟨hok.slabs, hok.sup, hok.rows⟩
  have q1 := z1n (allA rs ++ (allE leaves).map (·.2)) []
  have q2 := z1c hfw.2.2.1 rs.length
  have q3 : rs.length * 8320 ≤ 16 * 8320 := Nat.mul_le_mul_right _ hfw.1
  have q4 := z1h leaves
  have q5 := hfw.2.2.1 leaves (List.mem_of_getLast? hl)
  have q6 := x2c hv
  rw [List.take_length] at q2
  rw [List.length_append, List.length_map, List.length_nil] at q1
  have q7 : (q2i rs leaves).length ≤ 1000000 := by unfold q2i; omega
  have q8 : (refA bs (nsI bs)).length ≤ 1000000 := by
    have h1 := z1f bs (nsI bs)
    have h2 := congrArg List.length (z5b bs (nsI bs))
    rw [List.length_map] at h2
    have h3 := q1s hok.slabs.1
    unfold nsI at *
    omega
  have q9 := List.length_filter_le (fun a => decide (a ∉ refA bs (nsI bs))) (q2i rs leaves)
  have q10 := List.length_filter_le (fun a => decide (a ∉ q2i rs leaves)) (refA bs (nsI bs))
  refine ⟨(rs.length - 1 : Int), q2y rs, q2i rs leaves, (q2i rs leaves).filter fun a => decide (a ∉ refA bs (nsI bs)), (refA bs (nsI bs)).filter fun a => decide (a ∉ q2i rs leaves), ⟨by omega, q7, by omega, by omega⟩, fun w w' e h => ?_⟩
  obtain ⟨h1, pa, pc, ra, rc, fa, fc, ka, kc, h2, h3⟩ := x8b hb hok hl h
  exact ⟨h1, pa, pc, ra, rc, fa, fc, ka, kc, h2, h3⟩
/-- the first leaf's first entry, in memory -/
theorem leaf0 {W : World} {N : Nat} {lv : Value} {rows : List (List (Nat × NodeA))} {row : List (Nat × NodeA)} {a : Nat} {nd : NodeA} (h : LvsA W N lv rows) (h1 : rows[0]? = some row) (h2 : row[0]? = some (a, nd)) : ∃ gl lc rb rl rc, lv = .slice (some ⟨gl, 0, none⟩) rows.length lc ∧ W.cell? ⟨gl, 0, none⟩ = some (.slice (some ⟨rb, 0, none⟩) rl rc) ∧ 0 < rl ∧ 0 < rows.length ∧ W.cell? ⟨rb, 14, none⟩ = some (.int .u64 (nd.p 0)) := by
  have hr0 : 0 < rows.length := (List.getElem?_eq_some_iff.1 h1).1
  have hl0 : 0 < row.length := (List.getElem?_eq_some_iff.1 h2).1
  obtain ⟨vs, v1, v2, v3⟩ := h
  obtain ⟨gl, lc, e1, _, _, _, g4⟩ := q2e v2 hr0
  obtain ⟨v, q1, _, q3⟩ := v3 0 _ h1
  have c1 := g4 0 _ q1
  unfold rowA at q3
  obtain ⟨rb, rc, rfl, _, _, _, k4⟩ := q6o q3 hl0
  refine ⟨gl, lc, rb, _, rc, e1, c1, hl0, hr0, ?_⟩
  have := k4 14 (.int .u64 (nd.p 0)) (by
    cases row with
    | nil => cases h2
    | cons x l =>
      rw [List.getElem?_cons_zero] at h2
      injection h2 with h2
      subst h2
      rfl)
  simpa using this

theorem leaf7 : ∃ nd : NodeA, (rowK (uN [7]) 4 0 (ents0 [7]) 0)[0]? = some (nA (uN [7]) 0, nd) ∧ nd.p 0 = 1088 := ⟨_, rowS_at (nRounds_pos _ _), by decide +kernel⟩
theorem eq_pair (k : Int) (s : ByteArray) (w : World) (hk : 0 ≤ k ∧ k ≤ 18446744073709551615) (hs : s.size ≤ maxLen) : (binOp .eql 48 (.agg #[.int .u64 k, .string s]) (.agg #[.int .u64 k, .string s])).run Tryz.prog w = .ok (.bool true) w := by
  have h := x9l k s w hk hs
  simp only [binOp, Sem.run_bind] at h ⊢
  revert h
  cases (Op.equal 48 (.agg #[.int .u64 k, .string s]) (.agg #[.int .u64 k, .string s])).run Tryz.prog w with
  | ok b w' => cases b <;> simp [go_sem]
  | _ => simp [go_sem]
/-- what the law's memory is behind the store -/
def seeM (bs : List Int) (s : St4) (L : z0q) (x : Int) : MemS := { view := (q0b bs).set 137 x, image := q0b bs, lines := [L], clock := 1, st := s }

attribute [local go_sem ↓ high] q7f
attribute [local go_sem] q1x Oper.semAt_some
set_option maxRecDepth 100000 in
set_option maxHeartbeats 4000000 in
theorem OpenSees_z (z : Int) (hz0 : 0 ≤ z) (hz1 : z < 18446744073709551616) (w : World) :
    Calls Tryz.prog 8 #[.int .u64 z] w fun e w' => e = .returned (.bool true) ∧ Below w.heap.size w w' := by
  obtain ⟨W1, hW1⟩ : ∃ W1, W1 = w.alloc (.cells #[.int .u64 7] 46) := ⟨_, rfl⟩
  have hb1 : Below w.heap.size w W1 := by rw [hW1]; exact ba (Below.refl _ _) _
  have k1 : Blk W1 w.heap.size 46 #[.int .u64 7] := by rw [hW1]; exact Blk.new _ _ _
  have BZ : Hid (Calls Tryz.prog 35 #[.int .i64 2, .slice (some ⟨w.heap.size, 0, none⟩) 1 1, .int .i64 4, .int .i64 0] W1 fun e w' => BldPn W1 2 [7] 4 0 e w') :=
    hid (ABuildN_z 2 4 0 [7] (.slice (some ⟨w.heap.size, 0, none⟩) 1 1) (by omega) (by omega) (by simp) (by simp) (by omega) (by omega) (by omega) W1
      ⟨some ⟨w.heap.size, 0, none⟩, 1, rfl, Or.inr ⟨_, 0, rfl, k1.lt, fun i x hx => by
        cases i with
        | zero => injection hx with hx; subst hx; exact k1.cell 0
        | succ i => cases hx⟩⟩)
  have HW1 := hid hW1
  have HB1 := hid hb1
  clear hW1 hb1 k1
  go_enter Tryz.func8, Tryz.ntmps8
  go_wp2_with fail
  rw [show _ = W1 from HW1.out.symm]
  refine BZ.out.mono ?_
  rintro e W2 ⟨hb2, (⟨_, hno⟩ | ⟨g, b, n, R, lv, rows, rfl, hg, hbb, hA, hV, hBO⟩)⟩
  · exact absurd room7 hno
  have HB2 := hid (bx HB1.out hb2)
  clear hb2 BZ HW1 HB1
  obtain ⟨K, hBu, hrows⟩ := build_built hBO (by omega) (by omega) (by simp) (by simp) (by simp) (by omega) (by omega)
  obtain ⟨nd, hnd, hnp⟩ := leaf7
  obtain ⟨bs, hbs⟩ : ∃ bs, bs = R.bs := ⟨_, rfl⟩
  rw [← hbs] at hBu
  have hbl : bs.length = 3072 := hBu.len
  obtain rfl : n = 3072 := by rw [hA.ln, ← hbs, hbl]
  have hkb : Blk W2 b 5 (byC bs) := by rw [hbs]; exact hA.by'
  obtain ⟨gl, lc, rb, rl, rc, elv, l1, l2, l3, l4⟩ := leaf0 hV (row := rowK (uN [7]) 4 0 (ents0 [7]) 0) (by rw [hrows]; simp) hnd
  subst elv
  rw [hnp] at l4
  obtain ⟨kn, hkn⟩ : ∃ kn, kn = rows.length := ⟨_, rfl⟩
  rw [← hkn] at l3
  have hgk := hA.blk
  rw [← hkn] at hgk
  obtain ⟨x, hx⟩ : ∃ x, x = (z % 256).toNat := ⟨_, rfl⟩
  have hxz : (x : Int) = z % 256 := by omega
  have hx1 : x < 256 := by omega
  have hby : q1m W2 (some ⟨b, 0, none⟩) 3072 bs := ⟨by omega, hBu.byt, fun _ => ⟨b, 0, rfl, hkb.lt, fun i x hx => by rw [hkb.cell, Nat.zero_add]; exact z2r hx⟩⟩
  have MZ := v9f (some ⟨b, 0, none⟩) 3072 bs (by rw [hbl]; decide) (by omega) W2 hby
  rw [hbl] at MZ
  have MZ := hid MZ
  have c0 : W2.cell? ⟨g, 0, none⟩ = some (.slice (some ⟨b, 0, none⟩) 3072 3072) := hgk.cell 0
  have HG := hid hgk
  have HBU := hid (⟨hBu, hbl, hxz, hx1⟩ : _ ∧ _ ∧ _ ∧ _)
  have HL := hid (⟨l1, l2, l3, l4⟩ : _ ∧ _ ∧ _ ∧ _)
  clear hgk hby hA hV hBO hBu hrows hnd hnp hbs hbl hkb l1 l2 l3 l4 hkn hx hxz hx1 hg hbb
  go_wp2_with fail
  refine MZ.out.mono ?_
  rintro e W3 ⟨m, B, rfl, hM, hb3, hlo⟩
  have c7 : W3.cell? ⟨g, 7, none⟩ = some (.slice (some ⟨gl, 0, none⟩) kn lc) := (HG.out.bel hb3).cell 7
  obtain ⟨l1, l2, l3, l4⟩ := HL.out
  have l1 := (hb3.cell (p := ⟨gl, 0, none⟩) (World.block_lt_of_cell? _ _ l1)).trans l1
  have l4 := (hb3.cell (p := ⟨rb, 14, none⟩) (World.block_lt_of_cell? _ _ l4)).trans l4
  have hvl : (q0b bs).length = 384 := by unfold q0b; rw [List.length_map, List.length_range, HBU.out.2.1]
  have SN : Calls Tryz.prog 36 #[ptrV m, .int .u64 1096, .int .u64 (z % 256)] W3 fun e w' => e = .returned (.int .i64 0) ∧ ∃ s L, s.a = 0 ∧ q4f w' m B (seeM bs s L (z % 256)) ∧ Only [m, B.vb, B.lb] W3 w' ∧ W3.heap.size ≤ L.g := by
    refine (Store_none m B (q3y (q0b bs)) 137 (z % 256) (by show 137 < (q0b bs).length; omega) (fun L hL => by cases hL) W3 hM).mono ?_
    rintro e w' ⟨rfl, s, g', cap, e1, e2, e3, e4, h1, h2, h3⟩
    exact ⟨rfl, s, _, e1, h1, h2, h3⟩
  have SN := hid SN
  have HM := hid (⟨hM, hb3, hlo, hvl⟩ : _ ∧ _ ∧ _ ∧ _)
  have i3 : (0 : Int) < (rl : Int) := by omega
  have i4 : (0 : Int) < (kn : Int) := by
    omega
  clear hM hb3 hlo hvl c0 MZ
  go_wp2_with fail
  refine SN.out.mono ?_
  rintro e W4 ⟨rfl, s, L, hsa, hM4, ho4, hg4⟩
  obtain ⟨bs', hbs'⟩ : ∃ bs', bs' = putW bs 1096 x := ⟨_, rfl⟩
  have hvw : (seeM bs s L (z % 256)).view = q0b bs' := by
    show (q0b bs).set 137 (z % 256) = _
    rw [hbs', ← HBU.out.2.2.1]
    exact (wordsOf_put (q := 384) (k := 137) (by rw [HBU.out.2.1]) (by omega) (by have := HBU.out.2.2.2; omega)).symm
  have hvl : (seeM bs s L (z % 256)).view.length = 384 := by
    show ((q0b bs).set 137 (z % 256)).length = _
    rw [List.length_set]; exact HM.out.2.2.2
  have hfo : ∀ k ∈ q2g m B (seeM bs s L (z % 256)), W2.heap.size ≤ k := by
    intro k hk
    have h1 : ∀ k ∈ [m, B.vb, B.ib, B.lb], W2.heap.size ≤ k := fun k hk => HM.out.2.2.1 k (by unfold q2g; simp at hk ⊢; omega)
    unfold q2g at hk
    simp only [seeM, List.map_cons, List.map_nil, List.mem_cons, List.not_mem_nil, or_false] at hk
    rcases hk with rfl | rfl | rfl | rfl | rfl
    · exact h1 _ (by simp)
    · exact h1 _ (by simp)
    · exact h1 _ (by simp)
    · exact h1 _ (by simp)
    · exact Nat.le_trans HM.out.2.1.size hg4
  have hb4 : Below W2.heap.size W2 W4 := HM.out.2.1.trans (ho4.below (fun y hy => HM.out.2.2.1 y (by unfold q2g; simp at hy ⊢; omega)) HM.out.2.1.size)
  have hlen' : bs'.length = 3072 := by rw [hbs', q3n _ (by rw [HBU.out.2.1]; omega)]; exact HBU.out.2.1
  have hby' : ∀ y ∈ bs', 0 ≤ y ∧ y < 256 := by rw [hbs']; exact q7z HBU.out.1.byt _ _
  have hwh : ∃ rs, q1a bs' rs [(7, strOfNums [z % 256])] := by
    have h1 := HBU.out.1.seen (j0 := 0) (x := x) (by simp) HBU.out.2.2.2 (by simp)
    rw [HBU.out.2.2.1] at h1
    exact ⟨_, by rw [hbs']; exact h1⟩
  obtain ⟨rs, hwh⟩ := hwh
  obtain ⟨hh, nn, Rr, F, Kk, hlen, hlk⟩ := looks_ok hby' hwh
  have ON := hid (x7q m B 384 s (by omega) (by omega) W4 (by have h1 := hM4.blk; rw [hvl] at h1; exact h1))
  have HQ := hid (⟨hvw, hvl, hlen', hby', hlen, hlk, hsa⟩ : _ ∧ _ ∧ _ ∧ _ ∧ _ ∧ _ ∧ _)
  have HM4 := hid (⟨hM4, hfo, hb4⟩ : _ ∧ _ ∧ _)
  clear hM4 hfo hb4 hvw hvl hlen' hby' hlen hlk hsa hwh ho4 hg4 hbs' SN c7 l1 l4 HM
  go_wp2_with fail
  refine (callsIn_wide.1 ON.out).mono ?_
  rintro e W5 ⟨o, v, rfl, ho, hol, hB3, hr3, hno, hb5⟩
  obtain ⟨tg, c, rfl, hL⟩ := opn_startS (N := W2.heap.size) HQ.out.2.1 HQ.out.2.2.2.2.2.2 (by omega) HM4.out.1 HM4.out.2.1 HM4.out.2.2.size ho hB3 hr3 hno hb5
  have hb25 : Below W2.heap.size W2 W5 := bx HM4.out.2.2 hb5
  have c0 : W5.cell? ⟨g, 0, none⟩ = some (.slice (some ⟨b, 0, none⟩) 3072 3072) := (HG.out.bel hb25).cell 0
  have RW := hid (x4k (some ⟨b, 0, none⟩) 384 3072 3072 (by omega) (by omega) W5)
  have OW : Hid (Calls Tryz.prog 31 #[ptrV m, .pointer (some ⟨o, 0, none⟩), .int .i64 385] W5 fun e w' => e = .returned (.int .i64 384) ∧ Below W2.heap.size W5 w' ∧
      ∃ tv wv' pv rv fv kv, OpnD w' o m B (memS (seeM bs s L (z % 256)) 384) bs' tv wv' true 0 hh nn [(7, strOfNums [z % 256])] Rr F Kk pv rv fv kv) :=
    hid (OWhole_s W2.heap.size o m B (seeM bs s L (z % 256)) 384 c tg 385 bs' HQ.out.1 HQ.out.2.2.2.1 (by rw [HQ.out.2.2.1]) (by omega) (by omega) (by omega) (by omega) 0 hh nn _ Rr F Kk HQ.out.2.2.2.2.2.1 W5 hL)
  have HB5 := hid (hb25)
  clear ho hol hB3 hr3 hno hb5 hL ON hb25 HM4
  go_wp2_with fail
  refine RW.out.mono ?_
  rintro e w4 ⟨rfl, rfl⟩
  go_wp2_with fail
  refine OW.out.mono ?_
  rintro e W7 ⟨rfl, hb7, tv, wv, pv, rv, fv, kv7, hD⟩
  obtain ⟨pa, pc, rfl, _⟩ := hD.rep.pc
  obtain ⟨ra, rc, rfl, _⟩ := hD.rep.ra
  obtain ⟨fa, fc, rfl, _⟩ := hD.rep.fa
  obtain ⟨ka, kc, rfl, _⟩ := hD.rep.ka
  have OR := hid (x4u o m B _ bs' tv wv hh nn _ Rr F Kk pa ra fa ka pc rc fc kc HQ.out.2.2.2.2.1 W7 hD)
  have HB7 := hid (HB5.out.trans hb7)
  clear OW RW HB5 hb7 hD c0
  go_wp2_with fail
  refine OR.out.mono ?_
  rintro e W8 ⟨a1, c1, a2, c2, a3, c3, a4, c4, rfl, h1, _, _, _, hb8⟩
  obtain ⟨g6, pc', e6, _, _, _, hc6⟩ := q6o h1 (by simp)
  injection e6 with e6 _ e7
  subst e6 e7
  have y1 := hc6 0 (.int .u64 7) rfl
  have y2 := hc6 1 (.string (strOfNums [z % 256])) rfl
  rw [Nat.zero_add] at y1 y2
  obtain ⟨T1, hT1⟩ : ∃ T1, T1 = W8.heap.size := ⟨_, rfl⟩
  obtain ⟨W9, hW9⟩ : ∃ W9, W9 = W8.alloc (.cells #[.slice (some ⟨g6, 0, none⟩) 1 c1, .slice a2 Rr.length c2, .slice a3 F.length c3, .slice a4 Kk.length c4, .int .i64 hh, .int .i64 nn] 32) := ⟨_, rfl⟩
  have hb9 : Below W8.heap.size W8 W9 := by rw [hW9]; exact ba (Below.refl _ _) _
  have hK9 : Blk W9 T1 32 #[.slice (some ⟨g6, 0, none⟩) 1 c1, .slice a2 Rr.length c2, .slice a3 F.length c3, .slice a4 Kk.length c4, .int .i64 hh, .int .i64 nn] := by rw [hW9, hT1]; exact Blk.new _ _ _
  have r0 : W9.cell? ⟨T1, 0, none⟩ = some (.slice (some ⟨g6, 0, none⟩) 1 c1) := hK9.cell 0
  have y1 := (hb9.cell (p := ⟨g6, 0, none⟩) (World.block_lt_of_cell? _ _ y1)).trans y1
  have y2 := (hb9.cell (p := ⟨g6, 1, none⟩) (World.block_lt_of_cell? _ _ y2)).trans y2
  have HB9 := hid (bx HB2.out (HB7.out.trans ((bx hb8 hb9).mono HB7.out.size)))
  have HT1 := hid hT1
  have HW9 := hid hW9
  clear hc6 hb8 hb9 hK9 OR HB7 hT1 hW9 h1
  obtain ⟨S, hS⟩ : ∃ S, S = strOfNums [z % 256] := ⟨_, rfl⟩
  have hS1 : S.size ≤ maxLen := by
    rw [hS, ← q2v, q8p (fun y hy => by rw [List.mem_singleton.1 hy]; omega)]
    simp [maxLen]
  have hkA : Blk (W9.alloc (.cells #[.int .u8 (z % 256)] 5)) W9.heap.size 5 #[.int .u8 (z % 256)] := Blk.new _ _ _
  have hcv : Sem.run Tryz.prog (convert 36 9 (.slice (some ⟨W9.heap.size, 0, none⟩) 1 1)) (W9.alloc (.cells #[.int .u8 (z % 256)] 5)).drew = .ok (.string S) (W9.alloc (.cells #[.int .u8 (z % 256)] 5)).drew := by rw [hS]; exact x1o _ _ _ (hkA.drew.cell 0)
  have em : Int.tmod z 256 = z % 256 := Int.tmod_eq_emod_of_nonneg hz0
  have hcv' : ∀ (W : World) (g : Nat), W.cell? ⟨g, 0, none⟩ = some (.int .u8 (z % 256)) → Sem.run Tryz.prog (convert 36 9 (.slice (some ⟨g, 0, none⟩) 1 1)) W = .ok (.string S) W := fun W g h => by rw [hS]; exact x1o W g _ h
  have hcc := hkA.drew.cell 0
  have heq := fun W => eq_pair 7 S W (by omega) hS1
  have w8 : IntKind.u8.wrap (z % 256) = z % 256 := by rw [IntKind.wrap_u8]; omega
  rw [← hS] at y2
  have z0 : W9.drew.cell? ⟨T1, 0, none⟩ = some (.slice (some ⟨g6, 0, none⟩) 1 c1) := r0
  have z1 : W9.drew.cell? ⟨g6, 0, none⟩ = some (.int .u64 7) := y1
  have z2 : W9.drew.cell? ⟨g6, 1, none⟩ = some (.string S) := y2
  have q0 : (W9.alloc (.cells #[.int .u8 (z % 256)] 5)).drew.cell? ⟨T1, 0, none⟩ = some (.slice (some ⟨g6, 0, none⟩) 1 c1) := ca (.cells #[.int .u8 (z % 256)] 5) r0
  have q1 : (W9.alloc (.cells #[.int .u8 (z % 256)] 5)).drew.cell? ⟨g6, 0, none⟩ = some (.int .u64 7) := ca (.cells #[.int .u8 (z % 256)] 5) y1
  have q2 : (W9.alloc (.cells #[.int .u8 (z % 256)] 5)).drew.cell? ⟨g6, 1, none⟩ = some (.string S) := ca (.cells #[.int .u8 (z % 256)] 5) y2
  clear hkA hS hS1 HQ HBU HL HG i3 i4 l3
  go_upto_region 15 with fail
  rw [show _ = W9 from HW9.out.symm]
  rw [← HT1.out]
  go_region_with ((go_at_call 28; (with_reducible refine (z8n _).mono ?_); rintro e v1 ⟨rfl, hv1⟩; have HV1 : Hid (Below W9.heap.size W9 v1) := hid (bx (by repeat (first | (exact Below.refl _ _) | (refine Below.drew ?_) | (refine ba ?_ _))) hv1); clear hv1))
  all_goals go_wp2
  all_goals go_ret
  all_goals exact ⟨rfl, bx HB9.out HV1.out⟩

theorem OpenSees_l (z : Int) (w : World) (a0 : 0 ≤ z) (a1 : z ≤ 18446744073709551615) :
    Calls Tryz.prog 8 #[.int .u64 z] w fun e w' => e = .returned (.bool true) ∧ Below w.heap.size w w' := OpenSees_z z a0 (by omega) w

end Go.Proofs.YtibiekfjbibpbaaGreat
