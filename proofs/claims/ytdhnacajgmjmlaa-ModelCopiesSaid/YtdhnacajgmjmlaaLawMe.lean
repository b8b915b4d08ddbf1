/- ModelCopies. -/
import Derived.Test.YtdhnacajgmjmlaaTwo
namespace Go.Proofs.Ytdhnacajgmjmlaa
open Go.RowKit
set_option linter.unusedVariables false
set_option linter.unusedSimpArgs false

theorem Two.made {w0 w w' w'' : World} {m r c q : Nat} {v u v2 u2 : Value} {ps : PairL} {L : RL} (h : Both w0 m v ps r u L w) (hm : MapIs w' c v2 ps) (hb : Below w.heap.size w w') (hml : ∀ k, k ∈ foot c v2 → w.heap.size ≤ k) (hr : RefIs w'' q u2 L) (hb2 : Below w'.heap.size w' w'') (hrl : ∀ k, k ∈ foot q u2 → w'.heap.size ≤ k) :
    Two w0 m v ps r u L c v2 ps q u2 L w'' := by
  have hA := (h.bel' hb).bel' hb2
  refine ⟨hA, ⟨hm.bel hb2, hr, hA.bel, fun k hk => Nat.le_trans h.bel.size (hml k hk), fun k hk => Nat.le_trans h.bel.size (Nat.le_trans hb.size (hrl k hk)), fun k hk hk2 => ?_⟩, fun k hk => ⟨fun hx => ?_, fun hx => ?_⟩⟩
  · have := hm.foot_lt k hk; have := hrl k hk2; omega
  · have := h.map.foot_lt k hx
    rcases hk with hk | hk
    · have := hml k hk; omega
    · have := hrl k hk; have := hb.size; omega
  · have := h.ref.foot_lt k hx
    rcases hk with hk | hk
    · have := hml k hk; omega
    · have := hrl k hk; have := hb.size; omega

set_option maxRecDepth 100000 in
set_option maxHeartbeats 4000000 in
theorem ModelCopies_many (v0 v1 v2 : Value) (cs xs ys : List CallT) (w : World) (h : CallsAt w v0 cs) (hm : cs.length ≤ 9223372036854775807) (h1 : CallsAt w v1 xs) (hm1 : xs.length ≤ 9223372036854775807) (h2 : CallsAt w v2 ys) (hm2 : ys.length ≤ 9223372036854775807)
    (hf : ¬ (fewB cs 40 = true ∧ fewB xs 10 = true ∧ fewB ys 10 = true)) :
    Calls Try.prog 10 #[v0, v1, v2] w fun e w' => e = .returned (.bool true) ∧ Below w.heap.size w w' := by
  have HF := hid hf
  have H0 := hid h
  have H1 := hid h1
  have H2 := hid h2
  clear hf h h1 h2
  cases f0 : fewB cs 40 with
  | false =>
    have F0 := hid f0
    clear f0
    go_enter Try.func10, Try.ntmps10
    go_wp2_with fail
    refine (few_z _ cs 40 _ H0.out hm).mono ?_
    rintro e w1 ⟨rfl, rfl⟩
    rw [F0.out]
    go_wp2_with fail
    refine (known_z22 _).mono ?_
    rintro e w2 ⟨rfl, hb⟩
    have HB := hid hb
    clear hb
    go_wp2
    go_ret
    exact ⟨rfl, HB.out⟩
  | true =>
    have F0 := hid f0
    clear f0
    cases f1 : fewB xs 10 with
    | false =>
      have F1 := hid f1
      clear f1
      go_enter Try.func10, Try.ntmps10
      go_wp2_with fail
      refine (few_z _ cs 40 _ H0.out hm).mono ?_
      rintro e w1 ⟨rfl, rfl⟩
      rw [F0.out]
      go_wp2_with fail
      refine (few_z _ xs 10 _ H1.out hm1).mono ?_
      rintro e w1 ⟨rfl, rfl⟩
      rw [F1.out]
      go_wp2_with fail
      refine (known_z22 _).mono ?_
      rintro e w2 ⟨rfl, hb⟩
      have HB := hid hb
      clear hb
      go_wp2
      go_ret
      exact ⟨rfl, HB.out⟩
    | true =>
      have F1 := hid f1
      clear f1
      have F2 : Hid (fewB ys 10 = false) := by
        cases f2 : fewB ys 10 with
        | false => exact hid rfl
        | true => exact absurd ⟨F0.out, F1.out, f2⟩ HF.out
      go_enter Try.func10, Try.ntmps10
      go_wp2_with fail
      refine (few_z _ cs 40 _ H0.out hm).mono ?_
      rintro e w1 ⟨rfl, rfl⟩
      rw [F0.out]
      go_wp2_with fail
      refine (few_z _ xs 10 _ H1.out hm1).mono ?_
      rintro e w1 ⟨rfl, rfl⟩
      rw [F1.out]
      go_wp2_with fail
      refine (few_z _ ys 10 _ H2.out hm2).mono ?_
      rintro e w1 ⟨rfl, rfl⟩
      rw [F2.out]
      go_wp2_with fail
      refine (known_z22 _).mono ?_
      rintro e w2 ⟨rfl, hb⟩
      have HB := hid hb
      clear hb
      go_wp2
      go_ret
      exact ⟨rfl, HB.out⟩

set_option maxRecDepth 100000 in
set_option maxHeartbeats 4000000 in
theorem ModelCopies_few (v0 v1 v2 : Value) (cs xs ys : List CallT) (w : World) (h : CallsAt w v0 cs) (h1 : CallsAt w v1 xs) (h2 : CallsAt w v2 ys) (f0 : fewB cs 40 = true) (f1 : fewB xs 10 = true) (f2 : fewB ys 10 = true) :
    Calls Try.prog 10 #[v0, v1, v2] w fun e w' => e = .returned (.bool true) ∧ Below w.heap.size w w' := by
  have l0 : cs.length ≤ 40 := by have := fewB_t f0; omega
  have l1 : xs.length ≤ 10 := by have := fewB_t f1; omega
  have l2 : ys.length ≤ 10 := by have := fewB_t f2; omega
  have F0 := hid f0
  have F1 := hid f1
  have F2 := hid f2
  have H0 := hid h
  have H1 := hid h1
  have H2 := hid h2
  obtain ⟨xo, xcap, rfl, hx⟩ := h1
  obtain ⟨yo, ycap, rfl, hy⟩ := h2
  obtain ⟨nx, hnx⟩ : ∃ nx, nx = xs.length := ⟨_, rfl⟩
  obtain ⟨ny, hny⟩ : ∃ ny, ny = ys.length := ⟨_, rfl⟩
  rw [← hnx] at H1 l1 ⊢
  rw [← hny] at H2 l2 ⊢
  have HNX := hid hnx
  have HNY := hid hny
  have HX := hid hx
  have HY := hid hy
  clear h f0 f1 f2 hnx hny hx hy
  go_enter Try.func10, Try.ntmps10
  go_wp2_with fail
  refine (few_z _ cs 40 _ H0.out (by omega)).mono ?_
  rintro e w1 ⟨rfl, rfl⟩
  rw [F0.out]
  go_wp2_with fail
  refine (few_z _ xs 10 _ H1.out (by have := HNX.out; omega)).mono ?_
  rintro e w1 ⟨rfl, rfl⟩
  rw [F1.out]
  go_wp2_with fail
  refine (few_z _ ys 10 _ H2.out (by have := HNY.out; omega)).mono ?_
  rintro e w1 ⟨rfl, rfl⟩
  rw [F2.out]
  go_wp2_with fail
  refine (behind_s _ cs _ H0.out (by omega)).mono ?_
  rintro e w2 ⟨m, v, r, u, L, rfl, hL, hB, hSm⟩
  have B2 := hid hB
  have hL' : L.length ≤ 40 := by omega
  have SM := hid hSm
  clear hB hSm hL
  go_wp2_with fail
  refine (Copy_z m v _ _ B2.out.map).mono ?_
  rintro e w3 ⟨c, v3, rfl, hm3, hb3, hl3⟩
  have B3 := hid (B2.out.bel' hb3)
  go_wp2_with fail
  refine (RCopy_z r u L _ B3.out.ref).mono ?_
  rintro e w4 ⟨q, u3, rfl, hr4, hb4, hl4⟩
  have T4 := hid (Two.made B2.out hm3 hb3 hl3 hr4 hb4 hl4)
  clear hm3 hb3 hl3 hr4 hb4 hl4 B2 B3
  go_wp2_with fail
  refine (Same_any _ _ _ _ _ (MapAny.of T4.out.B.map) (MapAny.of T4.out.A.map)).mono ?_
  rintro e w5 ⟨rfl, hb5⟩
  rw [pairsEq_self]
  have T5 := hid (T4.out.bel' hb5)
  clear hb5 T4
  go_wp2_with fail
  refine (Pairs_some m v _ _ T5.out.A.map).mono ?_
  rintro e w6 ⟨pv, rfl, hr6, hb6⟩
  obtain ⟨pa, pn, rfl⟩ := row_form hr6
  have T6 := hid (T5.out.bel' hb6)
  obtain ⟨np, hnp⟩ : ∃ np, np = (absL L).length := ⟨_, rfl⟩
  rw [← hnp] at hr6
  rw [← hnp]
  have HNP := hid hnp
  have hnp40 : np ≤ 40 := by rw [hnp]; have := absL_length L; omega
  have R6 := hid hr6
  have hw5 : w5.heap.size ≤ w6.heap.size := hb6.size
  have HFEET := hid T5.out.feet
  clear hb6 T5 hr6 hnp
  go_wp2_with fail
  go_loopw [13] (fun i wr => ∃ (k : Nat) (qs : PairL), k ≤ np ∧ i = .int .i64 k ∧ Hid (qs.length = np) ∧ Hid (wr.ownsRow w5.heap.size 52 2 (.slice pa np pn) np (pc qs)) ∧ Hid (Two w m v (absL L) r u L c v3 (absL L) q u3 L wr) ∧ Hid (∀ j (h : j < qs.length), k ≤ j → qs[j].2.size ≤ 120)) (fun i _ => (np - (intOf i).toNat))
  case atStart => exact ⟨0, absL L, by omega, rfl, hid HNP.out.symm, R6, T6, hid (fun j h _ => SM.out _ (List.getElem_mem h))⟩
  case round =>
    obtain ⟨k, qs, hk, rfl, hql, hR, hT, hSz⟩ := hrel
    by_cases hlt : k < np
    · have hkl : k < qs.length := by have := hql.out; omega
      have hnil : ∃ g, pa = some ⟨g, 0, none⟩ := by
        rcases hR.out.2 with ⟨h0, _⟩ | ⟨g, cap, cur, h0, _⟩
        · injection h0 with _ h0 _; omega
        · injection h0 with h0 _ _; exact ⟨g, h0⟩
      obtain ⟨g, rfl⟩ := hnil
      obtain ⟨z0, z1⟩ := row_at hR.out hql.out k hkl
      have z2 := hR.out.frozenAt (k * 2 + 1)
      obtain ⟨S, hS⟩ : ∃ S, S = qs[k].2 := ⟨_, rfl⟩
      rw [← hS] at z1
      have HS := hid hS
      have hs : S.size ≤ 120 := by rw [hS]; exact hSz.out k hkl (Nat.le_refl _)
      have i1 : (0 : Int) ≤ (k : Int) := by omega
      have i2 : (k : Int) < (np : Int) := by omega
      clear hS z0
      have r1 := World.ownsRow.stored hR.out (k * 2 + 1) (.string (S ++ ⟨#[63]⟩))
      have hR' : Hid ((wr.setCell ⟨g, k * 2 + 1, none⟩ (.string (S ++ ⟨#[63]⟩))).ownsRow w5.heap.size 52 2 (.slice (some ⟨g, 0, none⟩) np pn) np (pc (qs.set k (qs[k].1, S ++ ⟨#[63]⟩)))) := by
        rw [← pc_set1 qs k hkl]; exact r1.1
      have hT' : Hid (Two w m v (absL L) r u L c v3 (absL L) q u3 L (wr.setCell ⟨g, k * 2 + 1, none⟩ (.string (S ++ ⟨#[63]⟩)))) := hT.out.only (f := [g]) (Only.setCell (Only.refl _ _) (Or.inl (by simp)) _) (fun x hx => by
        have hxg : x = g := by simpa using hx
        subst hxg
        exact HFEET.out _ (row_lt hR.out _ rfl).1)
      have hql' : Hid ((qs.set k (qs[k].1, S ++ ⟨#[63]⟩)).length = np) := by rw [List.length_set]; exact hql.out
      have hSz' : Hid (∀ j (h : j < (qs.set k (qs[k].1, S ++ ⟨#[63]⟩)).length), k + 1 ≤ j → (qs.set k (qs[k].1, S ++ ⟨#[63]⟩))[j].2.size ≤ 120) := fun j hj hkj => by
        rw [List.getElem_set_ne (by omega)]
        exact hSz.out j (by rw [List.length_set] at hj; exact hj) (by omega)
      clear r1 hR hT hSz hql
      go_wp2
      go_roundw
      case rel => exact ⟨k + 1, _, by omega, by go_num, hql', hR', hT', hSz'⟩
      case measure => simp [intOf]; omega
    · obtain rfl : k = np := by omega
      clear hR hSz hql R6
      go_wp2_with fail
      go_loopw [14] (fun i wr => ∃ (k : Nat) (vX1 uX1 : Value) (LX1 : RL), k ≤ nx ∧ i = .int .i64 k ∧ LX1.length ≤ 60 + k ∧ Hid (Two w m vX1 (absL LX1) r uX1 LX1 c v3 (absL L) q u3 L wr)) (fun i _ => (nx - (intOf i).toNat))
      case atStart => exact ⟨0, v, u, L, by omega, rfl, by omega, hT⟩
      case round =>
        obtain ⟨k, vX1, uX1, LX1, hk, rfl, hLX, hSX⟩ := hrel
        by_cases hlt : k < nx
        · have hkl : k < xs.length := by have := HNX.out; omega
          rcases HX.out with h0 | ⟨b, off, rfl, hbl, hc⟩
          · have := HNX.out; rw [h0.1] at this; simp at this; omega
          have hcc := hid (hc k hkl)
          obtain ⟨C, hC⟩ : ∃ C, C = xs[k] := ⟨_, rfl⟩
          rw [← hC] at hcc
          obtain ⟨o, K, H, M, S⟩ := C
          obtain ⟨g0, g1, g2, g3, g4⟩ := cellsC hSX.out.A.bel hbl hcc.out
          have i1 : (0 : Int) ≤ (k : Int) := by omega
          have i2 : (k : Int) < (nx : Int) := by omega
          have hfew : (absL LX1).length + 1 ≤ 1000000 := by have := absL_length LX1; omega
          clear hc hC
          go_wp2
          go_region_held3 (fun w' => w'.cell? ⟨b, off + k * 5, none⟩ = some (.int .i64 o) ∧ w'.cell? ⟨b, off + k * 5 + 1, none⟩ = some (.int .u64 K) ∧ w'.cell? ⟨b, off + k * 5 + 2, none⟩ = some (.int .u64 H) ∧ w'.cell? ⟨b, off + k * 5 + 3, none⟩ = some (.int .i64 M) ∧ w'.cell? ⟨b, off + k * 5 + 4, none⟩ = some (.string S)) (go_keep)
            (first
            | ((go_at_call 38; refine (Do_z m vX1 o K H M S _ _ (hSX.out.bel' (bdrew (Below.refl _ _))).A.map hfew).mono ?_; intro e x3 hp; obtain ⟨vX2, pa, pn, rfl, hB3, hT3, hS3⟩ := (hSX.out.bel' (bdrew (Below.refl _ _))).A.doPost hp; have T3 := hid ((hSX.out.bel' (bdrew (Below.refl _ _))).turn hB3 hT3); have R3 := hid hS3; obtain ⟨m0, m1, m2, m3, m4⟩ := cellsC T3.out.A.bel hbl hcc.out; clear hp hB3 hT3 hS3))
            | ((go_at_call 22; refine (RDo_z _ uX1 o K H M S LX1 _ T3.out.A.ref (by omega)).mono ?_; intro e x4 hp; obtain ⟨LX2, uX2, qa, qn, rfl, hL1, hL2, hB4, hT4, hS4⟩ := T3.out.A.rdoPost hp; have HL1 := hid hL1; have T4 := hid (T3.out.turn hB4 hT4); have R4 := hid (R3.out.turn hT4); have Q4 := hid hS4; obtain ⟨n0, n1, n2, n3, n4⟩ := cellsC T4.out.A.bel hbl hcc.out; clear hp hL1 hB4 hT4 hS4))
            | ((go_at_call 39; refine (RSame_z _ _ _ _ _ _ _ _ _ R4.out.row Q4.out.row doP_few doP_few).mono ?_; rintro e x5 ⟨rfl, hb5⟩; rw [same_self]; have T5 := hid (T4.out.bel' hb5); rw [← HL1.out] at T5; obtain ⟨o0, o1, o2, o3, o4⟩ := cellsC T5.out.A.bel hbl hcc.out; clear hb5)))
          have hL3 : LX2.length ≤ 60 + (k + 1) := by omega
          clear hSX hL2 hLX T3 T4
          go_wp2
          go_roundw
          case rel => exact ⟨k + 1, vX2, uX2, LX2, by omega, by go_num, hL3, T5⟩
          case measure => simp [intOf]; omega
        · obtain rfl : k = nx := by omega
          clear hT
          go_wp2_with fail
          refine (Pairs_some c v3 _ _ hSX.out.B.map).mono ?_
          rintro e y1B ⟨pv1B, rfl, hr1, hb1⟩
          obtain ⟨pa1B, pn1B, rfl⟩ := row_form hr1
          have T1B := hid (hSX.out.bel' hb1)
          have R1B := hid (row_zero hr1)
          clear hr1 hb1
          go_wp2_with fail
          refine (RPairs_z _ u3 L _ T1B.out.B.ref).mono ?_
          rintro e y2B ⟨pv2B, rfl, hr2, hb2⟩
          obtain ⟨pa2B, pn2B, rfl⟩ := row_form hr2
          have T2B := hid (T1B.out.bel' hb2)
          have R2B := hid (row_zero hr2)
          have R3B := hid ((Only.of_below hb2 []).own R1B.out (fun _ _ => by simp))
          clear hr2 hb2 T1B R1B
          go_wp2_with fail
          refine (RSamePairs_z _ _ _ _ _ R3B.out R2B.out (by have := absL_length L; omega) (by have := absL_length L; omega)).mono ?_
          rintro e y3B ⟨rfl, hb3⟩
          rw [pairsEq_self]
          have T3B := hid (T2B.out.bel' hb3)
          clear hb3 T2B R2B R3B
          go_wp2_with fail
          go_loopw [15] (fun i wr => ∃ (k : Nat) (vY1 uY1 : Value) (LY1 : RL), k ≤ ny ∧ i = .int .i64 k ∧ LY1.length ≤ 60 + k ∧ Hid (Two w c vY1 (absL LY1) q uY1 LY1 m vX1 (absL LX1) r uX1 LX1 wr)) (fun i _ => (ny - (intOf i).toNat))
          case atStart => exact ⟨0, v3, u3, L, by omega, rfl, by omega, hid T3B.out.swap⟩
          case round =>
            obtain ⟨k, vY1, uY1, LY1, hk, rfl, hLY, hSY⟩ := hrel
            by_cases hlt : k < ny
            · have hkl : k < ys.length := by have := HNY.out; omega
              rcases HY.out with h0 | ⟨b, off, rfl, hbl, hc⟩
              · have := HNY.out; rw [h0.1] at this; simp at this; omega
              have hcc := hid (hc k hkl)
              obtain ⟨C, hC⟩ : ∃ C, C = ys[k] := ⟨_, rfl⟩
              rw [← hC] at hcc
              obtain ⟨o, K, H, M, S⟩ := C
              obtain ⟨g0, g1, g2, g3, g4⟩ := cellsC hSY.out.A.bel hbl hcc.out
              have i1 : (0 : Int) ≤ (k : Int) := by omega
              have i2 : (k : Int) < (ny : Int) := by omega
              have hfew : (absL LY1).length + 1 ≤ 1000000 := by have := absL_length LY1; omega
              clear hc hC
              go_wp2
              go_region_held3 (fun w' => w'.cell? ⟨b, off + k * 5, none⟩ = some (.int .i64 o) ∧ w'.cell? ⟨b, off + k * 5 + 1, none⟩ = some (.int .u64 K) ∧ w'.cell? ⟨b, off + k * 5 + 2, none⟩ = some (.int .u64 H) ∧ w'.cell? ⟨b, off + k * 5 + 3, none⟩ = some (.int .i64 M) ∧ w'.cell? ⟨b, off + k * 5 + 4, none⟩ = some (.string S)) (go_keep)
                (first
                | ((go_at_call 38; refine (Do_z c vY1 o K H M S _ _ (hSY.out.bel' (bdrew (Below.refl _ _))).A.map hfew).mono ?_; intro e x3 hp; obtain ⟨vY2, pa, pn, rfl, hB3, hT3, hS3⟩ := (hSY.out.bel' (bdrew (Below.refl _ _))).A.doPost hp; have T3 := hid ((hSY.out.bel' (bdrew (Below.refl _ _))).turn hB3 hT3); have R3 := hid hS3; obtain ⟨m0, m1, m2, m3, m4⟩ := cellsC T3.out.A.bel hbl hcc.out; clear hp hB3 hT3 hS3))
                | ((go_at_call 22; refine (RDo_z _ uY1 o K H M S LY1 _ T3.out.A.ref (by omega)).mono ?_; intro e x4 hp; obtain ⟨LY2, uY2, qa, qn, rfl, hL1, hL2, hB4, hT4, hS4⟩ := T3.out.A.rdoPost hp; have HL1 := hid hL1; have T4 := hid (T3.out.turn hB4 hT4); have R4 := hid (R3.out.turn hT4); have Q4 := hid hS4; obtain ⟨n0, n1, n2, n3, n4⟩ := cellsC T4.out.A.bel hbl hcc.out; clear hp hL1 hB4 hT4 hS4))
                | ((go_at_call 39; refine (RSame_z _ _ _ _ _ _ _ _ _ R4.out.row Q4.out.row doP_few doP_few).mono ?_; rintro e x5 ⟨rfl, hb5⟩; rw [same_self]; have T5 := hid (T4.out.bel' hb5); rw [← HL1.out] at T5; obtain ⟨o0, o1, o2, o3, o4⟩ := cellsC T5.out.A.bel hbl hcc.out; clear hb5)))
              have hL3 : LY2.length ≤ 60 + (k + 1) := by omega
              clear hSY hL2 hLY T3 T4
              go_wp2
              go_roundw
              case rel => exact ⟨k + 1, vY2, uY2, LY2, by omega, by go_num, hL3, T5⟩
              case measure => simp [intOf]; omega
            · obtain rfl : k = ny := by omega
              clear T3B
              go_wp2_with fail
              refine (RPairs_z _ uX1 LX1 _ hSY.out.B.ref).mono ?_
              rintro e z1 ⟨qv1, rfl, hr1, hb1⟩
              obtain ⟨qa1, qn1, rfl⟩ := row_form hr1
              have U1 := hid (hSY.out.bel' hb1)
              have G1 := hid (row_zero hr1)
              clear hr1 hb1
              go_wp2_with fail
              refine (RPairs_z _ uY1 LY1 _ U1.out.A.ref).mono ?_
              rintro e z2 ⟨qv2, rfl, hr2, hb2⟩
              obtain ⟨qa2, qn2, rfl⟩ := row_form hr2
              have U2 := hid (U1.out.bel' hb2)
              have G2 := hid (row_zero hr2)
              have G3 := hid ((Only.of_below hb2 []).own G1.out (fun _ _ => by simp))
              clear hr2 hb2
              go_wp2_with fail
              refine (RSamePairs_z _ _ _ _ _ G3.out G2.out (by have := absL_length LX1; omega) (by have := absL_length LY1; omega)).mono ?_
              rintro e z3 ⟨rfl, hb3⟩
              obtain ⟨bb, hbb⟩ : ∃ bb, bb = pairsEq (absL LX1) (absL LY1) := ⟨_, rfl⟩
              rw [← hbb]
              have HBB := hid hbb
              have U3 := hid (U2.out.bel' hb3)
              clear hb3 hbb U1 U2 G1 G2 G3
              go_wp2_with fail
              refine (Pairs_some m vX1 _ _ U3.out.B.map).mono ?_
              rintro e y1Z ⟨pv1Z, rfl, hr1, hb1⟩
              obtain ⟨pa1Z, pn1Z, rfl⟩ := row_form hr1
              have T1Z := hid (U3.out.bel' hb1)
              have R1Z := hid (row_zero hr1)
              clear hr1 hb1
              go_wp2_with fail
              refine (RPairs_z _ uX1 LX1 _ T1Z.out.B.ref).mono ?_
              rintro e y2Z ⟨pv2Z, rfl, hr2, hb2⟩
              obtain ⟨pa2Z, pn2Z, rfl⟩ := row_form hr2
              have T2Z := hid (T1Z.out.bel' hb2)
              have R2Z := hid (row_zero hr2)
              have R3Z := hid ((Only.of_below hb2 []).own R1Z.out (fun _ _ => by simp))
              clear hr2 hb2 T1Z R1Z
              go_wp2_with fail
              refine (RSamePairs_z _ _ _ _ _ R3Z.out R2Z.out (by have := absL_length LX1; omega) (by have := absL_length LX1; omega)).mono ?_
              rintro e y3Z ⟨rfl, hb3⟩
              rw [pairsEq_self]
              have T3Z := hid (T2Z.out.bel' hb3)
              clear hb3 T2Z R2Z R3Z
              go_wp2_with fail
              refine (Same_any _ _ _ _ _ (MapAny.of T3Z.out.B.map) (MapAny.of T3Z.out.A.map)).mono ?_
              rintro e z5 ⟨rfl, hb5⟩
              rw [← HBB.out]
              have U5 := hid (T3Z.out.bel' hb5)
              clear hb5 T3Z
              go_wp2_with fail
              refine (Same_any _ _ _ _ _ (MapAny.of U5.out.A.map) (MapAny.of U5.out.B.map)).mono ?_
              rintro e z6 ⟨rfl, hb6⟩
              rw [pairsEq_comm, ← HBB.out]
              have U6 := hid (U5.out.bel' hb6)
              clear hb6 U5
              go_wp2_with fail
              refine (known_z22 _).mono ?_
              rintro e z7 ⟨rfl, hb7⟩
              have U7 := hid (bx U6.out.A.bel hb7)
              clear hb7
              go_wp2
              go_ret
              exact ⟨rfl, U7.out⟩

theorem ModelCopies_z (v0 : Value) (cs : List CallT) (v1 : Value) (xs : List CallT) (v2 : Value) (ys : List CallT) (w : World) (h : CallsAt w v0 cs) (hm : cs.length ≤ 9223372036854775807) (h1 : CallsAt w v1 xs) (hm1 : xs.length ≤ 9223372036854775807) (h2 : CallsAt w v2 ys) (hm2 : ys.length ≤ 9223372036854775807) :
    Calls Try.prog 10 #[v0, v1, v2] w fun e w' => e = .returned (.bool true) ∧ Below w.heap.size w w' := by
  by_cases hf : fewB cs 40 = true ∧ fewB xs 10 = true ∧ fewB ys 10 = true
  · exact ModelCopies_few v0 v1 v2 cs xs ys w h h1 h2 hf.1 hf.2.1 hf.2.2
  · exact ModelCopies_many v0 v1 v2 cs xs ys w h hm h1 hm1 h2 hm2 hf

end Go.Proofs.Ytdhnacajgmjmlaa
