import Derived.Test.YtibiekfjbibpbaaGreatOpM
/- An opening's steps over a memory that has lines that have not lasted. -/
namespace Go.Proofs.YtibiekfjbibpbaaGreat
open Go.RowKit
set_option linter.unusedVariables false
set_option linter.unusedSimpArgs false

/-- a memory from which k words were loaded since -/
def memS (M0 : MemS) (k : Nat) : MemS := { M0 with st := ⟨(k : Int), M0.st.b, M0.st.c, M0.st.d⟩ }
theorem memS_next {M0 : MemS} {k : Nat} {s : St4} (hk : k ≤ 1000000) (a1 : s.a = ((memS M0 k).st.a + 1) % 18446744073709551616) (a2 : s.b = (memS M0 k).st.b) (a3 : s.c = (memS M0 k).st.c) (a4 : s.d = (memS M0 k).st.d) : ({ memS M0 k with st := s } : MemS) = memS M0 (k + 1) := by
  obtain ⟨a, b, c, d⟩ := s
  have e1 : a = (k : Int) + 1 := by
    have : a = ((k : Int) + 1) % 18446744073709551616 := a1
    omega
  have e2 : b = M0.st.b := a2
  have e3 : c = M0.st.c := a3
  have e4 : d = M0.st.d := a4
  subst e1 e2 e3 e4
  rfl

theorem stats_s (m : Nat) (B : MB) (M0 : MemS) (k : Nat) (w : World) (h : q4f w m B (memS M0 k)) :
    Calls Tryz.prog 61 #[ptrV m] w fun e w' => e = .returned (.agg #[.int .u64 (k : Int), .int .u64 M0.st.b, .int .u64 M0.st.c, .int .u64 M0.st.d]) ∧ Below w.heap.size w w' := v4t m B _ _ h.pos w h.blk

set_option maxRecDepth 100000 in
set_option maxHeartbeats 2000000 in
theorem OWhole_s (N : Nat) (o m : Nat) (B : MB) (M0 : MemS) (q c tg most : Nat) (bs : List Int) (hM0 : M0.view = q0b bs) (hb : ∀ x ∈ bs, 0 ≤ x ∧ x < 256) (h8 : bs.length = 8 * q) (hq0 : 0 < q) (hq : q ≤ 100000) (hmo : q ≤ most) (hmo2 : most ≤ 1000000) (err h nn : Int) (ps : List (Int × ByteArray)) (R F K : List Int)
    (hlk : ∀ w w' e, q3u bs w e w' → Below w.heap.size w w' ∧ z3f h nn err ps R F K e w') (w : World) (H : OpnL N w o m B (memS M0 0) 0 q c tg nilS) :
    Calls Tryz.prog 31 #[ptrV m, .pointer (some ⟨o, 0, none⟩), .int .i64 (most : Int)] w fun e w' => e = .returned (.int .i64 (q : Int)) ∧ Below N w w' ∧
      ∃ tv wv' pv rv fv kv, OpnD w' o m B (memS M0 q) bs tv wv' true err h nn ps R F K pv rv fv kv := by
  obtain ⟨sb, hsb⟩ : ∃ x, x = M0.st.b := ⟨_, rfl⟩
  obtain ⟨sc, hsc⟩ : ∃ x, x = M0.st.c := ⟨_, rfl⟩
  obtain ⟨sd, hsd⟩ : ∃ x, x = M0.st.d := ⟨_, rfl⟩
  have SS := fun k w h => stats_s m B M0 k w h
  rw [← hsb, ← hsc, ← hsd] at SS
  have SS := hid SS
  have HM0 := hid hM0
  have HB := hid hb
  have H8 := hid h8
  have HMO := hid (⟨hmo, hmo2, hq, hq0⟩ : _ ∧ _ ∧ _ ∧ _)
  have HLK := hid hlk
  have HI0 : Hid (∃ wv, OpnL N w o m B (memS M0 0) 0 (q - 0) (c - 0) tg wv ∧ Below N w w) := hid ⟨_, H, Below.refl _ _⟩
  clear hb h8 hmo hmo2 hq hq0 hlk H hM0 hsb hsc hsd
  go_enter Tryz.func31, Tryz.ntmps31
  go_wp2_with fail
  go_loopw [7, 8, 9, 10, 11] (fun iv s8 s9 s10 s11 wr => ∃ k : Nat, k < q ∧ iv = .int .i64 ((k : Int) + 1) ∧ Hid (∃ wv, OpnL N wr o m B (memS M0 k) k (q - k) (c - k) tg wv ∧ Below N w wr)) (fun iv _ _ _ _ _ => (q + 1 - (intOf iv).toNat))
  case atStart => exact ⟨0, HMO.out.2.2.2, rfl, HI0⟩
  case round =>
    obtain ⟨k, hk, rfl, hI⟩ := hrel
    obtain ⟨wA, rfl⟩ : ∃ x, x = wr := ⟨_, rfl⟩
    obtain ⟨wv, hL, hbl⟩ := hI.out
    have i1 : (k : Int) + 1 ≤ (most : Int) := by have := HMO.out; omega
    have ST := hid (SS.out k wA hL.mem)
    have HL := hid hL
    have HBL := hid hbl
    have HK := hid hk
    clear hL hbl hI hk HI0
    go_wp2_with fail
    refine ST.out.mono ?_
    rintro e w2 ⟨rfl, hb2⟩
    have HL2 := hid (HL.out.bel hb2)
    have HB2 := hid (HBL.out.trans (hb2.mono (Nat.le_trans HL.out.lo.1 (Nat.le_of_lt HL.out.blk.lt))))
    clear hb2 ST
    go_wp2_with fail
    obtain ⟨b8, hb8⟩ : ∃ b8, b8 = w2.heap.size := ⟨_, rfl⟩
    obtain ⟨W3, hW3⟩ : ∃ W3, W3 = w2.alloc (.cells #[.int .u64 (k : Int), .int .u64 sb, .int .u64 sc, .int .u64 sd] 129) := ⟨_, rfl⟩
    rw [← hW3]
    rw [← hb8]
    have hb3 : Below w2.heap.size w2 W3 := by rw [hW3]; exact ba (Below.refl _ _) _
    have hK8 : Blk W3 b8 129 #[.int .u64 (k : Int), .int .u64 sb, .int .u64 sc, .int .u64 sd] := by rw [hW3, hb8]; exact Blk.new _ _ _
    have hL3 := HL2.out.bel hb3
    have hbl3 : Below N w W3 := HB2.out.trans (hb3.mono (Nat.le_trans HL2.out.lo.1 (Nat.le_of_lt HL2.out.blk.lt)))
    have hn8 : b8 ∉ o :: m :: wv.ownBlock.toList := fun hx => by
      have h2 := HL2.out
      simp only [List.mem_cons] at hx
      rcases hx with e | e | e
      · have := h2.blk.lt; omega
      · have := h2.mem.blk.lt; omega
      · obtain ⟨_, ob, h5, _⟩ := q3c h2.own b8 (by simpa using e)
        have := (Array.getElem?_eq_some_iff.1 h5).1
        omega
    by_cases hlast : k + 1 < q
    · have SM := hid (x2a N o m B _ k (q - k) (c - k) tg wv (by omega) W3 hL3)
      have HX := hid (⟨hK8, hn8, hbl3, hL3, hlast⟩ : _ ∧ _ ∧ _ ∧ _ ∧ _)
      clear hK8 hn8 hbl3 hL3 hb3 hW3 hb8 hlast HB2 HL2 HL HBL
      refine SM.out.mono ?_
      rintro e w4 ⟨rfl, wv', s, a1, a2, a3, a4, hL4, ho4⟩
      rw [memS_next (by have := HMO.out; have := HK.out; omega) a1 a2 a3 a4] at hL4
      have ST := hid (SS.out (k + 1) w4 hL4.mem)
      have H4 := hid (⟨hL4, ho4.blk HX.out.1 HX.out.2.1, HX.out.2.2.1.trans (HX.out.2.2.2.1.blw ho4)⟩ : _ ∧ _ ∧ _)
      clear hL4 ho4 a1 a2 a3 a4 SM
      go_wp2_with fail
      refine ST.out.mono ?_
      rintro e w5 ⟨rfl, hb5⟩
      have d8 := (H4.out.2.1.bel hb5)
      have e0 : w5.cell? ⟨b8, 0, none⟩ = some (.int .u64 (k : Int)) := d8.cell 0
      have e1 : w5.cell? ⟨b8, 1, none⟩ = some (.int .u64 sb) := d8.cell 1
      have e2 : w5.cell? ⟨b8, 2, none⟩ = some (.int .u64 sc) := d8.cell 2
      have e3 : w5.cell? ⟨b8, 3, none⟩ = some (.int .u64 sd) := d8.cell 3
      have hl8 : b8 < w5.heap.size := d8.lt
      have hL5 := H4.out.1.bel hb5
      have H5 := hid (⟨hL5, H4.out.2.2.trans (hb5.mono (Nat.le_trans H4.out.1.lo.1 (Nat.le_of_lt H4.out.1.blk.lt)))⟩ : _ ∧ _)
      have d1 : IntKind.u64.wrap (((k + 1 : Nat) : Int) - (k : Int)) = 1 := by rw [show ((k + 1 : Nat) : Int) - (k : Int) = 1 by omega]; rfl
      clear hb5 d8 hL5 H4 ST
      have HN : Hid (∃ wv, OpnL N (w5.alloc (.cells #[.int .u64 ((k : Int) + 1), .int .u64 sb, .int .u64 sc, .int .u64 sd] 129)) o m B (memS M0 (k + 1)) (k + 1) (q - (k + 1)) (c - (k + 1)) tg wv ∧ Below N w (w5.alloc (.cells #[.int .u64 ((k : Int) + 1), .int .u64 sb, .int .u64 sc, .int .u64 sd] 129))) := by
        obtain ⟨h5, h6⟩ := H5.out
        have hba : Below w5.heap.size w5 (w5.alloc (.cells #[.int .u64 ((k : Int) + 1), .int .u64 sb, .int .u64 sc, .int .u64 sd] 129)) := ba (Below.refl _ _) _
        rw [Nat.sub_sub, Nat.sub_sub] at h5
        exact hid ⟨_, h5.bel hba, h6.trans (hba.mono (Nat.le_trans h5.lo.1 (Nat.le_of_lt h5.blk.lt)))⟩
      have ik : (k : Int) ≤ 100000 := by have := HMO.out; have := HK.out; omega
      have i0 : (0 : Int) ≤ (k : Int) := by omega
      go_wp2_with fail
      go_roundw
      case rel => exact ⟨k + 1, HX.out.2.2.2.2, by go_num, HN⟩
      case measure => simp [intOf]; have := HX.out.2.2.2.2; omega
    · have hqk : q - k = 1 := by have := HK.out; omega
      have hq1 : q = k + 1 := by omega
      rw [hqk] at hL3
      have SL := hid (x4m N o m B _ k (c - k) tg wv W3 hL3 bs HB.out HM0.out.symm (by rw [H8.out, hq1]) (by have := HMO.out; omega) err h nn ps R F K HLK.out)
      have HX := hid (⟨hK8, hn8, hbl3, hL3, hq1⟩ : _ ∧ _ ∧ _ ∧ _ ∧ _)
      clear hK8 hn8 hbl3 hL3 hb3 hW3 hb8 hlast HB2 HL2 HL HBL hqk hq1
      refine SL.out.mono ?_
      rintro e w4 ⟨rfl, tv, wv', pv, rv, fv, kv, s, a1, a2, a3, a4, hD4, ho4⟩
      rw [memS_next (by have := HMO.out; have := HK.out; omega) a1 a2 a3 a4] at hD4
      have ST := hid (SS.out (k + 1) w4 hD4.mem)
      have H4 := hid (⟨hD4, ho4.blk HX.out.1 HX.out.2.1, HX.out.2.2.1.trans (HX.out.2.2.2.1.blw ho4)⟩ : _ ∧ _ ∧ _)
      have hNw4 : N ≤ w4.heap.size := Nat.le_trans (Nat.le_trans HX.out.2.2.2.1.lo.1 (Nat.le_of_lt HX.out.2.2.2.1.blk.lt)) ho4.size
      clear hD4 ho4 a1 a2 a3 a4 SL
      go_wp2_with fail
      refine ST.out.mono ?_
      rintro e w5 ⟨rfl, hb5⟩
      have d8 := (H4.out.2.1.bel hb5)
      have e0 : w5.cell? ⟨b8, 0, none⟩ = some (.int .u64 (k : Int)) := d8.cell 0
      have e1 : w5.cell? ⟨b8, 1, none⟩ = some (.int .u64 sb) := d8.cell 1
      have e2 : w5.cell? ⟨b8, 2, none⟩ = some (.int .u64 sc) := d8.cell 2
      have e3 : w5.cell? ⟨b8, 3, none⟩ = some (.int .u64 sd) := d8.cell 3
      have hl8 : b8 < w5.heap.size := d8.lt
      have hba : Below w5.heap.size w5 (w5.alloc (.cells #[.int .u64 ((k : Int) + 1), .int .u64 sb, .int .u64 sc, .int .u64 sd] 129)) := ba (Below.refl _ _) _
      have H5 := hid (⟨H4.out.1.bel (bx hb5 hba), H4.out.2.2.trans ((bx hb5 hba).mono hNw4)⟩ : _ ∧ _)
      have d1 : IntKind.u64.wrap (((k + 1 : Nat) : Int) - (k : Int)) = 1 := by rw [show ((k + 1 : Nat) : Int) - (k : Int) = 1 by omega]; rfl
      clear hb5 d8 H4 ST hba hNw4
      go_wp2_with fail
      go_ret
      obtain ⟨h5, h6⟩ := H5.out
      have hq1 := HX.out.2.2.2.2
      subst hq1
      exact ⟨by simp, h6, tv, wv', pv, rv, fv, kv, h5⟩

end Go.Proofs.YtibiekfjbibpbaaGreat
