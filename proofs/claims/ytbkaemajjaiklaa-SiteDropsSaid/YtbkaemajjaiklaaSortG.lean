/- A row of addresses sorted: which one parts it. -/
import Derived.Test.YtbkaemajjaiklaaSortF
namespace Go.Proofs.Ytbkaemajjaiklaa
open Go.RowKit
open Go.Sort (swp ltInt)
set_option linter.unusedVariables false
set_option linter.unusedSimpArgs false

/-- how many were swapped: some number in a cell of its own -/
def SwapsAt (w : World) (sb : Nat) : Prop := ∃ k : Int, Blk w sb 3 #[.int .i64 k]

set_option maxRecDepth 100000 in
set_option maxHeartbeats 2000000 in
theorem order2_s (g n cap sb : Nat) (hsb : sb ≠ g) (d : Array Int) (tl : List Value) (a b : Nat) (ha : a < n) (hb : b < n) (hn : n ≤ 1000000000) (w : World) (h : RowS w g n d tl) (hs : SwapsAt w sb) :
    Calls Try.prog 139 #[.slice (some ⟨g, 0, none⟩) n cap, .int .i64 (a : Int), .int .i64 (b : Int), .pointer (some ⟨sb, 0, none⟩)] w fun e w' =>
      (e = .returned (.tuple #[.int .i64 (a : Int), .int .i64 (b : Int)]) ∨ e = .returned (.tuple #[.int .i64 (b : Int), .int .i64 (a : Int)])) ∧ RowS w' g n d tl ∧ SwapsAt w' sb ∧ Only [sb] w w' := by
  obtain ⟨k, hk⟩ := hs
  obtain ⟨x0, hx0⟩ : ∃ x, x = d[a]! := ⟨_, rfl⟩
  obtain ⟨xq, hxq⟩ : ∃ x, x = d[b]! := ⟨_, rfl⟩
  have c0 : w.cell? ⟨g, a, none⟩ = some (.int .u64 x0) := by rw [hx0]; exact h.cell ha
  have cq : w.cell? ⟨g, b, none⟩ = some (.int .u64 xq) := by rw [hxq]; exact h.cell hb
  have cs : w.cell? ⟨sb, 0, none⟩ = some (.int .i64 k) := hk.cell 0
  have fs := hk.frozen 0
  have a0 : (0 : Int) ≤ (a : Int) := by omega
  have an : (a : Int) < (n : Int) := by omega
  have b0 : (0 : Int) ≤ (b : Int) := by omega
  have bn : (b : Int) < (n : Int) := by omega
  have H := hid h
  have HK := hid hk
  have HSB := hid hsb
  clear h hk hx0 hxq ha hb hsb
  go_enter Try.func139, Try.ntmps139
  go_wp2_with fail
  go_quiet (first | (go_at_call 122; exact Calls.quiet_of_same (Less_s _ _ _)))
  go_wp2
  · go_ret2
    have hB := HK.out.drewN nq
    have hO : ∀ v, Only [sb] w ((w.drewN nq).setCell ⟨sb, 0, none⟩ v) := fun v => ((Only.refl [sb] w).drewN nq).setCell (p := ⟨sb, 0, none⟩) (Or.inl (by simp)) v
    refine ⟨?_, ?_, ?_, ?_⟩
    · exact Or.inr rfl
    · exact H.out.only (hO _) (by simpa using HSB.out.symm)
    · exact ⟨_, hB.set_ 0 _⟩
    · exact hO _
  · go_ret2
    exact ⟨Or.inl rfl, H.out.drewN _, ⟨k, HK.out.drewN _⟩, (Only.refl _ _).drewN _⟩

set_option maxRecDepth 100000 in
set_option maxHeartbeats 2000000 in
theorem median_s (g n cap sb : Nat) (hsb : sb ≠ g) (d : Array Int) (tl : List Value) (a b c : Nat) (ha : a < n) (hb : b < n) (hc : c < n) (hn : n ≤ 1000000000) (w : World) (h : RowS w g n d tl) (hs : SwapsAt w sb) :
    Calls Try.prog 133 #[.slice (some ⟨g, 0, none⟩) n cap, .int .i64 (a : Int), .int .i64 (b : Int), .int .i64 (c : Int), .pointer (some ⟨sb, 0, none⟩)] w fun e w' =>
      (∃ r : Nat, (r = a ∨ r = b ∨ r = c) ∧ e = .returned (.int .i64 (r : Int))) ∧ RowS w' g n d tl ∧ SwapsAt w' sb ∧ Only [sb] w w' := by
  have H := hid h
  have HS := hid hs
  have HSB := hid hsb
  have HA := hid ha
  have HB := hid hb
  have HC := hid hc
  have HN := hid hn
  clear h hs hsb ha hb hc hn
  go_enter Try.func133, Try.ntmps133
  go_wp2_with fail
  refine (order2_s g n cap sb HSB.out d tl a b HA.out HB.out HN.out w H.out HS.out).mono ?_
  rintro e w1 ⟨he, hR1, hS1, hO1⟩
  obtain ⟨x, y, hxy, rfl⟩ : ∃ x y : Nat, Hid ((x = a ∧ y = b) ∨ (x = b ∧ y = a)) ∧ e = .returned (.tuple #[.int .i64 (x : Int), .int .i64 (y : Int)]) := by
    rcases he with rfl | rfl
    · exact ⟨a, b, Or.inl ⟨rfl, rfl⟩, rfl⟩
    · exact ⟨b, a, Or.inr ⟨rfl, rfl⟩, rfl⟩
  have hxn : Hid (x < n ∧ y < n) := by
    have h1 := HA.out; have h2 := HB.out
    rcases hxy.out with ⟨rfl, rfl⟩ | ⟨rfl, rfl⟩
    · exact ⟨h1, h2⟩
    · exact ⟨h2, h1⟩
  have R1 := hid hR1
  have S1 := hid hS1
  have O1 := hid hO1
  clear hR1 hS1 hO1 he
  go_wp2_with fail
  refine (order2_s g n cap sb HSB.out d tl y c hxn.out.2 HC.out HN.out w1 R1.out S1.out).mono ?_
  rintro e w2 ⟨he, hR2, hS2, hO2⟩
  obtain ⟨u, v, huv, rfl⟩ : ∃ u v : Nat, Hid ((u = y ∧ v = c) ∨ (u = c ∧ v = y)) ∧ e = .returned (.tuple #[.int .i64 (u : Int), .int .i64 (v : Int)]) := by
    rcases he with rfl | rfl
    · exact ⟨y, c, Or.inl ⟨rfl, rfl⟩, rfl⟩
    · exact ⟨c, y, Or.inr ⟨rfl, rfl⟩, rfl⟩
  have hun : Hid (u < n) := by
    have h1 := hxn.out.2; have h2 := HC.out
    rcases huv.out with ⟨rfl, rfl⟩ | ⟨rfl, rfl⟩
    · exact h1
    · exact h2
  have R2 := hid hR2
  have S2 := hid hS2
  have O2 := hid (O1.out.trans hO2 (fun x hx => Or.inl hx))
  clear hR2 hS2 hO2 he
  go_wp2_with fail
  refine (order2_s g n cap sb HSB.out d tl x u hxn.out.1 hun.out HN.out w2 R2.out S2.out).mono ?_
  rintro e w3 ⟨he, hR3, hS3, hO3⟩
  obtain ⟨p, q, hpq, rfl⟩ : ∃ p q : Nat, Hid (q = u ∨ q = x) ∧ e = .returned (.tuple #[.int .i64 (p : Int), .int .i64 (q : Int)]) := by
    rcases he with rfl | rfl
    · exact ⟨x, u, Or.inl rfl, rfl⟩
    · exact ⟨u, x, Or.inr rfl, rfl⟩
  have R3 := hid hR3
  have S3 := hid hS3
  have O3 := hid (O2.out.trans hO3 (fun x hx => Or.inl hx))
  clear hR3 hS3 hO3 he
  go_wp2
  go_ret
  refine ⟨⟨q, ?_, rfl⟩, R3.out, S3.out, O3.out⟩
  have h1 := hxy.out; have h2 := huv.out; have h3 := hpq.out
  omega

set_option maxRecDepth 100000 in
set_option maxHeartbeats 2000000 in
theorem medianAdj_s (g n cap sb : Nat) (hsb : sb ≠ g) (d : Array Int) (tl : List Value) (a : Nat) (h1 : 1 ≤ a) (ha : a + 1 < n) (hn : n ≤ 1000000000) (w : World) (h : RowS w g n d tl) (hs : SwapsAt w sb) :
    Calls Try.prog 132 #[.slice (some ⟨g, 0, none⟩) n cap, .int .i64 (a : Int), .pointer (some ⟨sb, 0, none⟩)] w fun e w' =>
      (∃ r : Nat, (a - 1 ≤ r ∧ r ≤ a + 1) ∧ e = .returned (.int .i64 (r : Int))) ∧ RowS w' g n d tl ∧ SwapsAt w' sb ∧ Only [sb] w w' := by
  obtain ⟨p, hp⟩ : ∃ p, p = a - 1 := ⟨_, rfl⟩
  obtain ⟨q, hq⟩ : ∃ q, q = a + 1 := ⟨_, rfl⟩
  have e1 : (a : Int) - 1 = (p : Int) := by omega
  have e2 : (a : Int) + 1 = (q : Int) := by omega
  have w1 := wrapN (q := p) (by omega)
  have w2 := wrapN (q := q) (by omega)
  have hc := (median_s g n cap sb hsb d tl p a q (by omega) (by omega) (by omega) hn w h hs)
  have HC := hid hc
  have HP := hid hp
  have HQ := hid hq
  have H1 := hid h1
  clear hc hp hq h1 ha h hs
  go_enter Try.func132, Try.ntmps132
  go_wp2_with fail
  refine HC.out.mono ?_
  rintro e w3 ⟨⟨r, hr, rfl⟩, h2⟩
  have R := hid hr
  have H2 := hid h2
  clear hr h2
  go_wp2
  go_ret
  refine ⟨⟨r, ?_, rfl⟩, H2.out⟩
  have := R.out; have := HP.out; have := HQ.out; have := H1.out
  omega

theorem bOnly {w W0 W1 : World} {sb : Nat} (h : Below w.heap.size w W0) (o : Only [sb] W0 W1) (hn : w.heap.size ≤ sb) : Below w.heap.size w W1 := h.trans (o.below (by simpa using hn) h.size)

set_option maxRecDepth 100000 in
set_option maxHeartbeats 4000000 in
theorem pivot_s (g n cap : Nat) (d : Array Int) (tl : List Value) (a b : Nat) (hab : a < b) (hb : b ≤ n) (hn : n ≤ 1000000000) (w : World) (h : RowS w g n d tl) :
    Calls Try.prog 119 #[.slice (some ⟨g, 0, none⟩) n cap, .int .i64 (a : Int), .int .i64 (b : Int)] w fun e w' =>
      (∃ (r : Nat) (hint : Int), (a ≤ r ∧ r < b) ∧ (hint = 0 ∨ hint = 1 ∨ hint = 2) ∧ e = .returned (.tuple #[.int .i64 (r : Int), .int .i64 hint])) ∧ Below w.heap.size w w' := by
  obtain ⟨m, hm⟩ : ∃ m, m = b - a := ⟨_, rfl⟩
  obtain ⟨q, hq⟩ : ∃ q, q = m / 4 := ⟨_, rfl⟩
  obtain ⟨i, hi⟩ : ∃ i, i = a + q := ⟨_, rfl⟩
  obtain ⟨j, hj⟩ : ∃ j, j = a + 2 * q := ⟨_, rfl⟩
  obtain ⟨k, hk⟩ : ∃ k, k = a + 3 * q := ⟨_, rfl⟩
  have e1 : (b : Int) - (a : Int) = (m : Int) := by omega
  have e2 : ((m : Int)).tdiv 4 = (q : Int) := by rw [Int.tdiv_eq_ediv_of_nonneg (by omega)]; omega
  have e3 : (q : Int) * 1 = (q : Int) := by omega
  have e4 : (q : Int) * 2 = ((2 * q : Nat) : Int) := by omega
  have e5 : (q : Int) * 3 = ((3 * q : Nat) : Int) := by omega
  obtain ⟨q2, hq2⟩ : ∃ q2, q2 = 2 * q := ⟨_, rfl⟩
  obtain ⟨q3, hq3⟩ : ∃ q3, q3 = 3 * q := ⟨_, rfl⟩
  rw [← hq2] at e4
  rw [← hq3] at e5
  have e6 : (a : Int) + (q : Int) = (i : Int) := by omega
  have e7 : (a : Int) + (q2 : Int) = (j : Int) := by omega
  have e8 : (a : Int) + (q3 : Int) = (k : Int) := by omega
  have w1 := wrapN (q := m) (by omega)
  have w2 := wrapN (q := q) (by omega)
  have w3 := wrapN (q := q2) (by omega)
  have w4 := wrapN (q := q3) (by omega)
  have w5 := wrapN (q := i) (by omega)
  have w6 := wrapN (q := j) (by omega)
  have w7 := wrapN (q := k) (by omega)
  have m0 : (0 : Int) ≤ (m : Int) := by omega
  have F := hid (show a < b ∧ b ≤ n ∧ m = b - a ∧ q = m / 4 ∧ i = a + q ∧ j = a + 2 * q ∧ k = a + 3 * q from ⟨hab, hb, hm, hq, hi, hj, hk⟩)
  have HN := hid hn
  have H := hid h
  have HG := hid h.blk.lt
  clear h hab hb hn hm hq hi hj hk hq2 hq3
  go_enter Try.func119, Try.ntmps119
  go_upto_if 32 with fail
  obtain ⟨sb, hsb⟩ : ∃ sb, sb = w.heap.size := ⟨_, rfl⟩
  obtain ⟨W0, hW0⟩ : ∃ W0, W0 = w.alloc (.cells #[.int .i64 0] 3) := ⟨_, rfl⟩
  have B0 : Hid (Below w.heap.size w W0) := by rw [hW0]; exact ba (Below.refl _ _) _
  have R0 : Hid (RowS W0 g n d tl) := ⟨H.out.blk.bel B0.out, H.out.size⟩
  have S0 : Hid (SwapsAt W0 sb) := ⟨0, by rw [hW0, hsb]; exact Blk.new w _ _⟩
  have NE : Hid (sb ≠ g) := by have := HG.out; show sb ≠ g; omega
  have NB : Hid (w.heap.size ≤ sb) := by show w.heap.size ≤ sb; omega
  rw [← hsb, ← hW0]
  clear hsb hW0
  go_cut [11] (fun s11 wc => ∃ r : Nat, s11 = .int .i64 r ∧ Hid (a ≤ r ∧ r < b) ∧ Hid (SwapsAt wc sb) ∧ Hid (Below w.heap.size w wc))
  case first =>
    by_cases h8 : 8 ≤ m
    · have d8 : (8 : Int) ≤ (m : Int) := by omega
      have d8' : decide ((8 : Int) ≤ (m : Int)) = true := by simp; omega
      have H8 := hid h8
      by_cases h50 : 50 ≤ m
      · have d50 : (50 : Int) ≤ (m : Int) := by omega
        have d50' : decide ((50 : Int) ≤ (m : Int)) = true := by simp; omega
        have H50 := hid h50
        clear h8 h50
        go_wp2_with fail
        refine (medianAdj_s g n cap sb NE.out d tl i (by have := F.out; have := H50.out; omega) (by have := F.out; have := H50.out; omega) HN.out W0 R0.out S0.out).mono ?_
        rintro e W1 ⟨⟨i1, hi1, rfl⟩, hR, hS, hO⟩
        have I1 := hid hi1
        have R1 := hid hR
        have S1 := hid hS
        have B1 := hid (bOnly B0.out hO NB.out)
        clear hi1 hR hS hO
        go_wp2_with fail
        refine (medianAdj_s g n cap sb NE.out d tl j (by have := F.out; have := H50.out; omega) (by have := F.out; have := H50.out; omega) HN.out W1 R1.out S1.out).mono ?_
        rintro e W2 ⟨⟨j1, hj1, rfl⟩, hR, hS, hO⟩
        have I2 := hid hj1
        have R2 := hid hR
        have S2 := hid hS
        have B2 := hid (bOnly B1.out hO NB.out)
        clear hj1 hR hS hO
        go_wp2_with fail
        refine (medianAdj_s g n cap sb NE.out d tl k (by have := F.out; have := H50.out; omega) (by have := F.out; have := H50.out; omega) HN.out W2 R2.out S2.out).mono ?_
        rintro e W3 ⟨⟨k1, hk1, rfl⟩, hR, hS, hO⟩
        have I3 := hid hk1
        have R3 := hid hR
        have S3 := hid hS
        have B3 := hid (bOnly B2.out hO NB.out)
        clear hk1 hR hS hO
        go_wp2_with fail
        refine (median_s g n cap sb NE.out d tl i1 j1 k1 (by have := F.out; have := H50.out; have := I1.out; have := I2.out; have := I3.out; omega) (by have := F.out; have := H50.out; have := I1.out; have := I2.out; have := I3.out; omega) (by have := F.out; have := H50.out; have := I1.out; have := I2.out; have := I3.out; omega) HN.out W3 R3.out S3.out).mono ?_
        rintro e W4 ⟨⟨r, hr, rfl⟩, hR, hS, hO⟩
        have I4 := hid hr
        have R4 := hid hR
        have S4 := hid hS
        have B4 := hid (bOnly B3.out hO NB.out)
        clear hr hR hS hO
        go_wp2
        go_meet
        case rel => exact ⟨r, rfl, (by have := I4.out; have := F.out; have := H50.out; have := I1.out; have := I2.out; have := I3.out; omega : a ≤ r ∧ r < b), S4, B4⟩
      · have d50 : ¬ (50 : Int) ≤ (m : Int) := by omega
        clear h8 h50
        go_wp2_with fail
        refine (median_s g n cap sb NE.out d tl i j k (by have := F.out; have := H8.out; omega) (by have := F.out; have := H8.out; omega) (by have := F.out; have := H8.out; omega) HN.out W0 R0.out S0.out).mono ?_
        rintro e W4 ⟨⟨r, hr, rfl⟩, hR, hS, hO⟩
        have I4 := hid hr
        have R4 := hid hR
        have S4 := hid hS
        have B4 := hid (bOnly B0.out hO NB.out)
        clear hr hR hS hO
        go_wp2
        go_meet
        case rel => exact ⟨r, rfl, (by have := I4.out; have := F.out; have := H8.out; omega : a ≤ r ∧ r < b), S4, B4⟩
    · have d8 : ¬ (8 : Int) ≤ (m : Int) := by omega
      clear h8
      go_wp2
      go_meet
      case rel => exact ⟨j, rfl, (by have := F.out; omega : a ≤ j ∧ j < b), S0, B0⟩
  case rest =>
    obtain ⟨r, rfl, hr, ⟨k0, hk0⟩, hB⟩ := hcut
    have ck := hk0.cell 0
    have ck : wc.cell? ⟨sb, 0, none⟩ = some (.int .i64 k0) := ck
    clear hk0
    by_cases z0 : k0 = 0
    · have t0 : (k0 == 0) = true := by simp [z0]
      clear z0
      go_wp2
      go_ret2
      exact ⟨⟨r, 1, hr.out, Or.inr (Or.inl rfl), rfl⟩, hB.out⟩
    · have t0 : (k0 == 0) = false := by simp [z0]
      by_cases z1 : k0 = 12
      · have t1 : (k0 == 12) = true := by simp [z1]
        clear z0 z1
        go_wp2
        go_ret2
        exact ⟨⟨r, 2, hr.out, Or.inr (Or.inr rfl), rfl⟩, hB.out⟩
      · have t1 : (k0 == 12) = false := by simp [z1]
        clear z0 z1
        go_wp2
        go_ret2
        exact ⟨⟨r, 0, hr.out, Or.inl rfl, rfl⟩, hB.out⟩

end Go.Proofs.Ytbkaemajjaiklaa
