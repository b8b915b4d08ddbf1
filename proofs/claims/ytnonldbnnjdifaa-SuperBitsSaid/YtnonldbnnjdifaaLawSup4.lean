/- The walk of SuperBits. -/
import Derived.Test.YtnonldbnnjdifaaLawSup3
namespace Go.Proofs.Ytnonldbnnjdifaa
open Go.RowKit
set_option linter.unusedVariables false

theorem wrap_u64_range (n : Int) : 0 ≤ IntKind.u64.wrap n ∧ IntKind.u64.wrap n ≤ 18446744073709551615 := by
  simp [IntKind.wrap, IntKind.bits, IntKind.signed]; omega

theorem xor_ne (x n : Int) (k : Nat) (hx0 : 0 ≤ x) (hx1 : x ≤ 18446744073709551615) (hk : k < 64) :
    bits .xor .u64 x (IntKind.u64.wrap (2 ^ k)) ≠ x ∧ 0 ≤ bits .xor .u64 x (IntKind.u64.wrap (2 ^ k)) ∧ bits .xor .u64 x (IntKind.u64.wrap (2 ^ k)) ≤ 18446744073709551615 := by
  obtain ⟨a, rfl⟩ := Int.eq_ofNat_of_zero_le hx0
  have hp : (2 : Nat) ^ k < 18446744073709551616 := by
    have := Nat.pow_lt_pow_right (a := 2) (by omega) hk
    simpa using this
  have hp0 : 0 < (2 : Nat) ^ k := Nat.pow_pos (by omega)
  have hw : IntKind.u64.wrap (2 ^ k) = ((2 ^ k : Nat) : Int) := by
    rw [show (2 : Int) ^ k = ((2 ^ k : Nat) : Int) by simp]
    exact IntWalk.u64_in _ (by omega)
  rw [hw]
  have e : bits .xor .u64 (a : Int) ((2 ^ k : Nat) : Int) = (((a ^^^ 2 ^ k : Nat) : Nat) : Int) := by
    show IntKind.u64.wrap ((BitVec.ofInt 64 (a : Int) ^^^ BitVec.ofInt 64 ((2 ^ k : Nat) : Int)).toNat : Int) = _
    rw [BitVec.toNat_xor, ofInt_u64 a (by omega), ofInt_u64 (2 ^ k) (by omega)]
    refine IntWalk.u64_in _ ?_
    have := Nat.xor_lt_two_pow (x := a) (y := 2 ^ k) (n := 64) (by omega) (by omega)
    omega
  rw [e]
  have hlt := Nat.xor_lt_two_pow (x := a) (y := 2 ^ k) (n := 64) (by omega) (by omega)
  refine ⟨fun h => ?_, by omega, by omega⟩
  have h1 : a ^^^ 2 ^ k = a := by omega
  have h2 : a ^^^ (a ^^^ 2 ^ k) = a ^^^ a := by rw [h1]
  rw [← Nat.xor_assoc, Nat.xor_self, Nat.zero_xor] at h2
  omega

theorem notZ_inj {a b : Int} (h : notZ a = notZ b) : a = b := by unfold notZ at h; omega

set_option maxHeartbeats 4000000 in
theorem SuperBits_0 (sz r word bit uw ub : Int) (w : World) (q1 : 0 ≤ sz) (q2 : sz ≤ 18446744073709551615) (a1 : 0 ≤ r) (a2 : r ≤ 18446744073709551615)
    (hu : IntKind.u64.wrap word = uw) (hb : IntKind.u64.wrap bit = ub) (u1 : 0 ≤ uw) (u2 : uw ≤ 18446744073709551615) (u3 : 0 ≤ ub) (u4 : ub ≤ 18446744073709551615) (hk : uw % 8 = 0) :
    Calls Try.prog 14 #[.agg #[.int .u64 sz, .int .u64 r], .int .i64 word, .int .i64 bit] w fun e w' => e = .returned (.bool true) ∧ Below w.heap.size w w' := by
  have hnz : 0 ≤ notZ sz ∧ notZ sz ≤ 18446744073709551615 := by unfold notZ; omega
  obtain ⟨n1, n2⟩ := hnz
  have hX := hid (xor_ne (5929342154728227142) 0 (ub % 64).toNat (by omega) (by omega) (by omega))
  have t10 := fun T (v1 : World) (hb1 : Below (w.alloc (.cells #[.int .u64 sz, .int .u64 r] T)).heap.size (w.alloc (.cells #[.int .u64 sz, .int .u64 r] T)) v1) => ck (show (w.alloc (.cells #[.int .u64 sz, .int .u64 r] T)).cell? ⟨w.heap.size, 0, none⟩ = some (.int .u64 sz) by simp) hb1
  have t11 := fun T (v1 : World) (hb1 : Below (w.alloc (.cells #[.int .u64 sz, .int .u64 r] T)).heap.size (w.alloc (.cells #[.int .u64 sz, .int .u64 r] T)) v1) => ck (show (w.alloc (.cells #[.int .u64 sz, .int .u64 r] T)).cell? ⟨w.heap.size, 1, none⟩ = some (.int .u64 r) by simp) hb1
  have T10 := hid t10
  have T11 := hid t11
  clear t10 t11
  go_enter Try.func14, Try.ntmps14
  go_wp2_with fail
  refine (RWords_z _ _ _ q1 q2 a1 a2).mono ?_
  rintro e v1 ⟨rfl, hb1⟩
  unfold words8
  have c0 := T10.out _ _ hb1
  have c1 := T11.out _ _ hb1
  clear T10 T11
  go_wp2_with fail
  have hX' := hX.out
  clear hX
  generalize bits BinOp.xor IntKind.u64 (5929342154728227142) (IntKind.u64.wrap (2 ^ (ub % 64).toNat)) = X at hX' ⊢
  obtain ⟨hne, x1, x2⟩ := hX'
  have hok : wordsOk X sz r (notZ sz) 0 0 0 0 = false := by simp [wordsOk]; intro h; exact absurd h hne
  have ho := ofV_no hok
  refine (Of_z X sz r (notZ sz) 0 0 0 0 _ (by omega) (by omega) (by omega) (by omega)).mono ?_
  rintro e v2 ⟨rfl, hb2⟩
  rw [ho]
  clear ho hok
  have d0 := ck (ca (.cells #[.int .u64 X, .int .u64 sz, .int .u64 r, .int .u64 (notZ sz), .int .u64 0, .int .u64 0, .int .u64 0, .int .u64 0] 49) c0) hb2
  have d1 := ck (ca (.cells #[.int .u64 X, .int .u64 sz, .int .u64 r, .int .u64 (notZ sz), .int .u64 0, .int .u64 0, .int .u64 0, .int .u64 0] 49) c1) hb2
  have z0 := World.block_lt_of_cell? _ _ d0
  simp only at z0
  have z1 : w.heap.size ≠ v2.heap.size := by omega
  have hne' : (X != 5929342154728227142) = true := bne_iff_ne.2 hne
  clear hne c0 c1
  go_wp2_with fail
  refine (known04 _).mono ?_
  rintro e v3 ⟨rfl, hb3⟩
  go_wp2
  go_ret
  exact ⟨rfl, by (repeat (first | exact Below.refl _ _ | (refine ba ?_ _) | (refine Below.drew ?_) | (refine below_drewN ?_ _) | (refine Below.alloc ?_ (by first | omega | (simp; done) | (simp; omega)) _) | (refine Below.setCell ?_ (by first | omega | (simp; done) | (simp; omega)) _) | (refine bx ?_ (by assumption)) | (refine Below.trans ?_ (Below.mono (by assumption) (by first | omega | (simp; done) | (simp; omega))))))⟩

set_option maxHeartbeats 4000000 in
theorem SuperBits_1 (sz r word bit uw ub : Int) (w : World) (q1 : 0 ≤ sz) (q2 : sz ≤ 18446744073709551615) (a1 : 0 ≤ r) (a2 : r ≤ 18446744073709551615)
    (hu : IntKind.u64.wrap word = uw) (hb : IntKind.u64.wrap bit = ub) (u1 : 0 ≤ uw) (u2 : uw ≤ 18446744073709551615) (u3 : 0 ≤ ub) (u4 : ub ≤ 18446744073709551615) (hk : uw % 8 = 1) :
    Calls Try.prog 14 #[.agg #[.int .u64 sz, .int .u64 r], .int .i64 word, .int .i64 bit] w fun e w' => e = .returned (.bool true) ∧ Below w.heap.size w w' := by
  have hnz : 0 ≤ notZ sz ∧ notZ sz ≤ 18446744073709551615 := by unfold notZ; omega
  obtain ⟨n1, n2⟩ := hnz
  have hX := hid (xor_ne (sz) 0 (ub % 64).toNat (by omega) (by omega) (by omega))
  have t10 := fun T (v1 : World) (hb1 : Below (w.alloc (.cells #[.int .u64 sz, .int .u64 r] T)).heap.size (w.alloc (.cells #[.int .u64 sz, .int .u64 r] T)) v1) => ck (show (w.alloc (.cells #[.int .u64 sz, .int .u64 r] T)).cell? ⟨w.heap.size, 0, none⟩ = some (.int .u64 sz) by simp) hb1
  have t11 := fun T (v1 : World) (hb1 : Below (w.alloc (.cells #[.int .u64 sz, .int .u64 r] T)).heap.size (w.alloc (.cells #[.int .u64 sz, .int .u64 r] T)) v1) => ck (show (w.alloc (.cells #[.int .u64 sz, .int .u64 r] T)).cell? ⟨w.heap.size, 1, none⟩ = some (.int .u64 r) by simp) hb1
  have T10 := hid t10
  have T11 := hid t11
  clear t10 t11
  go_enter Try.func14, Try.ntmps14
  go_wp2_with fail
  refine (RWords_z _ _ _ q1 q2 a1 a2).mono ?_
  rintro e v1 ⟨rfl, hb1⟩
  unfold words8
  have c0 := T10.out _ _ hb1
  have c1 := T11.out _ _ hb1
  clear T10 T11
  go_wp2_with fail
  have hX' := hX.out
  clear hX
  generalize bits BinOp.xor IntKind.u64 (sz) (IntKind.u64.wrap (2 ^ (ub % 64).toNat)) = X at hX' ⊢
  obtain ⟨hne, x1, x2⟩ := hX'
  have hok : wordsOk 5929342154728227142 X r (notZ sz) 0 0 0 0 = false := by simp [wordsOk]; intro h; exact absurd (notZ_inj h).symm hne
  have ho := ofV_no hok
  refine (Of_z 5929342154728227142 X r (notZ sz) 0 0 0 0 _ (by omega) (by omega) (by omega) (by omega)).mono ?_
  rintro e v2 ⟨rfl, hb2⟩
  rw [ho]
  clear ho hok
  have d0 := ck (ca (.cells #[.int .u64 5929342154728227142, .int .u64 X, .int .u64 r, .int .u64 (notZ sz), .int .u64 0, .int .u64 0, .int .u64 0, .int .u64 0] 49) c0) hb2
  have d1 := ck (ca (.cells #[.int .u64 5929342154728227142, .int .u64 X, .int .u64 r, .int .u64 (notZ sz), .int .u64 0, .int .u64 0, .int .u64 0, .int .u64 0] 49) c1) hb2
  have z0 := World.block_lt_of_cell? _ _ d0
  simp only at z0
  have z1 : w.heap.size ≠ v2.heap.size := by omega
  have hne' : (X != sz) = true := bne_iff_ne.2 hne
  clear hne c0 c1
  go_wp2_with fail
  refine (known04 _).mono ?_
  rintro e v3 ⟨rfl, hb3⟩
  go_wp2
  go_ret
  exact ⟨rfl, by (repeat (first | exact Below.refl _ _ | (refine ba ?_ _) | (refine Below.drew ?_) | (refine below_drewN ?_ _) | (refine Below.alloc ?_ (by first | omega | (simp; done) | (simp; omega)) _) | (refine Below.setCell ?_ (by first | omega | (simp; done) | (simp; omega)) _) | (refine bx ?_ (by assumption)) | (refine Below.trans ?_ (Below.mono (by assumption) (by first | omega | (simp; done) | (simp; omega))))))⟩

set_option maxHeartbeats 4000000 in
theorem SuperBits_2 (sz r word bit uw ub : Int) (w : World) (q1 : 0 ≤ sz) (q2 : sz ≤ 18446744073709551615) (a1 : 0 ≤ r) (a2 : r ≤ 18446744073709551615)
    (hu : IntKind.u64.wrap word = uw) (hb : IntKind.u64.wrap bit = ub) (u1 : 0 ≤ uw) (u2 : uw ≤ 18446744073709551615) (u3 : 0 ≤ ub) (u4 : ub ≤ 18446744073709551615) (hk : uw % 8 = 2) :
    Calls Try.prog 14 #[.agg #[.int .u64 sz, .int .u64 r], .int .i64 word, .int .i64 bit] w fun e w' => e = .returned (.bool true) ∧ Below w.heap.size w w' := by
  have hnz : 0 ≤ notZ sz ∧ notZ sz ≤ 18446744073709551615 := by unfold notZ; omega
  obtain ⟨n1, n2⟩ := hnz
  have hX := hid (xor_ne (r) 0 (ub % 64).toNat (by omega) (by omega) (by omega))
  have t10 := fun T (v1 : World) (hb1 : Below (w.alloc (.cells #[.int .u64 sz, .int .u64 r] T)).heap.size (w.alloc (.cells #[.int .u64 sz, .int .u64 r] T)) v1) => ck (show (w.alloc (.cells #[.int .u64 sz, .int .u64 r] T)).cell? ⟨w.heap.size, 0, none⟩ = some (.int .u64 sz) by simp) hb1
  have t11 := fun T (v1 : World) (hb1 : Below (w.alloc (.cells #[.int .u64 sz, .int .u64 r] T)).heap.size (w.alloc (.cells #[.int .u64 sz, .int .u64 r] T)) v1) => ck (show (w.alloc (.cells #[.int .u64 sz, .int .u64 r] T)).cell? ⟨w.heap.size, 1, none⟩ = some (.int .u64 r) by simp) hb1
  have T10 := hid t10
  have T11 := hid t11
  clear t10 t11
  go_enter Try.func14, Try.ntmps14
  go_wp2_with fail
  refine (RWords_z _ _ _ q1 q2 a1 a2).mono ?_
  rintro e v1 ⟨rfl, hb1⟩
  unfold words8
  have c0 := T10.out _ _ hb1
  have c1 := T11.out _ _ hb1
  clear T10 T11
  go_wp2_with fail
  have hX' := hX.out
  clear hX
  generalize bits BinOp.xor IntKind.u64 (r) (IntKind.u64.wrap (2 ^ (ub % 64).toNat)) = X at hX' ⊢
  obtain ⟨hne, x1, x2⟩ := hX'
  have hok : wordsOk 5929342154728227142 sz X (notZ sz) 0 0 0 0 = true := by simp [wordsOk]
  have ho := ofV_yes hok
  refine (Of_z 5929342154728227142 sz X (notZ sz) 0 0 0 0 _ (by omega) (by omega) (by omega) (by omega)).mono ?_
  rintro e v2 ⟨rfl, hb2⟩
  rw [ho]
  clear ho hok
  have d0 := ck (ca (.cells #[.int .u64 5929342154728227142, .int .u64 sz, .int .u64 X, .int .u64 (notZ sz), .int .u64 0, .int .u64 0, .int .u64 0, .int .u64 0] 49) c0) hb2
  have d1 := ck (ca (.cells #[.int .u64 5929342154728227142, .int .u64 sz, .int .u64 X, .int .u64 (notZ sz), .int .u64 0, .int .u64 0, .int .u64 0, .int .u64 0] 49) c1) hb2
  have z0 := World.block_lt_of_cell? _ _ d0
  simp only at z0
  have z1 : w.heap.size ≠ v2.heap.size := by omega
  have hne' : (X != r) = true := bne_iff_ne.2 hne
  clear hne c0 c1
  go_wp2_with fail
  refine (known04 _).mono ?_
  rintro e v3 ⟨rfl, hb3⟩
  go_wp2
  go_ret
  exact ⟨rfl, by (repeat (first | exact Below.refl _ _ | (refine ba ?_ _) | (refine Below.drew ?_) | (refine below_drewN ?_ _) | (refine Below.alloc ?_ (by first | omega | (simp; done) | (simp; omega)) _) | (refine Below.setCell ?_ (by first | omega | (simp; done) | (simp; omega)) _) | (refine bx ?_ (by assumption)) | (refine Below.trans ?_ (Below.mono (by assumption) (by first | omega | (simp; done) | (simp; omega))))))⟩

set_option maxHeartbeats 4000000 in
theorem SuperBits_3 (sz r word bit uw ub : Int) (w : World) (q1 : 0 ≤ sz) (q2 : sz ≤ 18446744073709551615) (a1 : 0 ≤ r) (a2 : r ≤ 18446744073709551615)
    (hu : IntKind.u64.wrap word = uw) (hb : IntKind.u64.wrap bit = ub) (u1 : 0 ≤ uw) (u2 : uw ≤ 18446744073709551615) (u3 : 0 ≤ ub) (u4 : ub ≤ 18446744073709551615) (hk : uw % 8 = 3) :
    Calls Try.prog 14 #[.agg #[.int .u64 sz, .int .u64 r], .int .i64 word, .int .i64 bit] w fun e w' => e = .returned (.bool true) ∧ Below w.heap.size w w' := by
  have hnz : 0 ≤ notZ sz ∧ notZ sz ≤ 18446744073709551615 := by unfold notZ; omega
  obtain ⟨n1, n2⟩ := hnz
  have hX := hid (xor_ne (notZ sz) 0 (ub % 64).toNat (by omega) (by omega) (by omega))
  have t10 := fun T (v1 : World) (hb1 : Below (w.alloc (.cells #[.int .u64 sz, .int .u64 r] T)).heap.size (w.alloc (.cells #[.int .u64 sz, .int .u64 r] T)) v1) => ck (show (w.alloc (.cells #[.int .u64 sz, .int .u64 r] T)).cell? ⟨w.heap.size, 0, none⟩ = some (.int .u64 sz) by simp) hb1
  have t11 := fun T (v1 : World) (hb1 : Below (w.alloc (.cells #[.int .u64 sz, .int .u64 r] T)).heap.size (w.alloc (.cells #[.int .u64 sz, .int .u64 r] T)) v1) => ck (show (w.alloc (.cells #[.int .u64 sz, .int .u64 r] T)).cell? ⟨w.heap.size, 1, none⟩ = some (.int .u64 r) by simp) hb1
  have T10 := hid t10
  have T11 := hid t11
  clear t10 t11
  go_enter Try.func14, Try.ntmps14
  go_wp2_with fail
  refine (RWords_z _ _ _ q1 q2 a1 a2).mono ?_
  rintro e v1 ⟨rfl, hb1⟩
  unfold words8
  have c0 := T10.out _ _ hb1
  have c1 := T11.out _ _ hb1
  clear T10 T11
  go_wp2_with fail
  have hX' := hX.out
  clear hX
  generalize bits BinOp.xor IntKind.u64 (notZ sz) (IntKind.u64.wrap (2 ^ (ub % 64).toNat)) = X at hX' ⊢
  obtain ⟨hne, x1, x2⟩ := hX'
  have hok : wordsOk 5929342154728227142 sz r X 0 0 0 0 = false := by simp [wordsOk]; intro h; exact absurd h hne
  have ho := ofV_no hok
  refine (Of_z 5929342154728227142 sz r X 0 0 0 0 _ (by omega) (by omega) (by omega) (by omega)).mono ?_
  rintro e v2 ⟨rfl, hb2⟩
  rw [ho]
  clear ho hok
  have d0 := ck (ca (.cells #[.int .u64 5929342154728227142, .int .u64 sz, .int .u64 r, .int .u64 X, .int .u64 0, .int .u64 0, .int .u64 0, .int .u64 0] 49) c0) hb2
  have d1 := ck (ca (.cells #[.int .u64 5929342154728227142, .int .u64 sz, .int .u64 r, .int .u64 X, .int .u64 0, .int .u64 0, .int .u64 0, .int .u64 0] 49) c1) hb2
  have z0 := World.block_lt_of_cell? _ _ d0
  simp only at z0
  have z1 : w.heap.size ≠ v2.heap.size := by omega
  have hne' : (X != (notZ sz)) = true := bne_iff_ne.2 hne
  clear hne c0 c1
  go_wp2_with fail
  refine (known04 _).mono ?_
  rintro e v3 ⟨rfl, hb3⟩
  go_wp2
  go_ret
  exact ⟨rfl, by (repeat (first | exact Below.refl _ _ | (refine ba ?_ _) | (refine Below.drew ?_) | (refine below_drewN ?_ _) | (refine Below.alloc ?_ (by first | omega | (simp; done) | (simp; omega)) _) | (refine Below.setCell ?_ (by first | omega | (simp; done) | (simp; omega)) _) | (refine bx ?_ (by assumption)) | (refine Below.trans ?_ (Below.mono (by assumption) (by first | omega | (simp; done) | (simp; omega))))))⟩

set_option maxHeartbeats 4000000 in
theorem SuperBits_4 (sz r word bit uw ub : Int) (w : World) (q1 : 0 ≤ sz) (q2 : sz ≤ 18446744073709551615) (a1 : 0 ≤ r) (a2 : r ≤ 18446744073709551615)
    (hu : IntKind.u64.wrap word = uw) (hb : IntKind.u64.wrap bit = ub) (u1 : 0 ≤ uw) (u2 : uw ≤ 18446744073709551615) (u3 : 0 ≤ ub) (u4 : ub ≤ 18446744073709551615) (hk : uw % 8 = 4) :
    Calls Try.prog 14 #[.agg #[.int .u64 sz, .int .u64 r], .int .i64 word, .int .i64 bit] w fun e w' => e = .returned (.bool true) ∧ Below w.heap.size w w' := by
  have hnz : 0 ≤ notZ sz ∧ notZ sz ≤ 18446744073709551615 := by unfold notZ; omega
  obtain ⟨n1, n2⟩ := hnz
  have hX := hid (xor_ne (0) 0 (ub % 64).toNat (by omega) (by omega) (by omega))
  have t10 := fun T (v1 : World) (hb1 : Below (w.alloc (.cells #[.int .u64 sz, .int .u64 r] T)).heap.size (w.alloc (.cells #[.int .u64 sz, .int .u64 r] T)) v1) => ck (show (w.alloc (.cells #[.int .u64 sz, .int .u64 r] T)).cell? ⟨w.heap.size, 0, none⟩ = some (.int .u64 sz) by simp) hb1
  have t11 := fun T (v1 : World) (hb1 : Below (w.alloc (.cells #[.int .u64 sz, .int .u64 r] T)).heap.size (w.alloc (.cells #[.int .u64 sz, .int .u64 r] T)) v1) => ck (show (w.alloc (.cells #[.int .u64 sz, .int .u64 r] T)).cell? ⟨w.heap.size, 1, none⟩ = some (.int .u64 r) by simp) hb1
  have T10 := hid t10
  have T11 := hid t11
  clear t10 t11
  go_enter Try.func14, Try.ntmps14
  go_wp2_with fail
  refine (RWords_z _ _ _ q1 q2 a1 a2).mono ?_
  rintro e v1 ⟨rfl, hb1⟩
  unfold words8
  have c0 := T10.out _ _ hb1
  have c1 := T11.out _ _ hb1
  clear T10 T11
  go_wp2_with fail
  have hX' := hX.out
  clear hX
  generalize bits BinOp.xor IntKind.u64 (0) (IntKind.u64.wrap (2 ^ (ub % 64).toNat)) = X at hX' ⊢
  obtain ⟨hne, x1, x2⟩ := hX'
  have hok : wordsOk 5929342154728227142 sz r (notZ sz) X 0 0 0 = false := by simp [wordsOk]; omega
  have ho := ofV_no hok
  refine (Of_z 5929342154728227142 sz r (notZ sz) X 0 0 0 _ (by omega) (by omega) (by omega) (by omega)).mono ?_
  rintro e v2 ⟨rfl, hb2⟩
  rw [ho]
  clear ho hok
  have d0 := ck (ca (.cells #[.int .u64 5929342154728227142, .int .u64 sz, .int .u64 r, .int .u64 (notZ sz), .int .u64 X, .int .u64 0, .int .u64 0, .int .u64 0] 49) c0) hb2
  have d1 := ck (ca (.cells #[.int .u64 5929342154728227142, .int .u64 sz, .int .u64 r, .int .u64 (notZ sz), .int .u64 X, .int .u64 0, .int .u64 0, .int .u64 0] 49) c1) hb2
  have z0 := World.block_lt_of_cell? _ _ d0
  simp only at z0
  have z1 : w.heap.size ≠ v2.heap.size := by omega
  have hne' : (X != 0) = true := bne_iff_ne.2 hne
  clear hne c0 c1
  go_wp2_with fail
  refine (known04 _).mono ?_
  rintro e v3 ⟨rfl, hb3⟩
  go_wp2
  go_ret
  exact ⟨rfl, by (repeat (first | exact Below.refl _ _ | (refine ba ?_ _) | (refine Below.drew ?_) | (refine below_drewN ?_ _) | (refine Below.alloc ?_ (by first | omega | (simp; done) | (simp; omega)) _) | (refine Below.setCell ?_ (by first | omega | (simp; done) | (simp; omega)) _) | (refine bx ?_ (by assumption)) | (refine Below.trans ?_ (Below.mono (by assumption) (by first | omega | (simp; done) | (simp; omega))))))⟩

set_option maxHeartbeats 4000000 in
theorem SuperBits_5 (sz r word bit uw ub : Int) (w : World) (q1 : 0 ≤ sz) (q2 : sz ≤ 18446744073709551615) (a1 : 0 ≤ r) (a2 : r ≤ 18446744073709551615)
    (hu : IntKind.u64.wrap word = uw) (hb : IntKind.u64.wrap bit = ub) (u1 : 0 ≤ uw) (u2 : uw ≤ 18446744073709551615) (u3 : 0 ≤ ub) (u4 : ub ≤ 18446744073709551615) (hk : uw % 8 = 5) :
    Calls Try.prog 14 #[.agg #[.int .u64 sz, .int .u64 r], .int .i64 word, .int .i64 bit] w fun e w' => e = .returned (.bool true) ∧ Below w.heap.size w w' := by
  have hnz : 0 ≤ notZ sz ∧ notZ sz ≤ 18446744073709551615 := by unfold notZ; omega
  obtain ⟨n1, n2⟩ := hnz
  have hX := hid (xor_ne (0) 0 (ub % 64).toNat (by omega) (by omega) (by omega))
  have t10 := fun T (v1 : World) (hb1 : Below (w.alloc (.cells #[.int .u64 sz, .int .u64 r] T)).heap.size (w.alloc (.cells #[.int .u64 sz, .int .u64 r] T)) v1) => ck (show (w.alloc (.cells #[.int .u64 sz, .int .u64 r] T)).cell? ⟨w.heap.size, 0, none⟩ = some (.int .u64 sz) by simp) hb1
  have t11 := fun T (v1 : World) (hb1 : Below (w.alloc (.cells #[.int .u64 sz, .int .u64 r] T)).heap.size (w.alloc (.cells #[.int .u64 sz, .int .u64 r] T)) v1) => ck (show (w.alloc (.cells #[.int .u64 sz, .int .u64 r] T)).cell? ⟨w.heap.size, 1, none⟩ = some (.int .u64 r) by simp) hb1
  have T10 := hid t10
  have T11 := hid t11
  clear t10 t11
  go_enter Try.func14, Try.ntmps14
  go_wp2_with fail
  refine (RWords_z _ _ _ q1 q2 a1 a2).mono ?_
  rintro e v1 ⟨rfl, hb1⟩
  unfold words8
  have c0 := T10.out _ _ hb1
  have c1 := T11.out _ _ hb1
  clear T10 T11
  go_wp2_with fail
  have hX' := hX.out
  clear hX
  generalize bits BinOp.xor IntKind.u64 (0) (IntKind.u64.wrap (2 ^ (ub % 64).toNat)) = X at hX' ⊢
  obtain ⟨hne, x1, x2⟩ := hX'
  have hok : wordsOk 5929342154728227142 sz r (notZ sz) 0 X 0 0 = false := by simp [wordsOk]; omega
  have ho := ofV_no hok
  refine (Of_z 5929342154728227142 sz r (notZ sz) 0 X 0 0 _ (by omega) (by omega) (by omega) (by omega)).mono ?_
  rintro e v2 ⟨rfl, hb2⟩
  rw [ho]
  clear ho hok
  have d0 := ck (ca (.cells #[.int .u64 5929342154728227142, .int .u64 sz, .int .u64 r, .int .u64 (notZ sz), .int .u64 0, .int .u64 X, .int .u64 0, .int .u64 0] 49) c0) hb2
  have d1 := ck (ca (.cells #[.int .u64 5929342154728227142, .int .u64 sz, .int .u64 r, .int .u64 (notZ sz), .int .u64 0, .int .u64 X, .int .u64 0, .int .u64 0] 49) c1) hb2
  have z0 := World.block_lt_of_cell? _ _ d0
  simp only at z0
  have z1 : w.heap.size ≠ v2.heap.size := by omega
  have hne' : (X != 0) = true := bne_iff_ne.2 hne
  clear hne c0 c1
  go_wp2_with fail
  refine (known04 _).mono ?_
  rintro e v3 ⟨rfl, hb3⟩
  go_wp2
  go_ret
  exact ⟨rfl, by (repeat (first | exact Below.refl _ _ | (refine ba ?_ _) | (refine Below.drew ?_) | (refine below_drewN ?_ _) | (refine Below.alloc ?_ (by first | omega | (simp; done) | (simp; omega)) _) | (refine Below.setCell ?_ (by first | omega | (simp; done) | (simp; omega)) _) | (refine bx ?_ (by assumption)) | (refine Below.trans ?_ (Below.mono (by assumption) (by first | omega | (simp; done) | (simp; omega))))))⟩

set_option maxHeartbeats 4000000 in
theorem SuperBits_6 (sz r word bit uw ub : Int) (w : World) (q1 : 0 ≤ sz) (q2 : sz ≤ 18446744073709551615) (a1 : 0 ≤ r) (a2 : r ≤ 18446744073709551615)
    (hu : IntKind.u64.wrap word = uw) (hb : IntKind.u64.wrap bit = ub) (u1 : 0 ≤ uw) (u2 : uw ≤ 18446744073709551615) (u3 : 0 ≤ ub) (u4 : ub ≤ 18446744073709551615) (hk : uw % 8 = 6) :
    Calls Try.prog 14 #[.agg #[.int .u64 sz, .int .u64 r], .int .i64 word, .int .i64 bit] w fun e w' => e = .returned (.bool true) ∧ Below w.heap.size w w' := by
  have hnz : 0 ≤ notZ sz ∧ notZ sz ≤ 18446744073709551615 := by unfold notZ; omega
  obtain ⟨n1, n2⟩ := hnz
  have hX := hid (xor_ne (0) 0 (ub % 64).toNat (by omega) (by omega) (by omega))
  have t10 := fun T (v1 : World) (hb1 : Below (w.alloc (.cells #[.int .u64 sz, .int .u64 r] T)).heap.size (w.alloc (.cells #[.int .u64 sz, .int .u64 r] T)) v1) => ck (show (w.alloc (.cells #[.int .u64 sz, .int .u64 r] T)).cell? ⟨w.heap.size, 0, none⟩ = some (.int .u64 sz) by simp) hb1
  have t11 := fun T (v1 : World) (hb1 : Below (w.alloc (.cells #[.int .u64 sz, .int .u64 r] T)).heap.size (w.alloc (.cells #[.int .u64 sz, .int .u64 r] T)) v1) => ck (show (w.alloc (.cells #[.int .u64 sz, .int .u64 r] T)).cell? ⟨w.heap.size, 1, none⟩ = some (.int .u64 r) by simp) hb1
  have T10 := hid t10
  have T11 := hid t11
  clear t10 t11
  go_enter Try.func14, Try.ntmps14
  go_wp2_with fail
  refine (RWords_z _ _ _ q1 q2 a1 a2).mono ?_
  rintro e v1 ⟨rfl, hb1⟩
  unfold words8
  have c0 := T10.out _ _ hb1
  have c1 := T11.out _ _ hb1
  clear T10 T11
  go_wp2_with fail
  have hX' := hX.out
  clear hX
  generalize bits BinOp.xor IntKind.u64 (0) (IntKind.u64.wrap (2 ^ (ub % 64).toNat)) = X at hX' ⊢
  obtain ⟨hne, x1, x2⟩ := hX'
  have hok : wordsOk 5929342154728227142 sz r (notZ sz) 0 0 X 0 = false := by simp [wordsOk]; omega
  have ho := ofV_no hok
  refine (Of_z 5929342154728227142 sz r (notZ sz) 0 0 X 0 _ (by omega) (by omega) (by omega) (by omega)).mono ?_
  rintro e v2 ⟨rfl, hb2⟩
  rw [ho]
  clear ho hok
  have d0 := ck (ca (.cells #[.int .u64 5929342154728227142, .int .u64 sz, .int .u64 r, .int .u64 (notZ sz), .int .u64 0, .int .u64 0, .int .u64 X, .int .u64 0] 49) c0) hb2
  have d1 := ck (ca (.cells #[.int .u64 5929342154728227142, .int .u64 sz, .int .u64 r, .int .u64 (notZ sz), .int .u64 0, .int .u64 0, .int .u64 X, .int .u64 0] 49) c1) hb2
  have z0 := World.block_lt_of_cell? _ _ d0
  simp only at z0
  have z1 : w.heap.size ≠ v2.heap.size := by omega
  have hne' : (X != 0) = true := bne_iff_ne.2 hne
  clear hne c0 c1
  go_wp2_with fail
  refine (known04 _).mono ?_
  rintro e v3 ⟨rfl, hb3⟩
  go_wp2
  go_ret
  exact ⟨rfl, by (repeat (first | exact Below.refl _ _ | (refine ba ?_ _) | (refine Below.drew ?_) | (refine below_drewN ?_ _) | (refine Below.alloc ?_ (by first | omega | (simp; done) | (simp; omega)) _) | (refine Below.setCell ?_ (by first | omega | (simp; done) | (simp; omega)) _) | (refine bx ?_ (by assumption)) | (refine Below.trans ?_ (Below.mono (by assumption) (by first | omega | (simp; done) | (simp; omega))))))⟩

set_option maxHeartbeats 4000000 in
theorem SuperBits_7 (sz r word bit uw ub : Int) (w : World) (q1 : 0 ≤ sz) (q2 : sz ≤ 18446744073709551615) (a1 : 0 ≤ r) (a2 : r ≤ 18446744073709551615)
    (hu : IntKind.u64.wrap word = uw) (hb : IntKind.u64.wrap bit = ub) (u1 : 0 ≤ uw) (u2 : uw ≤ 18446744073709551615) (u3 : 0 ≤ ub) (u4 : ub ≤ 18446744073709551615) (hk : uw % 8 = 7) :
    Calls Try.prog 14 #[.agg #[.int .u64 sz, .int .u64 r], .int .i64 word, .int .i64 bit] w fun e w' => e = .returned (.bool true) ∧ Below w.heap.size w w' := by
  have hnz : 0 ≤ notZ sz ∧ notZ sz ≤ 18446744073709551615 := by unfold notZ; omega
  obtain ⟨n1, n2⟩ := hnz
  have hX := hid (xor_ne (0) 0 (ub % 64).toNat (by omega) (by omega) (by omega))
  have t10 := fun T (v1 : World) (hb1 : Below (w.alloc (.cells #[.int .u64 sz, .int .u64 r] T)).heap.size (w.alloc (.cells #[.int .u64 sz, .int .u64 r] T)) v1) => ck (show (w.alloc (.cells #[.int .u64 sz, .int .u64 r] T)).cell? ⟨w.heap.size, 0, none⟩ = some (.int .u64 sz) by simp) hb1
  have t11 := fun T (v1 : World) (hb1 : Below (w.alloc (.cells #[.int .u64 sz, .int .u64 r] T)).heap.size (w.alloc (.cells #[.int .u64 sz, .int .u64 r] T)) v1) => ck (show (w.alloc (.cells #[.int .u64 sz, .int .u64 r] T)).cell? ⟨w.heap.size, 1, none⟩ = some (.int .u64 r) by simp) hb1
  have T10 := hid t10
  have T11 := hid t11
  clear t10 t11
  go_enter Try.func14, Try.ntmps14
  go_wp2_with fail
  refine (RWords_z _ _ _ q1 q2 a1 a2).mono ?_
  rintro e v1 ⟨rfl, hb1⟩
  unfold words8
  have c0 := T10.out _ _ hb1
  have c1 := T11.out _ _ hb1
  clear T10 T11
  go_wp2_with fail
  have hX' := hX.out
  clear hX
  generalize bits BinOp.xor IntKind.u64 (0) (IntKind.u64.wrap (2 ^ (ub % 64).toNat)) = X at hX' ⊢
  obtain ⟨hne, x1, x2⟩ := hX'
  have hok : wordsOk 5929342154728227142 sz r (notZ sz) 0 0 0 X = false := by simp [wordsOk]; omega
  have ho := ofV_no hok
  refine (Of_z 5929342154728227142 sz r (notZ sz) 0 0 0 X _ (by omega) (by omega) (by omega) (by omega)).mono ?_
  rintro e v2 ⟨rfl, hb2⟩
  rw [ho]
  clear ho hok
  have d0 := ck (ca (.cells #[.int .u64 5929342154728227142, .int .u64 sz, .int .u64 r, .int .u64 (notZ sz), .int .u64 0, .int .u64 0, .int .u64 0, .int .u64 X] 49) c0) hb2
  have d1 := ck (ca (.cells #[.int .u64 5929342154728227142, .int .u64 sz, .int .u64 r, .int .u64 (notZ sz), .int .u64 0, .int .u64 0, .int .u64 0, .int .u64 X] 49) c1) hb2
  have z0 := World.block_lt_of_cell? _ _ d0
  simp only at z0
  have z1 : w.heap.size ≠ v2.heap.size := by omega
  have hne' : (X != 0) = true := bne_iff_ne.2 hne
  clear hne c0 c1
  go_wp2_with fail
  refine (known04 _).mono ?_
  rintro e v3 ⟨rfl, hb3⟩
  go_wp2
  go_ret
  exact ⟨rfl, by (repeat (first | exact Below.refl _ _ | (refine ba ?_ _) | (refine Below.drew ?_) | (refine below_drewN ?_ _) | (refine Below.alloc ?_ (by first | omega | (simp; done) | (simp; omega)) _) | (refine Below.setCell ?_ (by first | omega | (simp; done) | (simp; omega)) _) | (refine bx ?_ (by assumption)) | (refine Below.trans ?_ (Below.mono (by assumption) (by first | omega | (simp; done) | (simp; omega))))))⟩

theorem SuperBits_walk (sz r word bit : Int) (w : World) (q1 : 0 ≤ sz) (q2 : sz ≤ 18446744073709551615) (a1 : 0 ≤ r) (a2 : r ≤ 18446744073709551615) (y1 : -9223372036854775808 ≤ word) (y2 : word ≤ 9223372036854775807) (y3 : -9223372036854775808 ≤ bit) (y4 : bit ≤ 9223372036854775807) :
    Calls Try.prog 14 #[.agg #[.int .u64 sz, .int .u64 r], .int .i64 word, .int .i64 bit] w fun e w' => e = .returned (.bool true) ∧ Below w.heap.size w w' := by
  obtain ⟨u1, u2⟩ := wrap_u64_range word
  obtain ⟨u3, u4⟩ := wrap_u64_range bit
  have h : IntKind.u64.wrap word % 8 = 0 ∨ IntKind.u64.wrap word % 8 = 1 ∨ IntKind.u64.wrap word % 8 = 2 ∨ IntKind.u64.wrap word % 8 = 3 ∨ IntKind.u64.wrap word % 8 = 4 ∨ IntKind.u64.wrap word % 8 = 5 ∨ IntKind.u64.wrap word % 8 = 6 ∨ IntKind.u64.wrap word % 8 = 7 := by omega
  rcases h with h | h | h | h | h | h | h | h
  · exact SuperBits_0 sz r word bit _ _ w q1 q2 a1 a2 rfl rfl u1 u2 u3 u4 h
  · exact SuperBits_1 sz r word bit _ _ w q1 q2 a1 a2 rfl rfl u1 u2 u3 u4 h
  · exact SuperBits_2 sz r word bit _ _ w q1 q2 a1 a2 rfl rfl u1 u2 u3 u4 h
  · exact SuperBits_3 sz r word bit _ _ w q1 q2 a1 a2 rfl rfl u1 u2 u3 u4 h
  · exact SuperBits_4 sz r word bit _ _ w q1 q2 a1 a2 rfl rfl u1 u2 u3 u4 h
  · exact SuperBits_5 sz r word bit _ _ w q1 q2 a1 a2 rfl rfl u1 u2 u3 u4 h
  · exact SuperBits_6 sz r word bit _ _ w q1 q2 a1 a2 rfl rfl u1 u2 u3 u4 h
  · exact SuperBits_7 sz r word bit _ _ w q1 q2 a1 a2 rfl rfl u1 u2 u3 u4 h

end Go.Proofs.Ytnonldbnnjdifaa
