/- The walks of SuperMay, SuperWords, SuperReads, SuperMakes. -/
import Derived.Test.YtnonldbnnjdifaaLawSup
import Derived.Deep.RegionHeld3
namespace Go.Proofs.Ytnonldbnnjdifaa
open Go.RowKit
set_option linter.unusedVariables false

/-- a contract that says, besides, that each cell that was there holds what it held -/
theorem keepC {P : Program} {f : FuncId} {args : Array Value} {w : World} {v : Value} (h : Calls P f args w fun e w' => e = .returned v ∧ Below w.heap.size w w') :
    Calls P f args w fun e w' => e = .returned v ∧ Below w.heap.size w w' ∧ ∀ p x, w.cell? p = some x → w'.cell? p = some x :=
  h.mono fun _ _ ⟨a, b⟩ => ⟨a, b, fun _ _ h => ck h b⟩

set_option maxHeartbeats 2000000 in
theorem SuperMay_walk (sz r n : Int) (w : World) (q1 : 0 ≤ sz) (q2 : sz ≤ 18446744073709551615) (a1 : 0 ≤ r) (a2 : r ≤ 18446744073709551615) (b1 : -9223372036854775808 ≤ n) (b2 : n ≤ 9223372036854775807) :
    Calls Try.prog 10 #[.agg #[.int .u64 sz, .int .u64 r], .int .i64 n] w fun e w' => e = .returned (.bool true) ∧ Below w.heap.size w w' := by
  go_enter Try.func10, Try.ntmps10
  go_wp2
  go_region_held3 (fun w' => w'.cell? ⟨w.heap.size, 0, none⟩ = some (.int .u64 sz) ∧ w'.cell? ⟨w.heap.size, 1, none⟩ = some (.int .u64 r)) (go_keep)
    (first | (go_at_call 43; refine (keepC (May_z _ _ _ _ q1 q2 a1 a2 b1 b2)).mono ?_; rintro e v1 ⟨rfl, hb1, hk1⟩) | (go_at_call 41; refine (keepC (RMay_z _ _ _ _ q1 q2 a1 a2 b1 b2)).mono ?_; rintro e v2 ⟨rfl, hb2, hk2⟩) | (go_at_call 42; refine (keepC (known04 _)).mono ?_; rintro e v3 ⟨rfl, hb3, hk3⟩))
  go_wp2
  go_ret
  exact ⟨rfl, by (repeat (first | exact Below.refl _ _ | (refine ba ?_ _) | (refine Below.drew ?_) | (refine below_drewN ?_ _) | (refine Below.alloc ?_ (by first | omega | (simp; done) | (simp; omega)) _) | (refine Below.setCell ?_ (by first | omega | (simp; done) | (simp; omega)) _) | (refine bx ?_ (by assumption)) | (refine Below.trans ?_ (Below.mono (by assumption) (by first | omega | (simp; done) | (simp; omega))))))⟩

set_option maxHeartbeats 4000000 in
theorem SuperWords_walk (sz r : Int) (w : World) (q1 : 0 ≤ sz) (q2 : sz ≤ 18446744073709551615) (a1 : 0 ≤ r) (a2 : r ≤ 18446744073709551615) :
    Calls Try.prog 12 #[.agg #[.int .u64 sz, .int .u64 r]] w fun e w' => e = .returned (.bool true) ∧ Below w.heap.size w w' := by
  have hw : wordsOk 5929342154728227142 sz r (notZ sz) 0 0 0 0 = true := by simp [wordsOk]
  have ho := ofV_yes hw
  have he := eq8_same 5929342154728227142 sz r (notZ sz) 0 0 0 0
  clear hw
  go_enter Try.func12, Try.ntmps12
  go_wp2_with fail
  refine (Words_z _ _ _ q1 q2 a1 a2).mono ?_
  rintro e v1 ⟨rfl, hb1⟩
  unfold words8
  go_wp2_with fail
  refine (Of_z 5929342154728227142 sz r (notZ sz) 0 0 0 0 _ q1 q2 a1 a2).mono ?_
  rintro e v2 ⟨rfl, hb2⟩
  rw [ho]
  have t10 := ca (.cells #[.int .u64 sz, .int .u64 r] 40) (ck (ca (.cells #[.int .u64 5929342154728227142, .int .u64 sz, .int .u64 r, .int .u64 (notZ sz), .int .u64 0, .int .u64 0, .int .u64 0, .int .u64 0] 49) (ck (show (w.alloc (.cells #[.int .u64 sz, .int .u64 r] 40)).cell? ⟨w.heap.size, 0, none⟩ = some (.int .u64 sz) by simp) hb1)) hb2)
  have t11 := ca (.cells #[.int .u64 sz, .int .u64 r] 40) (ck (ca (.cells #[.int .u64 5929342154728227142, .int .u64 sz, .int .u64 r, .int .u64 (notZ sz), .int .u64 0, .int .u64 0, .int .u64 0, .int .u64 0] 49) (ck (show (w.alloc (.cells #[.int .u64 sz, .int .u64 r] 40)).cell? ⟨w.heap.size, 1, none⟩ = some (.int .u64 r) by simp) hb1)) hb2)
  have t30 := ca (.cells #[.int .u64 sz, .int .u64 r] 40) (ck (show (v1.alloc (.cells #[.int .u64 5929342154728227142, .int .u64 sz, .int .u64 r, .int .u64 (notZ sz), .int .u64 0, .int .u64 0, .int .u64 0, .int .u64 0] 49)).cell? ⟨v1.heap.size, 0, none⟩ = some (.int .u64 5929342154728227142) by simp) hb2)
  have t31 := ca (.cells #[.int .u64 sz, .int .u64 r] 40) (ck (show (v1.alloc (.cells #[.int .u64 5929342154728227142, .int .u64 sz, .int .u64 r, .int .u64 (notZ sz), .int .u64 0, .int .u64 0, .int .u64 0, .int .u64 0] 49)).cell? ⟨v1.heap.size, 1, none⟩ = some (.int .u64 sz) by simp) hb2)
  have t32 := ca (.cells #[.int .u64 sz, .int .u64 r] 40) (ck (show (v1.alloc (.cells #[.int .u64 5929342154728227142, .int .u64 sz, .int .u64 r, .int .u64 (notZ sz), .int .u64 0, .int .u64 0, .int .u64 0, .int .u64 0] 49)).cell? ⟨v1.heap.size, 2, none⟩ = some (.int .u64 r) by simp) hb2)
  have t33 := ca (.cells #[.int .u64 sz, .int .u64 r] 40) (ck (show (v1.alloc (.cells #[.int .u64 5929342154728227142, .int .u64 sz, .int .u64 r, .int .u64 (notZ sz), .int .u64 0, .int .u64 0, .int .u64 0, .int .u64 0] 49)).cell? ⟨v1.heap.size, 3, none⟩ = some (.int .u64 (notZ sz)) by simp) hb2)
  have t34 := ca (.cells #[.int .u64 sz, .int .u64 r] 40) (ck (show (v1.alloc (.cells #[.int .u64 5929342154728227142, .int .u64 sz, .int .u64 r, .int .u64 (notZ sz), .int .u64 0, .int .u64 0, .int .u64 0, .int .u64 0] 49)).cell? ⟨v1.heap.size, 4, none⟩ = some (.int .u64 0) by simp) hb2)
  have t35 := ca (.cells #[.int .u64 sz, .int .u64 r] 40) (ck (show (v1.alloc (.cells #[.int .u64 5929342154728227142, .int .u64 sz, .int .u64 r, .int .u64 (notZ sz), .int .u64 0, .int .u64 0, .int .u64 0, .int .u64 0] 49)).cell? ⟨v1.heap.size, 5, none⟩ = some (.int .u64 0) by simp) hb2)
  have t36 := ca (.cells #[.int .u64 sz, .int .u64 r] 40) (ck (show (v1.alloc (.cells #[.int .u64 5929342154728227142, .int .u64 sz, .int .u64 r, .int .u64 (notZ sz), .int .u64 0, .int .u64 0, .int .u64 0, .int .u64 0] 49)).cell? ⟨v1.heap.size, 6, none⟩ = some (.int .u64 0) by simp) hb2)
  have t37 := ca (.cells #[.int .u64 sz, .int .u64 r] 40) (ck (show (v1.alloc (.cells #[.int .u64 5929342154728227142, .int .u64 sz, .int .u64 r, .int .u64 (notZ sz), .int .u64 0, .int .u64 0, .int .u64 0, .int .u64 0] 49)).cell? ⟨v1.heap.size, 7, none⟩ = some (.int .u64 0) by simp) hb2)
  have t40 : (v2.alloc (.cells #[.int .u64 sz, .int .u64 r] 40)).cell? ⟨v2.heap.size, 0, none⟩ = some (.int .u64 sz) := by simp
  have t41 : (v2.alloc (.cells #[.int .u64 sz, .int .u64 r] 40)).cell? ⟨v2.heap.size, 1, none⟩ = some (.int .u64 r) := by simp
  clear ho
  go_wp2
  go_region_held3 (fun w' => w'.cell? ⟨w.heap.size, 0, none⟩ = some (.int .u64 sz) ∧ w'.cell? ⟨w.heap.size, 1, none⟩ = some (.int .u64 r) ∧ w'.cell? ⟨v1.heap.size, 0, none⟩ = some (.int .u64 5929342154728227142) ∧ w'.cell? ⟨v1.heap.size, 1, none⟩ = some (.int .u64 sz) ∧ w'.cell? ⟨v1.heap.size, 2, none⟩ = some (.int .u64 r) ∧ w'.cell? ⟨v1.heap.size, 3, none⟩ = some (.int .u64 (notZ sz)) ∧ w'.cell? ⟨v1.heap.size, 4, none⟩ = some (.int .u64 0) ∧ w'.cell? ⟨v1.heap.size, 5, none⟩ = some (.int .u64 0) ∧ w'.cell? ⟨v1.heap.size, 6, none⟩ = some (.int .u64 0) ∧ w'.cell? ⟨v1.heap.size, 7, none⟩ = some (.int .u64 0) ∧ w'.cell? ⟨v2.heap.size, 0, none⟩ = some (.int .u64 sz) ∧ w'.cell? ⟨v2.heap.size, 1, none⟩ = some (.int .u64 r)) (go_keep)
    (first | (go_at_call 47; refine (keepC (RWords_z _ _ _ q1 q2 a1 a2)).mono ?_; unfold words8; rintro e v4 ⟨rfl, hb4, hk4⟩) | (go_at_call 42; refine (keepC (known04 _)).mono ?_; rintro e v3 ⟨rfl, hb3, hk3⟩))
  go_wp2
  go_ret
  exact ⟨rfl, by (repeat (first | exact Below.refl _ _ | (refine ba ?_ _) | (refine Below.drew ?_) | (refine below_drewN ?_ _) | (refine Below.alloc ?_ (by first | omega | (simp; done) | (simp; omega)) _) | (refine Below.setCell ?_ (by first | omega | (simp; done) | (simp; omega)) _) | (refine bx ?_ (by assumption)) | (refine Below.trans ?_ (Below.mono (by assumption) (by first | omega | (simp; done) | (simp; omega))))))⟩

set_option maxHeartbeats 4000000 in
theorem SuperReads_yes (a b c d e f g h : Int) (w : World) (b1 : 0 ≤ b) (b2 : b ≤ 18446744073709551615) (c1 : 0 ≤ c) (c2 : c ≤ 18446744073709551615) (d1 : 0 ≤ d) (d2 : d ≤ 18446744073709551615) (hw : wordsOk a b c d e f g h = true) :
    Calls Try.prog 13 #[words8 a b c d e f g h] w fun en w' => en = .returned (.bool true) ∧ Below w.heap.size w w' := by
  have ho := ofV_yes hw
  clear hw
  unfold words8
  go_enter Try.func13, Try.ntmps13
  go_wp2_with fail
  refine (Of_z a b c d e f g h _ b1 b2 c1 c2).mono ?_
  rintro en v1 ⟨rfl, hb1⟩
  rw [ho]
  have t10 := ca (.cells #[.int .u64 b, .int .u64 c] 40) (ck (show (w.alloc (.cells #[.int .u64 a, .int .u64 b, .int .u64 c, .int .u64 d, .int .u64 e, .int .u64 f, .int .u64 g, .int .u64 h] 49)).cell? ⟨w.heap.size, 0, none⟩ = some (.int .u64 a) by simp) hb1)
  have t11 := ca (.cells #[.int .u64 b, .int .u64 c] 40) (ck (show (w.alloc (.cells #[.int .u64 a, .int .u64 b, .int .u64 c, .int .u64 d, .int .u64 e, .int .u64 f, .int .u64 g, .int .u64 h] 49)).cell? ⟨w.heap.size, 1, none⟩ = some (.int .u64 b) by simp) hb1)
  have t12 := ca (.cells #[.int .u64 b, .int .u64 c] 40) (ck (show (w.alloc (.cells #[.int .u64 a, .int .u64 b, .int .u64 c, .int .u64 d, .int .u64 e, .int .u64 f, .int .u64 g, .int .u64 h] 49)).cell? ⟨w.heap.size, 2, none⟩ = some (.int .u64 c) by simp) hb1)
  have t13 := ca (.cells #[.int .u64 b, .int .u64 c] 40) (ck (show (w.alloc (.cells #[.int .u64 a, .int .u64 b, .int .u64 c, .int .u64 d, .int .u64 e, .int .u64 f, .int .u64 g, .int .u64 h] 49)).cell? ⟨w.heap.size, 3, none⟩ = some (.int .u64 d) by simp) hb1)
  have t14 := ca (.cells #[.int .u64 b, .int .u64 c] 40) (ck (show (w.alloc (.cells #[.int .u64 a, .int .u64 b, .int .u64 c, .int .u64 d, .int .u64 e, .int .u64 f, .int .u64 g, .int .u64 h] 49)).cell? ⟨w.heap.size, 4, none⟩ = some (.int .u64 e) by simp) hb1)
  have t15 := ca (.cells #[.int .u64 b, .int .u64 c] 40) (ck (show (w.alloc (.cells #[.int .u64 a, .int .u64 b, .int .u64 c, .int .u64 d, .int .u64 e, .int .u64 f, .int .u64 g, .int .u64 h] 49)).cell? ⟨w.heap.size, 5, none⟩ = some (.int .u64 f) by simp) hb1)
  have t16 := ca (.cells #[.int .u64 b, .int .u64 c] 40) (ck (show (w.alloc (.cells #[.int .u64 a, .int .u64 b, .int .u64 c, .int .u64 d, .int .u64 e, .int .u64 f, .int .u64 g, .int .u64 h] 49)).cell? ⟨w.heap.size, 6, none⟩ = some (.int .u64 g) by simp) hb1)
  have t17 := ca (.cells #[.int .u64 b, .int .u64 c] 40) (ck (show (w.alloc (.cells #[.int .u64 a, .int .u64 b, .int .u64 c, .int .u64 d, .int .u64 e, .int .u64 f, .int .u64 g, .int .u64 h] 49)).cell? ⟨w.heap.size, 7, none⟩ = some (.int .u64 h) by simp) hb1)
  go_wp2_with fail
  refine (ROf_z a b c d e f g h _ b1 b2 d1 d2).mono ?_
  rintro en v2 ⟨rfl, hb2⟩
  rw [ho]
  have t30 := ca (.cells #[.int .u64 b, .int .u64 c] 40) (ck (show (v1.alloc (.cells #[.int .u64 b, .int .u64 c] 40)).cell? ⟨v1.heap.size, 0, none⟩ = some (.int .u64 b) by simp) hb2)
  have t31 := ca (.cells #[.int .u64 b, .int .u64 c] 40) (ck (show (v1.alloc (.cells #[.int .u64 b, .int .u64 c] 40)).cell? ⟨v1.heap.size, 1, none⟩ = some (.int .u64 c) by simp) hb2)
  go_wp2_with fail
  refine (known04 _).mono ?_
  rintro e v3 ⟨rfl, hb3⟩
  go_wp2
  go_ret
  exact ⟨rfl, by (repeat (first | exact Below.refl _ _ | (refine ba ?_ _) | (refine Below.drew ?_) | (refine below_drewN ?_ _) | (refine Below.alloc ?_ (by first | omega | (simp; done) | (simp; omega)) _) | (refine Below.setCell ?_ (by first | omega | (simp; done) | (simp; omega)) _) | (refine bx ?_ (by assumption)) | (refine Below.trans ?_ (Below.mono (by assumption) (by first | omega | (simp; done) | (simp; omega))))))⟩

set_option maxHeartbeats 4000000 in
theorem SuperReads_no (a b c d e f g h : Int) (w : World) (b1 : 0 ≤ b) (b2 : b ≤ 18446744073709551615) (c1 : 0 ≤ c) (c2 : c ≤ 18446744073709551615) (d1 : 0 ≤ d) (d2 : d ≤ 18446744073709551615) (hw : wordsOk a b c d e f g h = false) :
    Calls Try.prog 13 #[words8 a b c d e f g h] w fun en w' => en = .returned (.bool true) ∧ Below w.heap.size w w' := by
  have ho := ofV_no hw
  clear hw
  unfold words8
  go_enter Try.func13, Try.ntmps13
  go_wp2_with fail
  refine (Of_z a b c d e f g h _ b1 b2 c1 c2).mono ?_
  rintro en v1 ⟨rfl, hb1⟩
  rw [ho]
  have t10 := ca (.cells #[.int .u64 0, .int .u64 0] 40) (ck (show (w.alloc (.cells #[.int .u64 a, .int .u64 b, .int .u64 c, .int .u64 d, .int .u64 e, .int .u64 f, .int .u64 g, .int .u64 h] 49)).cell? ⟨w.heap.size, 0, none⟩ = some (.int .u64 a) by simp) hb1)
  have t11 := ca (.cells #[.int .u64 0, .int .u64 0] 40) (ck (show (w.alloc (.cells #[.int .u64 a, .int .u64 b, .int .u64 c, .int .u64 d, .int .u64 e, .int .u64 f, .int .u64 g, .int .u64 h] 49)).cell? ⟨w.heap.size, 1, none⟩ = some (.int .u64 b) by simp) hb1)
  have t12 := ca (.cells #[.int .u64 0, .int .u64 0] 40) (ck (show (w.alloc (.cells #[.int .u64 a, .int .u64 b, .int .u64 c, .int .u64 d, .int .u64 e, .int .u64 f, .int .u64 g, .int .u64 h] 49)).cell? ⟨w.heap.size, 2, none⟩ = some (.int .u64 c) by simp) hb1)
  have t13 := ca (.cells #[.int .u64 0, .int .u64 0] 40) (ck (show (w.alloc (.cells #[.int .u64 a, .int .u64 b, .int .u64 c, .int .u64 d, .int .u64 e, .int .u64 f, .int .u64 g, .int .u64 h] 49)).cell? ⟨w.heap.size, 3, none⟩ = some (.int .u64 d) by simp) hb1)
  have t14 := ca (.cells #[.int .u64 0, .int .u64 0] 40) (ck (show (w.alloc (.cells #[.int .u64 a, .int .u64 b, .int .u64 c, .int .u64 d, .int .u64 e, .int .u64 f, .int .u64 g, .int .u64 h] 49)).cell? ⟨w.heap.size, 4, none⟩ = some (.int .u64 e) by simp) hb1)
  have t15 := ca (.cells #[.int .u64 0, .int .u64 0] 40) (ck (show (w.alloc (.cells #[.int .u64 a, .int .u64 b, .int .u64 c, .int .u64 d, .int .u64 e, .int .u64 f, .int .u64 g, .int .u64 h] 49)).cell? ⟨w.heap.size, 5, none⟩ = some (.int .u64 f) by simp) hb1)
  have t16 := ca (.cells #[.int .u64 0, .int .u64 0] 40) (ck (show (w.alloc (.cells #[.int .u64 a, .int .u64 b, .int .u64 c, .int .u64 d, .int .u64 e, .int .u64 f, .int .u64 g, .int .u64 h] 49)).cell? ⟨w.heap.size, 6, none⟩ = some (.int .u64 g) by simp) hb1)
  have t17 := ca (.cells #[.int .u64 0, .int .u64 0] 40) (ck (show (w.alloc (.cells #[.int .u64 a, .int .u64 b, .int .u64 c, .int .u64 d, .int .u64 e, .int .u64 f, .int .u64 g, .int .u64 h] 49)).cell? ⟨w.heap.size, 7, none⟩ = some (.int .u64 h) by simp) hb1)
  go_wp2_with fail
  refine (ROf_z a b c d e f g h _ b1 b2 d1 d2).mono ?_
  rintro en v2 ⟨rfl, hb2⟩
  rw [ho]
  have t30 := ca (.cells #[.int .u64 0, .int .u64 0] 40) (ck (show (v1.alloc (.cells #[.int .u64 0, .int .u64 0] 40)).cell? ⟨v1.heap.size, 0, none⟩ = some (.int .u64 0) by simp) hb2)
  have t31 := ca (.cells #[.int .u64 0, .int .u64 0] 40) (ck (show (v1.alloc (.cells #[.int .u64 0, .int .u64 0] 40)).cell? ⟨v1.heap.size, 1, none⟩ = some (.int .u64 0) by simp) hb2)
  go_wp2_with fail
  refine (known04 _).mono ?_
  rintro e v3 ⟨rfl, hb3⟩
  go_wp2
  go_ret
  exact ⟨rfl, by (repeat (first | exact Below.refl _ _ | (refine ba ?_ _) | (refine Below.drew ?_) | (refine below_drewN ?_ _) | (refine Below.alloc ?_ (by first | omega | (simp; done) | (simp; omega)) _) | (refine Below.setCell ?_ (by first | omega | (simp; done) | (simp; omega)) _) | (refine bx ?_ (by assumption)) | (refine Below.trans ?_ (Below.mono (by assumption) (by first | omega | (simp; done) | (simp; omega))))))⟩

theorem SuperReads_walk (a b c d e f g h : Int) (w : World) (a1 : 0 ≤ a) (a2 : a ≤ 18446744073709551615) (b1 : 0 ≤ b) (b2 : b ≤ 18446744073709551615) (c1 : 0 ≤ c) (c2 : c ≤ 18446744073709551615) (d1 : 0 ≤ d) (d2 : d ≤ 18446744073709551615) (e1 : 0 ≤ e) (e2 : e ≤ 18446744073709551615) (f1 : 0 ≤ f) (f2 : f ≤ 18446744073709551615) (g1 : 0 ≤ g) (g2 : g ≤ 18446744073709551615) (h1 : 0 ≤ h) (h2 : h ≤ 18446744073709551615) :
    Calls Try.prog 13 #[words8 a b c d e f g h] w fun en w' => en = .returned (.bool true) ∧ Below w.heap.size w w' := by
  cases hw : wordsOk a b c d e f g h with
  | true => exact SuperReads_yes a b c d e f g h w b1 b2 c1 c2 d1 d2 hw
  | false => exact SuperReads_no a b c d e f g h w b1 b2 c1 c2 d1 d2 hw

end Go.Proofs.Ytnonldbnnjdifaa
