/- The walk of SuperMakes. -/
import Derived.Test.YtnonldbnnjdifaaLawSup2
namespace Go.Proofs.Ytnonldbnnjdifaa
open Go.RowKit
set_option linter.unusedVariables false

theorem New_yes' (s r N : Int) (w : World) (a1 : 0 ≤ r) (a2 : r ≤ 18446744073709551615) (hN : sizeZ s = N) (h : mayZ N r N = true) :
    Calls Try.prog 40 #[.int .i64 s, .int .u64 r] w fun e w' => e = .returned (.tuple #[.agg #[.int .u64 N, .int .u64 r], .int .i64 0]) ∧ Below w.heap.size w w' := by
  subst hN; exact New_yes s r w a1 a2 h
theorem New_no' (s r N : Int) (w : World) (a1 : 0 ≤ r) (a2 : r ≤ 18446744073709551615) (hN : sizeZ s = N) (h : mayZ N r N = false) :
    Calls Try.prog 40 #[.int .i64 s, .int .u64 r] w fun e w' => e = .returned (.tuple #[.agg #[.int .u64 0, .int .u64 0], .int .i64 2]) ∧ Below w.heap.size w w' := by
  subst hN; exact New_no s r w a1 a2 h

theorem u64_wrap_neg (n N : Int) (h : n < 0) (h1 : -9223372036854775808 ≤ n) (hN : N ≤ 66560) : (IntKind.u64.wrap n == N) = false := by
  refine beq_eq_false_iff_ne.2 ?_
  simp [IntKind.wrap, IntKind.bits, IntKind.signed]
  omega

set_option maxHeartbeats 4000000 in
theorem SuperMakes_out (slabs r size : Int) (w : World) (a1 : 0 ≤ r) (a2 : r ≤ 18446744073709551615) (hs : ¬ (1 ≤ slabs ∧ slabs ≤ 64)) :
    Calls Try.prog 9 #[.int .i64 slabs, .int .u64 r, .int .i64 size] w fun e w' => e = .returned (.bool true) ∧ Below w.heap.size w w' := by
  have hsz := hid (show sizeZ slabs = 0 from if_neg hs)
  have hm := hid (show mayZ 0 r 0 = false by unfold mayZ; rw [decide_eq_false (by decide)]; simp)
  go_enter Try.func9, Try.ntmps9
  go_wp2_with fail
  refine (New_no' _ _ _ _ a1 a2 hsz.out hm.out).mono ?_
  rintro e v1 ⟨rfl, hb1⟩
  go_wp2_with fail
  all_goals
    go_wp2_with fail
    refine (known04 _).mono ?_
    rintro e v2 ⟨rfl, hb2⟩
    go_wp2
    go_ret
    exact ⟨rfl, by (repeat (first | exact Below.refl _ _ | (refine ba ?_ _) | (refine Below.drew ?_) | (refine below_drewN ?_ _) | (refine Below.alloc ?_ (by first | omega | (simp; done) | (simp; omega)) _) | (refine Below.setCell ?_ (by first | omega | (simp; done) | (simp; omega)) _) | (refine bx ?_ (by assumption)) | (refine Below.trans ?_ (Below.mono (by assumption) (by first | omega | (simp; done) | (simp; omega))))))⟩

set_option maxHeartbeats 4000000 in
theorem SuperMakes_no (slabs r size : Int) (w : World) (a1 : 0 ≤ r) (a2 : r ≤ 18446744073709551615) (s1 : 1 ≤ slabs) (s2 : slabs ≤ 64) (hm : mayZ (1024 + 1024 * slabs) r (1024 + 1024 * slabs) = false) :
    Calls Try.prog 9 #[.int .i64 slabs, .int .u64 r, .int .i64 size] w fun e w' => e = .returned (.bool true) ∧ Below w.heap.size w w' := by
  have hsz := hid (show sizeZ slabs = 1024 + 1024 * slabs by unfold sizeZ; rw [if_pos ⟨s1, s2⟩]; omega)
  have t1 : ∀ v1 : World, (v1.alloc (.cells #[.int .u64 0, .int .u64 0] 40)).cell? ⟨v1.heap.size, 0, none⟩ = some (.int .u64 0) := fun v1 => by simp
  have t2 : ∀ v1 : World, (v1.alloc (.cells #[.int .u64 0, .int .u64 0] 40)).cell? ⟨v1.heap.size, 1, none⟩ = some (.int .u64 0) := fun v1 => by simp
  go_enter Try.func9, Try.ntmps9
  go_wp2_with fail
  refine (New_no' _ _ _ _ a1 a2 hsz.out hm).mono ?_
  rintro e v1 ⟨rfl, hb1⟩
  go_wp2_with fail
  refine (RMay_z _ _ _ _ (by omega) (by omega) a1 a2 (by omega) (by omega)).mono ?_
  rintro e v2 ⟨rfl, hb2⟩
  have c0 := ck (ca (.cells #[.int .u64 (1024 + 1024 * slabs), .int .u64 r] 40) (t1 v1)) hb2
  have c1 := ck (ca (.cells #[.int .u64 (1024 + 1024 * slabs), .int .u64 r] 40) (t2 v1)) hb2
  clear t1 t2
  go_wp2_with fail
  refine (known04 _).mono ?_
  rintro e v3 ⟨rfl, hb3⟩
  go_wp2
  go_ret
  exact ⟨rfl, by (repeat (first | exact Below.refl _ _ | (refine ba ?_ _) | (refine Below.drew ?_) | (refine below_drewN ?_ _) | (refine Below.alloc ?_ (by first | omega | (simp; done) | (simp; omega)) _) | (refine Below.setCell ?_ (by first | omega | (simp; done) | (simp; omega)) _) | (refine bx ?_ (by assumption)) | (refine Below.trans ?_ (Below.mono (by assumption) (by first | omega | (simp; done) | (simp; omega))))))⟩

set_option maxHeartbeats 4000000 in
theorem SuperMakes_eq (slabs r size : Int) (w : World) (a1 : 0 ≤ r) (a2 : r ≤ 18446744073709551615) (z1 : -9223372036854775808 ≤ size) (z2 : size ≤ 9223372036854775807) (s1 : 1 ≤ slabs) (s2 : slabs ≤ 64) (hm : mayZ (1024 + 1024 * slabs) r (1024 + 1024 * slabs) = true)
    (he : size = 1024 + 1024 * slabs) :
    Calls Try.prog 9 #[.int .i64 slabs, .int .u64 r, .int .i64 size] w fun e w' => e = .returned (.bool true) ∧ Below w.heap.size w w' := by
  have hsz := hid (show sizeZ slabs = 1024 + 1024 * slabs by unfold sizeZ; rw [if_pos ⟨s1, s2⟩]; omega)
  subst he
  have hwr : IntKind.u64.wrap (1024 + 1024 * slabs) = 1024 + 1024 * slabs := IntWalk.u64_in _ (by omega)
  have t1 : ∀ v1 : World, (v1.alloc (.cells #[.int .u64 (1024 + 1024 * slabs), .int .u64 r] 40)).cell? ⟨v1.heap.size, 0, none⟩ = some (.int .u64 (1024 + 1024 * slabs)) := fun v1 => by simp
  have t2 : ∀ v1 : World, (v1.alloc (.cells #[.int .u64 (1024 + 1024 * slabs), .int .u64 r] 40)).cell? ⟨v1.heap.size, 1, none⟩ = some (.int .u64 r) := fun v1 => by simp
  go_enter Try.func9, Try.ntmps9
  go_wp2_with fail
  refine (New_yes' _ _ _ _ a1 a2 hsz.out hm).mono ?_
  rintro e v1 ⟨rfl, hb1⟩
  go_wp2_with fail
  refine (RMay_z _ _ _ _ (by omega) (by omega) a1 a2 (by omega) (by omega)).mono ?_
  rintro e v2 ⟨rfl, hb2⟩
  have c0 := ck (ca (.cells #[.int .u64 (1024 + 1024 * slabs), .int .u64 r] 40) (t1 v1)) hb2
  have c1 := ck (ca (.cells #[.int .u64 (1024 + 1024 * slabs), .int .u64 r] 40) (t2 v1)) hb2
  have d0 := ck (show ((v1.alloc (.cells #[.int .u64 (1024 + 1024 * slabs), .int .u64 r] 40)).alloc (.cells #[.int .u64 (1024 + 1024 * slabs), .int .u64 r] 40)).cell? ⟨v1.heap.size + 1, 0, none⟩ = some (.int .u64 (1024 + 1024 * slabs)) by go_simp) hb2
  have d1 := ck (show ((v1.alloc (.cells #[.int .u64 (1024 + 1024 * slabs), .int .u64 r] 40)).alloc (.cells #[.int .u64 (1024 + 1024 * slabs), .int .u64 r] 40)).cell? ⟨v1.heap.size + 1, 1, none⟩ = some (.int .u64 r) by go_simp) hb2
  clear t1 t2
  go_wp2
  go_region_held3 (fun w' => w'.cell? ⟨v1.heap.size, 0, none⟩ = some (.int .u64 (1024 + 1024 * slabs)) ∧ w'.cell? ⟨v1.heap.size, 1, none⟩ = some (.int .u64 r) ∧ w'.cell? ⟨v1.heap.size + 1, 0, none⟩ = some (.int .u64 (1024 + 1024 * slabs)) ∧ w'.cell? ⟨v1.heap.size + 1, 1, none⟩ = some (.int .u64 r)) (go_keep)
    (first | (go_at_call 43; refine (keepC (May_z _ _ _ _ (by omega) (by omega) a1 a2 z1 z2)).mono ?_; rintro e v3 ⟨rfl, hb3, hk3⟩) | (go_at_call 42; refine (keepC (known04 _)).mono ?_; rintro e v4 ⟨rfl, hb4, hk4⟩))
  go_wp2
  go_ret
  exact ⟨rfl, by (repeat (first | exact Below.refl _ _ | (refine ba ?_ _) | (refine Below.drew ?_) | (refine below_drewN ?_ _) | (refine Below.alloc ?_ (by first | omega | (simp; done) | (simp; omega)) _) | (refine Below.setCell ?_ (by first | omega | (simp; done) | (simp; omega)) _) | (refine bx ?_ (by assumption)) | (refine Below.trans ?_ (Below.mono (by assumption) (by first | omega | (simp; done) | (simp; omega))))))⟩

set_option maxHeartbeats 4000000 in
theorem SuperMakes_ne (slabs r size : Int) (w : World) (a1 : 0 ≤ r) (a2 : r ≤ 18446744073709551615) (z1 : -9223372036854775808 ≤ size) (z2 : size ≤ 9223372036854775807) (s1 : 1 ≤ slabs) (s2 : slabs ≤ 64) (hm : mayZ (1024 + 1024 * slabs) r (1024 + 1024 * slabs) = true)
    (he : ¬ size = 1024 + 1024 * slabs) (h0 : 0 ≤ size) :
    Calls Try.prog 9 #[.int .i64 slabs, .int .u64 r, .int .i64 size] w fun e w' => e = .returned (.bool true) ∧ Below w.heap.size w w' := by
  have hsz := hid (show sizeZ slabs = 1024 + 1024 * slabs by unfold sizeZ; rw [if_pos ⟨s1, s2⟩]; omega)
  have e1 : (size == 1024 + 1024 * slabs) = false := beq_eq_false_iff_ne.2 he
  have e2 : mayZ (1024 + 1024 * slabs) r size = false := by unfold mayZ; rw [beq_eq_false_iff_ne.2 (Ne.symm he)]; simp
  have hwr : IntKind.u64.wrap size = size := IntWalk.u64_in _ (by omega)
  clear he
  have t1 : ∀ v1 : World, (v1.alloc (.cells #[.int .u64 (1024 + 1024 * slabs), .int .u64 r] 40)).cell? ⟨v1.heap.size, 0, none⟩ = some (.int .u64 (1024 + 1024 * slabs)) := fun v1 => by simp
  have t2 : ∀ v1 : World, (v1.alloc (.cells #[.int .u64 (1024 + 1024 * slabs), .int .u64 r] 40)).cell? ⟨v1.heap.size, 1, none⟩ = some (.int .u64 r) := fun v1 => by simp
  go_enter Try.func9, Try.ntmps9
  go_wp2_with fail
  refine (New_yes' _ _ _ _ a1 a2 hsz.out hm).mono ?_
  rintro e v1 ⟨rfl, hb1⟩
  go_wp2_with fail
  refine (RMay_z _ _ _ _ (by omega) (by omega) a1 a2 (by omega) (by omega)).mono ?_
  rintro e v2 ⟨rfl, hb2⟩
  have c0 := ck (ca (.cells #[.int .u64 (1024 + 1024 * slabs), .int .u64 r] 40) (t1 v1)) hb2
  have c1 := ck (ca (.cells #[.int .u64 (1024 + 1024 * slabs), .int .u64 r] 40) (t2 v1)) hb2
  have d0 := ck (show ((v1.alloc (.cells #[.int .u64 (1024 + 1024 * slabs), .int .u64 r] 40)).alloc (.cells #[.int .u64 (1024 + 1024 * slabs), .int .u64 r] 40)).cell? ⟨v1.heap.size + 1, 0, none⟩ = some (.int .u64 (1024 + 1024 * slabs)) by go_simp) hb2
  have d1 := ck (show ((v1.alloc (.cells #[.int .u64 (1024 + 1024 * slabs), .int .u64 r] 40)).alloc (.cells #[.int .u64 (1024 + 1024 * slabs), .int .u64 r] 40)).cell? ⟨v1.heap.size + 1, 1, none⟩ = some (.int .u64 r) by go_simp) hb2
  clear t1 t2
  go_wp2
  go_region_held3 (fun w' => w'.cell? ⟨v1.heap.size, 0, none⟩ = some (.int .u64 (1024 + 1024 * slabs)) ∧ w'.cell? ⟨v1.heap.size, 1, none⟩ = some (.int .u64 r) ∧ w'.cell? ⟨v1.heap.size + 1, 0, none⟩ = some (.int .u64 (1024 + 1024 * slabs)) ∧ w'.cell? ⟨v1.heap.size + 1, 1, none⟩ = some (.int .u64 r)) (go_keep)
    (first | (go_at_call 43; refine (keepC (May_z _ _ _ _ (by omega) (by omega) a1 a2 z1 z2)).mono ?_; rintro e v3 ⟨rfl, hb3, hk3⟩) | (go_at_call 42; refine (keepC (known04 _)).mono ?_; rintro e v4 ⟨rfl, hb4, hk4⟩))
  go_wp2
  go_ret
  exact ⟨rfl, by (repeat (first | exact Below.refl _ _ | (refine ba ?_ _) | (refine Below.drew ?_) | (refine below_drewN ?_ _) | (refine Below.alloc ?_ (by first | omega | (simp; done) | (simp; omega)) _) | (refine Below.setCell ?_ (by first | omega | (simp; done) | (simp; omega)) _) | (refine bx ?_ (by assumption)) | (refine Below.trans ?_ (Below.mono (by assumption) (by first | omega | (simp; done) | (simp; omega))))))⟩

set_option maxHeartbeats 4000000 in
theorem SuperMakes_neg (slabs r size : Int) (w : World) (a1 : 0 ≤ r) (a2 : r ≤ 18446744073709551615) (z1 : -9223372036854775808 ≤ size) (z2 : size ≤ 9223372036854775807) (s1 : 1 ≤ slabs) (s2 : slabs ≤ 64) (hm : mayZ (1024 + 1024 * slabs) r (1024 + 1024 * slabs) = true)
    (h0 : size < 0) :
    Calls Try.prog 9 #[.int .i64 slabs, .int .u64 r, .int .i64 size] w fun e w' => e = .returned (.bool true) ∧ Below w.heap.size w w' := by
  have hsz := hid (show sizeZ slabs = 1024 + 1024 * slabs by unfold sizeZ; rw [if_pos ⟨s1, s2⟩]; omega)
  have e1 := u64_wrap_neg size (1024 + 1024 * slabs) h0 z1 (by omega)
  have e2 : mayZ (1024 + 1024 * slabs) r size = false := by unfold mayZ; rw [beq_eq_false_iff_ne.2 (show 1024 + 1024 * slabs ≠ size by omega)]; simp
  have t1 : ∀ v1 : World, (v1.alloc (.cells #[.int .u64 (1024 + 1024 * slabs), .int .u64 r] 40)).cell? ⟨v1.heap.size, 0, none⟩ = some (.int .u64 (1024 + 1024 * slabs)) := fun v1 => by simp
  have t2 : ∀ v1 : World, (v1.alloc (.cells #[.int .u64 (1024 + 1024 * slabs), .int .u64 r] 40)).cell? ⟨v1.heap.size, 1, none⟩ = some (.int .u64 r) := fun v1 => by simp
  go_enter Try.func9, Try.ntmps9
  go_wp2_with fail
  refine (New_yes' _ _ _ _ a1 a2 hsz.out hm).mono ?_
  rintro e v1 ⟨rfl, hb1⟩
  go_wp2_with fail
  refine (RMay_z _ _ _ _ (by omega) (by omega) a1 a2 (by omega) (by omega)).mono ?_
  rintro e v2 ⟨rfl, hb2⟩
  have c0 := ck (ca (.cells #[.int .u64 (1024 + 1024 * slabs), .int .u64 r] 40) (t1 v1)) hb2
  have c1 := ck (ca (.cells #[.int .u64 (1024 + 1024 * slabs), .int .u64 r] 40) (t2 v1)) hb2
  have d0 := ck (show ((v1.alloc (.cells #[.int .u64 (1024 + 1024 * slabs), .int .u64 r] 40)).alloc (.cells #[.int .u64 (1024 + 1024 * slabs), .int .u64 r] 40)).cell? ⟨v1.heap.size + 1, 0, none⟩ = some (.int .u64 (1024 + 1024 * slabs)) by go_simp) hb2
  have d1 := ck (show ((v1.alloc (.cells #[.int .u64 (1024 + 1024 * slabs), .int .u64 r] 40)).alloc (.cells #[.int .u64 (1024 + 1024 * slabs), .int .u64 r] 40)).cell? ⟨v1.heap.size + 1, 1, none⟩ = some (.int .u64 r) by go_simp) hb2
  clear t1 t2
  go_wp2
  go_region_held3 (fun w' => w'.cell? ⟨v1.heap.size, 0, none⟩ = some (.int .u64 (1024 + 1024 * slabs)) ∧ w'.cell? ⟨v1.heap.size, 1, none⟩ = some (.int .u64 r) ∧ w'.cell? ⟨v1.heap.size + 1, 0, none⟩ = some (.int .u64 (1024 + 1024 * slabs)) ∧ w'.cell? ⟨v1.heap.size + 1, 1, none⟩ = some (.int .u64 r)) (go_keep)
    (first | (go_at_call 43; refine (keepC (May_z _ _ _ _ (by omega) (by omega) a1 a2 z1 z2)).mono ?_; rintro e v3 ⟨rfl, hb3, hk3⟩) | (go_at_call 42; refine (keepC (known04 _)).mono ?_; rintro e v4 ⟨rfl, hb4, hk4⟩))
  go_wp2
  go_ret
  exact ⟨rfl, by (repeat (first | exact Below.refl _ _ | (refine ba ?_ _) | (refine Below.drew ?_) | (refine below_drewN ?_ _) | (refine Below.alloc ?_ (by first | omega | (simp; done) | (simp; omega)) _) | (refine Below.setCell ?_ (by first | omega | (simp; done) | (simp; omega)) _) | (refine bx ?_ (by assumption)) | (refine Below.trans ?_ (Below.mono (by assumption) (by first | omega | (simp; done) | (simp; omega))))))⟩

theorem SuperMakes_walk (slabs r size : Int) (w : World) (q1 : -9223372036854775808 ≤ slabs) (q2 : slabs ≤ 9223372036854775807) (a1 : 0 ≤ r) (a2 : r ≤ 18446744073709551615) (z1 : -9223372036854775808 ≤ size) (z2 : size ≤ 9223372036854775807) :
    Calls Try.prog 9 #[.int .i64 slabs, .int .u64 r, .int .i64 size] w fun e w' => e = .returned (.bool true) ∧ Below w.heap.size w w' := by
  by_cases hs : 1 ≤ slabs ∧ slabs ≤ 64
  · cases hm : mayZ (1024 + 1024 * slabs) r (1024 + 1024 * slabs) with
    | false => exact SuperMakes_no slabs r size w a1 a2 hs.1 hs.2 hm
    | true =>
      by_cases he : size = 1024 + 1024 * slabs
      · exact SuperMakes_eq slabs r size w a1 a2 z1 z2 hs.1 hs.2 hm he
      · by_cases h0 : 0 ≤ size
        · exact SuperMakes_ne slabs r size w a1 a2 z1 z2 hs.1 hs.2 hm he h0
        · exact SuperMakes_neg slabs r size w a1 a2 z1 z2 hs.1 hs.2 hm (by omega)
  · exact SuperMakes_out slabs r size w a1 a2 hs

end Go.Proofs.Ytnonldbnnjdifaa
