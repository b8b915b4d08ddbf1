/- Contracts of levee/super's New, Words, Of, RootAt and of the references' Words, Of. -/
import Derived.Test.YtnonldbnnjdifaaSupA
import Derived.Laws.BitsAllLaws
namespace Go.Proofs.Ytnonldbnnjdifaa
open Go.RowKit
set_option linter.unusedVariables false

def words8 (a b c d e f g h : Int) : Value := .agg #[.int .u64 a, .int .u64 b, .int .u64 c, .int .u64 d, .int .u64 e, .int .u64 f, .int .u64 g, .int .u64 h]

/-- each bit turned round -/
def notZ (n : Int) : Int := 18446744073709551615 - n

theorem u64_not (n : Int) (h0 : 0 ≤ n) (h1 : n ≤ 18446744073709551615) : bits .xor .u64 IntKind.u64.max n = notZ n := by
  obtain ⟨a, rfl⟩ := Int.eq_ofNat_of_zero_le h0
  show IntKind.u64.wrap ((BitVec.ofInt 64 IntKind.u64.max ^^^ BitVec.ofInt 64 (a : Int)).toNat : Int) = _
  have hm : BitVec.ofInt 64 IntKind.u64.max = BitVec.allOnes 64 := by decide
  rw [hm, BitVec.allOnes_xor, BitVec.toNat_not, ofInt_u64 a (by omega)]
  unfold notZ
  simp [IntKind.wrap, IntKind.bits, IntKind.signed]
  omega

set_option maxHeartbeats 1000000 in
theorem RWords_z (sz r : Int) (w : World) (q1 : 0 ≤ sz) (q2 : sz ≤ 18446744073709551615) (a1 : 0 ≤ r) (a2 : r ≤ 18446744073709551615) :
    Calls Try.prog 47 #[.agg #[.int .u64 sz, .int .u64 r]] w fun e w' => e = .returned (words8 5929342154728227142 sz r (notZ sz) 0 0 0 0) ∧ Below w.heap.size w w' := by
  go_enter Try.func47, Try.ntmps47
  go_wp2
  refine bodyPost_ret (v := words8 5929342154728227142 sz r (notZ sz) 0 0 0 0) ?_ rfl ?_
  · simp [results, Try.results47, go_sem, words8, notZ]
  · exact ⟨rfl, by repeat (first | exact Below.refl _ _ | (refine Below.alloc ?_ (by simp; try omega) _) | (refine Below.setCell ?_ (by simp; try omega) _))⟩

set_option maxHeartbeats 1000000 in
theorem Words_z (sz r : Int) (w : World) (q1 : 0 ≤ sz) (q2 : sz ≤ 18446744073709551615) (a1 : 0 ≤ r) (a2 : r ≤ 18446744073709551615) :
    Calls Try.prog 45 #[.agg #[.int .u64 sz, .int .u64 r]] w fun e w' => e = .returned (words8 5929342154728227142 sz r (notZ sz) 0 0 0 0) ∧ Below w.heap.size w w' := by
  have hx := u64_not sz q1 q2
  go_enter Try.func45, Try.ntmps45
  go_wp2
  go_region
  go_wp2
  refine bodyPost_ret (v := words8 5929342154728227142 sz r (notZ sz) 0 0 0 0) ?_ rfl ?_
  · simp [results, Try.results45, go_sem, words8]
  · exact ⟨rfl, by repeat (first | exact Below.refl _ _ | (refine Below.drew ?_) | (refine Below.alloc ?_ (by simp; try omega) _) | (refine Below.setCell ?_ (by simp; try omega) _))⟩

set_option maxHeartbeats 2000000 in
theorem New_yes (s r : Int) (w : World) (a1 : 0 ≤ r) (a2 : r ≤ 18446744073709551615) (h : mayZ (sizeZ s) r (sizeZ s) = true) :
    Calls Try.prog 40 #[.int .i64 s, .int .u64 r] w fun e w' => e = .returned (.tuple #[.agg #[.int .u64 (sizeZ s), .int .u64 r], .int .i64 0]) ∧ Below w.heap.size w w' := by
  have hs : 0 ≤ sizeZ s ∧ sizeZ s ≤ 66560 := by unfold sizeZ; split <;> omega
  obtain ⟨s1, s2⟩ := hs
  go_enter Try.func40, Try.ntmps40
  go_wp2_with fail
  refine (Size_z _ _).mono ?_
  rintro e w1 ⟨rfl, rfl⟩
  go_wp2
  go_region_with (first | (go_at_call 17; refine (Size_z _ _).mono ?_; rintro e w1 ⟨rfl, rfl⟩) | (go_at_call 43; refine (May_z _ _ _ _ s1 (by omega) a1 a2 (by omega) (by omega)).mono ?_; rintro e w1 ⟨rfl, hb1⟩; have c0 := hb1.cell (p := ⟨w.heap.size, 0, none⟩) (by first | omega | (simp; done) | (simp; omega)); have c1 := hb1.cell (p := ⟨w.heap.size, 1, none⟩) (by first | omega | (simp; done) | (simp; omega)); have c2 := hb1.cell (p := ⟨w.heap.size + 1, 0, none⟩) (by first | omega | (simp; done) | (simp; omega)); have c3 := hb1.cell (p := ⟨w.heap.size + 1, 1, none⟩) (by first | omega | (simp; done) | (simp; omega)); have f0 := hb1.frozen (p := ⟨w.heap.size, 0, none⟩) (by first | omega | (simp; done) | (simp; omega)); have f1 := hb1.frozen (p := ⟨w.heap.size, 1, none⟩) (by first | omega | (simp; done) | (simp; omega)); have z0 := hb1.size))
  all_goals go_wp2
  all_goals refine bodyPost_ret (v := .tuple #[.agg #[.int .u64 (sizeZ s), .int .u64 r], .int .i64 0]) ?_ rfl ?_
  all_goals first | (simp [results, Try.results40, go_sem, c0, c1]; done) | exact ⟨rfl, by (repeat (first | exact Below.refl _ _ | (refine ba ?_ _) | (refine Below.drew ?_) | (refine below_drewN ?_ _) | (refine Below.alloc ?_ (by first | omega | (simp; done) | (simp; omega)) _) | (refine Below.setCell ?_ (by first | omega | (simp; done) | (simp; omega)) _) | (refine bx ?_ (by assumption)) | (refine Below.trans ?_ (Below.mono (by assumption) (by first | omega | (simp; done) | (simp; omega))))))⟩

set_option maxHeartbeats 2000000 in
theorem New_no (s r : Int) (w : World) (a1 : 0 ≤ r) (a2 : r ≤ 18446744073709551615) (h : mayZ (sizeZ s) r (sizeZ s) = false) :
    Calls Try.prog 40 #[.int .i64 s, .int .u64 r] w fun e w' => e = .returned (.tuple #[.agg #[.int .u64 0, .int .u64 0], .int .i64 2]) ∧ Below w.heap.size w w' := by
  have hs : 0 ≤ sizeZ s ∧ sizeZ s ≤ 66560 := by unfold sizeZ; split <;> omega
  obtain ⟨s1, s2⟩ := hs
  go_enter Try.func40, Try.ntmps40
  go_wp2_with fail
  refine (Size_z _ _).mono ?_
  rintro e w1 ⟨rfl, rfl⟩
  go_wp2
  go_region_with (first | (go_at_call 17; refine (Size_z _ _).mono ?_; rintro e w1 ⟨rfl, rfl⟩) | (go_at_call 43; refine (May_z _ _ _ _ s1 (by omega) a1 a2 (by omega) (by omega)).mono ?_; rintro e w1 ⟨rfl, hb1⟩; have c0 := hb1.cell (p := ⟨w.heap.size, 0, none⟩) (by first | omega | (simp; done) | (simp; omega)); have c1 := hb1.cell (p := ⟨w.heap.size, 1, none⟩) (by first | omega | (simp; done) | (simp; omega)); have c2 := hb1.cell (p := ⟨w.heap.size + 1, 0, none⟩) (by first | omega | (simp; done) | (simp; omega)); have c3 := hb1.cell (p := ⟨w.heap.size + 1, 1, none⟩) (by first | omega | (simp; done) | (simp; omega)); have f0 := hb1.frozen (p := ⟨w.heap.size, 0, none⟩) (by first | omega | (simp; done) | (simp; omega)); have f1 := hb1.frozen (p := ⟨w.heap.size, 1, none⟩) (by first | omega | (simp; done) | (simp; omega)); have z0 := hb1.size))
  all_goals go_wp2
  all_goals refine bodyPost_ret (v := .tuple #[.agg #[.int .u64 0, .int .u64 0], .int .i64 2]) ?_ rfl ?_
  all_goals first | (simp [results, Try.results40, go_sem, c0, c1]; done) | exact ⟨rfl, by (repeat (first | exact Below.refl _ _ | (refine ba ?_ _) | (refine Below.drew ?_) | (refine below_drewN ?_ _) | (refine Below.alloc ?_ (by first | omega | (simp; done) | (simp; omega)) _) | (refine Below.setCell ?_ (by first | omega | (simp; done) | (simp; omega)) _) | (refine bx ?_ (by assumption)) | (refine Below.trans ?_ (Below.mono (by assumption) (by first | omega | (simp; done) | (simp; omega))))))⟩


set_option maxHeartbeats 400000 in
theorem RootAt_z (w : World) : Calls Try.prog 54 #[] w fun e w' => e = .returned (.int .u64 16) ∧ w = w' := by
  have e1 : fieldZ 0 2 = 16 := by decide
  go_enter Try.func54, Try.ntmps54
  go_wp2_with fail
  refine (Field_z _ _ _ (by omega) (by omega)).mono ?_
  rintro e w1 ⟨rfl, rfl⟩
  go_wp2
  go_ret
  exact ⟨rfl, rfl⟩

/-- are these a superblock's words? -/
def wordsOk (a b c d e f g h : Int) : Bool := (a == 5929342154728227142) && (d == notZ b) && (e == 0) && (f == 0) && (g == 0) && (h == 0)

end Go.Proofs.Ytnonldbnnjdifaa
