/- Laws that the walk lacks, at this program's numbers: '==' on two arrays of eight uint64, on two superblocks. -/
import Derived.Test.YtnonldbnnjdifaaRows
import Derived.WalkKit
import Derived.WalkSpells
import Derived.WalkLawsBesides
namespace Go.Proofs.Ytnonldbnnjdifaa
open Go.RowKit

def eq8 (a0 a1 a2 a3 a4 a5 a6 a7 b0 b1 b2 b3 b4 b5 b6 b7 : Int) : Bool := a0 == b0 && (a1 == b1 && (a2 == b2 && (a3 == b3 && (a4 == b4 && (a5 == b5 && (a6 == b6 && a7 == b7))))))
theorem eq8_same (a0 a1 a2 a3 a4 a5 a6 a7 : Int) : eq8 a0 a1 a2 a3 a4 a5 a6 a7 a0 a1 a2 a3 a4 a5 a6 a7 = true := by simp [eq8]

set_option maxHeartbeats 1000000 in
@[go_sem] theorem eqArr8 (a0 a1 a2 a3 a4 a5 a6 a7 b0 b1 b2 b3 b4 b5 b6 b7 : Int) (w : World) :
    (Op.equalIn 10000 49 (.agg #[.int .u64 a0, .int .u64 a1, .int .u64 a2, .int .u64 a3, .int .u64 a4, .int .u64 a5, .int .u64 a6, .int .u64 a7]) (.agg #[.int .u64 b0, .int .u64 b1, .int .u64 b2, .int .u64 b3, .int .u64 b4, .int .u64 b5, .int .u64 b6, .int .u64 b7])).run Try.prog w =
      .ok (eq8 a0 a1 a2 a3 a4 a5 a6 a7 b0 b1 b2 b3 b4 b5 b6 b7) w := by
  have u3 := Try.underlying27
  have a3 := Try.isAgg27
  have z3 := Try.sizeOf27
  rw [show (10000 : Nat) = 9999 + 1 from rfl, Op.equalIn]
  simp only [Sem.run_bind, run_underlying Try.underlying49, Result.andThen_ok]
  simp only [Std.Legacy.Range.forIn_eq_forIn_range', Std.Legacy.Range.size, Nat.sub_zero, Nat.add_sub_cancel, Nat.div_one, List.range'_succ, List.range'_zero, List.forIn_cons, List.forIn_nil]
  go_simp
  unfold eq8
  repeat' split
  all_goals simp_all

@[go_sem] theorem eqSuper (a b c d : Int) (w : World) : (Op.equalIn 10000 40 (.agg #[.int .u64 a, .int .u64 b]) (.agg #[.int .u64 c, .int .u64 d])).run Try.prog w = .ok (a == c && b == d) w := by
  have u3 := Try.underlying27
  have u4 := Try.underlying28
  have a3 := Try.isAgg27
  have z3 := Try.sizeOf27
  have a4 := Try.isAgg28
  have z4 := Try.sizeOf28
  have hS : Try.prog.underlying 40 = some (.struct (Try.prog.fieldsOf 40)) := by kernel_rfl
  rw [show (10000 : Nat) = 9999 + 1 from rfl, run_equalIn_agg w 9999 40 _ _ hS (by kernel_rfl)]
  simp only [Program.fieldsOf, Try.underlying40]
  go_simp
  by_cases h1 : a = c <;> by_cases h2 : b = d <;> simp [h1, h2]

end Go.Proofs.Ytnonldbnnjdifaa
