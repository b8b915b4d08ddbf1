/- CheckNone, a closed sentence: a part of its run on the abstract machine, which the kernel does. No condition. -/
import Derived.Test.YtoiafibgbeadeaaGreatEvCheckNoneS4
namespace Go.Proofs.YtoiafibgbeadeaaGreat.Ev
open Go.RowKit
set_option maxRecDepth 100000
theorem checkNone_p9 : Piece env 40000 checkNoneHp9 checkNoneSt8 checkNoneSt9 := piece_of (by kernel_rfl)
theorem checkNone_p10 : Piece env 40000 checkNoneHp10 checkNoneSt9 checkNoneSt10 := piece_of (by kernel_rfl)
theorem checkNone_p11 : Piece env 40000 checkNoneHp11 checkNoneSt10 checkNoneSt11 := piece_of (by kernel_rfl)
theorem checkNone_p12 : Piece env 40000 checkNoneHp12 checkNoneSt11 checkNoneSt12 := piece_of (by kernel_rfl)
end Go.Proofs.YtoiafibgbeadeaaGreat.Ev
