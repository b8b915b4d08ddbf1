/- CheckNone, a closed sentence: a part of its run on the abstract machine, which the kernel does. No condition. -/
import Derived.Test.YtoiafibgbeadeaaGreatEvCheckNoneS4
namespace Go.Proofs.YtoiafibgbeadeaaGreat.Ev
open Go.RowKit
set_option maxRecDepth 100000
theorem checkNone_p53 : Piece env 40000 checkNoneHp53 checkNoneSt52 checkNoneSt53 := piece_of (by kernel_rfl)
theorem checkNone_p54 : Piece env 40000 checkNoneHp54 checkNoneSt53 checkNoneSt54 := piece_of (by kernel_rfl)
theorem checkNone_p55 : Piece env 40000 checkNoneHp55 checkNoneSt54 checkNoneSt55 := piece_of (by kernel_rfl)
theorem checkNone_p56 : Piece env 40000 checkNoneHp56 checkNoneSt55 checkNoneSt56 := piece_of (by kernel_rfl)
end Go.Proofs.YtoiafibgbeadeaaGreat.Ev
