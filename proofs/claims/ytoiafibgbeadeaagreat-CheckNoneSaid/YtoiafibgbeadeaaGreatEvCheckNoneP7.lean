/- CheckNone, a closed sentence: a part of its run on the abstract machine, which the kernel does. No condition. -/
import Derived.Test.YtoiafibgbeadeaaGreatEvCheckNoneS4
namespace Go.Proofs.YtoiafibgbeadeaaGreat.Ev
open Go.RowKit
set_option maxRecDepth 100000
theorem checkNone_p25 : Piece env 40000 checkNoneHp25 checkNoneSt24 checkNoneSt25 := piece_of (by kernel_rfl)
theorem checkNone_p26 : Piece env 40000 checkNoneHp26 checkNoneSt25 checkNoneSt26 := piece_of (by kernel_rfl)
theorem checkNone_p27 : Piece env 40000 checkNoneHp27 checkNoneSt26 checkNoneSt27 := piece_of (by kernel_rfl)
theorem checkNone_p28 : Piece env 40000 checkNoneHp28 checkNoneSt27 checkNoneSt28 := piece_of (by kernel_rfl)
end Go.Proofs.YtoiafibgbeadeaaGreat.Ev
