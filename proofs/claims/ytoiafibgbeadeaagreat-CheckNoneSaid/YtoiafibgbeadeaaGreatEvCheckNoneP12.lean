/- CheckNone, a closed sentence: a part of its run on the abstract machine, which the kernel does. No condition. -/
import Derived.Test.YtoiafibgbeadeaaGreatEvCheckNoneS4
namespace Go.Proofs.YtoiafibgbeadeaaGreat.Ev
open Go.RowKit
set_option maxRecDepth 100000
theorem checkNone_p45 : Piece env 40000 checkNoneHp45 checkNoneSt44 checkNoneSt45 := piece_of (by kernel_rfl)
theorem checkNone_p46 : Piece env 40000 checkNoneHp46 checkNoneSt45 checkNoneSt46 := piece_of (by kernel_rfl)
theorem checkNone_p47 : Piece env 40000 checkNoneHp47 checkNoneSt46 checkNoneSt47 := piece_of (by kernel_rfl)
theorem checkNone_p48 : Piece env 40000 checkNoneHp48 checkNoneSt47 checkNoneSt48 := piece_of (by kernel_rfl)
end Go.Proofs.YtoiafibgbeadeaaGreat.Ev
