/- CheckNone, a closed sentence: a part of its run on the abstract machine, which the kernel does. No condition. -/
import Derived.Test.YtoiafibgbeadeaaGreatEvCheckNoneS4
namespace Go.Proofs.YtoiafibgbeadeaaGreat.Ev
open Go.RowKit
set_option maxRecDepth 100000
theorem checkNone_p73 : Piece env 40000 checkNoneHp73 checkNoneSt72 checkNoneSt73 := piece_of (by kernel_rfl)
theorem checkNone_p74 : Piece env 40000 checkNoneHp74 checkNoneSt73 checkNoneSt74 := piece_of (by kernel_rfl)
theorem checkNone_p75 : Piece env 40000 checkNoneHp75 checkNoneSt74 checkNoneSt75 := piece_of (by kernel_rfl)
theorem checkNone_p76 : Piece env 40000 checkNoneHp76 checkNoneSt75 checkNoneSt76 := piece_of (by kernel_rfl)
end Go.Proofs.YtoiafibgbeadeaaGreat.Ev
