/- CheckNone, a closed sentence: a part of its run on the abstract machine, which the kernel does. No condition. -/
import Derived.Test.YtoiafibgbeadeaaGreatEvCheckNoneS4
namespace Go.Proofs.YtoiafibgbeadeaaGreat.Ev
open Go.RowKit
set_option maxRecDepth 100000
theorem checkNone_p41 : Piece env 40000 checkNoneHp41 checkNoneSt40 checkNoneSt41 := piece_of (by kernel_rfl)
theorem checkNone_p42 : Piece env 40000 checkNoneHp42 checkNoneSt41 checkNoneSt42 := piece_of (by kernel_rfl)
theorem checkNone_p43 : Piece env 40000 checkNoneHp43 checkNoneSt42 checkNoneSt43 := piece_of (by kernel_rfl)
theorem checkNone_p44 : Piece env 40000 checkNoneHp44 checkNoneSt43 checkNoneSt44 := piece_of (by kernel_rfl)
end Go.Proofs.YtoiafibgbeadeaaGreat.Ev
