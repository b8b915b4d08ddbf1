/- CheckNone, a closed sentence: a part of its run on the abstract machine, which the kernel does. No condition. -/
import Derived.Test.YtoiafibgbeadeaaGreatEvCheckNoneS4
namespace Go.Proofs.YtoiafibgbeadeaaGreat.Ev
open Go.RowKit
set_option maxRecDepth 100000
theorem checkNone_p21 : Piece env 40000 checkNoneHp21 checkNoneSt20 checkNoneSt21 := piece_of (by kernel_rfl)
theorem checkNone_p22 : Piece env 40000 checkNoneHp22 checkNoneSt21 checkNoneSt22 := piece_of (by kernel_rfl)
theorem checkNone_p23 : Piece env 40000 checkNoneHp23 checkNoneSt22 checkNoneSt23 := piece_of (by kernel_rfl)
theorem checkNone_p24 : Piece env 40000 checkNoneHp24 checkNoneSt23 checkNoneSt24 := piece_of (by kernel_rfl)
end Go.Proofs.YtoiafibgbeadeaaGreat.Ev
