/- CheckNone, a closed sentence: a part of its run on the abstract machine, which the kernel does. No condition. -/
import Derived.Test.YtoiafibgbeadeaaGreatEvCheckNoneS4
namespace Go.Proofs.YtoiafibgbeadeaaGreat.Ev
open Go.RowKit
set_option maxRecDepth 100000
theorem checkNone_p37 : Piece env 40000 checkNoneHp37 checkNoneSt36 checkNoneSt37 := piece_of (by kernel_rfl)
theorem checkNone_p38 : Piece env 40000 checkNoneHp38 checkNoneSt37 checkNoneSt38 := piece_of (by kernel_rfl)
theorem checkNone_p39 : Piece env 40000 checkNoneHp39 checkNoneSt38 checkNoneSt39 := piece_of (by kernel_rfl)
theorem checkNone_p40 : Piece env 40000 checkNoneHp40 checkNoneSt39 checkNoneSt40 := piece_of (by kernel_rfl)
end Go.Proofs.YtoiafibgbeadeaaGreat.Ev
