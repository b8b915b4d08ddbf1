/- CheckNone, a closed sentence: a part of its run on the abstract machine, which the kernel does. No condition. -/
import Derived.Test.YtoiafibgbeadeaaGreatEvCheckNoneS4
namespace Go.Proofs.YtoiafibgbeadeaaGreat.Ev
open Go.RowKit
set_option maxRecDepth 100000
theorem checkNone_p49 : Piece env 40000 checkNoneHp49 checkNoneSt48 checkNoneSt49 := piece_of (by kernel_rfl)
theorem checkNone_p50 : Piece env 40000 checkNoneHp50 checkNoneSt49 checkNoneSt50 := piece_of (by kernel_rfl)
theorem checkNone_p51 : Piece env 40000 checkNoneHp51 checkNoneSt50 checkNoneSt51 := piece_of (by kernel_rfl)
theorem checkNone_p52 : Piece env 40000 checkNoneHp52 checkNoneSt51 checkNoneSt52 := piece_of (by kernel_rfl)
end Go.Proofs.YtoiafibgbeadeaaGreat.Ev
