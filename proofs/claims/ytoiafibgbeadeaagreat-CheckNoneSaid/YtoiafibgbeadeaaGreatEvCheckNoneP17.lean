/- CheckNone, a closed sentence: a part of its run on the abstract machine, which the kernel does. No condition. -/
import Derived.Test.YtoiafibgbeadeaaGreatEvCheckNoneS4
namespace Go.Proofs.YtoiafibgbeadeaaGreat.Ev
open Go.RowKit
set_option maxRecDepth 100000
theorem checkNone_p65 : Piece env 40000 checkNoneHp65 checkNoneSt64 checkNoneSt65 := piece_of (by kernel_rfl)
theorem checkNone_p66 : Piece env 40000 checkNoneHp66 checkNoneSt65 checkNoneSt66 := piece_of (by kernel_rfl)
theorem checkNone_p67 : Piece env 40000 checkNoneHp67 checkNoneSt66 checkNoneSt67 := piece_of (by kernel_rfl)
theorem checkNone_p68 : Piece env 40000 checkNoneHp68 checkNoneSt67 checkNoneSt68 := piece_of (by kernel_rfl)
end Go.Proofs.YtoiafibgbeadeaaGreat.Ev
