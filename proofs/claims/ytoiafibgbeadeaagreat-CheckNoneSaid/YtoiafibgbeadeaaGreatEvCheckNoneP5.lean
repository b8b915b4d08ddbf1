/- CheckNone, a closed sentence: a part of its run on the abstract machine, which the kernel does. No condition. -/
import Derived.Test.YtoiafibgbeadeaaGreatEvCheckNoneS4
namespace Go.Proofs.YtoiafibgbeadeaaGreat.Ev
open Go.RowKit
set_option maxRecDepth 100000
theorem checkNone_p17 : Piece env 40000 checkNoneHp17 checkNoneSt16 checkNoneSt17 := piece_of (by kernel_rfl)
theorem checkNone_p18 : Piece env 40000 checkNoneHp18 checkNoneSt17 checkNoneSt18 := piece_of (by kernel_rfl)
theorem checkNone_p19 : Piece env 40000 checkNoneHp19 checkNoneSt18 checkNoneSt19 := piece_of (by kernel_rfl)
theorem checkNone_p20 : Piece env 40000 checkNoneHp20 checkNoneSt19 checkNoneSt20 := piece_of (by kernel_rfl)
end Go.Proofs.YtoiafibgbeadeaaGreat.Ev
