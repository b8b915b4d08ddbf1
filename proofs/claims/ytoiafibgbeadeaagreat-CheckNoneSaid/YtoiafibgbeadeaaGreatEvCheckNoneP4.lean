/- CheckNone, a closed sentence: a part of its run on the abstract machine, which the kernel does. No condition. -/
import Derived.Test.YtoiafibgbeadeaaGreatEvCheckNoneS4
namespace Go.Proofs.YtoiafibgbeadeaaGreat.Ev
open Go.RowKit
set_option maxRecDepth 100000
theorem checkNone_p13 : Piece env 40000 checkNoneHp13 checkNoneSt12 checkNoneSt13 := piece_of (by kernel_rfl)
theorem checkNone_p14 : Piece env 40000 checkNoneHp14 checkNoneSt13 checkNoneSt14 := piece_of (by kernel_rfl)
theorem checkNone_p15 : Piece env 40000 checkNoneHp15 checkNoneSt14 checkNoneSt15 := piece_of (by kernel_rfl)
theorem checkNone_p16 : Piece env 40000 checkNoneHp16 checkNoneSt15 checkNoneSt16 := piece_of (by kernel_rfl)
end Go.Proofs.YtoiafibgbeadeaaGreat.Ev
