/- CheckNone, a closed sentence: a part of its run on the abstract machine, which the kernel does. No condition. -/
import Derived.Test.YtoiafibgbeadeaaGreatEvCheckNoneS4
namespace Go.Proofs.YtoiafibgbeadeaaGreat.Ev
open Go.RowKit
set_option maxRecDepth 100000
theorem checkNone_p5 : Piece env 40000 checkNoneHp5 checkNoneSt4 checkNoneSt5 := piece_of (by kernel_rfl)
theorem checkNone_p6 : Piece env 40000 checkNoneHp6 checkNoneSt5 checkNoneSt6 := piece_of (by kernel_rfl)
theorem checkNone_p7 : Piece env 40000 checkNoneHp7 checkNoneSt6 checkNoneSt7 := piece_of (by kernel_rfl)
theorem checkNone_p8 : Piece env 40000 checkNoneHp8 checkNoneSt7 checkNoneSt8 := piece_of (by kernel_rfl)
end Go.Proofs.YtoiafibgbeadeaaGreat.Ev
