/- CheckNone, a closed sentence: a part of its run on the abstract machine, which the kernel does. No condition. -/
import Derived.Test.YtoiafibgbeadeaaGreatEvCheckNoneS4
namespace Go.Proofs.YtoiafibgbeadeaaGreat.Ev
open Go.RowKit
set_option maxRecDepth 100000
theorem checkNone_p33 : Piece env 40000 checkNoneHp33 checkNoneSt32 checkNoneSt33 := piece_of (by kernel_rfl)
theorem checkNone_p34 : Piece env 40000 checkNoneHp34 checkNoneSt33 checkNoneSt34 := piece_of (by kernel_rfl)
theorem checkNone_p35 : Piece env 40000 checkNoneHp35 checkNoneSt34 checkNoneSt35 := piece_of (by kernel_rfl)
theorem checkNone_p36 : Piece env 40000 checkNoneHp36 checkNoneSt35 checkNoneSt36 := piece_of (by kernel_rfl)
end Go.Proofs.YtoiafibgbeadeaaGreat.Ev
