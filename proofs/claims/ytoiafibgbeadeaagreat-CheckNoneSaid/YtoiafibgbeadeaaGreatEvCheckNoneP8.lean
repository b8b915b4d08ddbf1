/- CheckNone, a closed sentence: a part of its run on the abstract machine, which the kernel does. No condition. -/
import Derived.Test.YtoiafibgbeadeaaGreatEvCheckNoneS4
namespace Go.Proofs.YtoiafibgbeadeaaGreat.Ev
open Go.RowKit
set_option maxRecDepth 100000
theorem checkNone_p29 : Piece env 40000 checkNoneHp29 checkNoneSt28 checkNoneSt29 := piece_of (by kernel_rfl)
theorem checkNone_p30 : Piece env 40000 checkNoneHp30 checkNoneSt29 checkNoneSt30 := piece_of (by kernel_rfl)
theorem checkNone_p31 : Piece env 40000 checkNoneHp31 checkNoneSt30 checkNoneSt31 := piece_of (by kernel_rfl)
theorem checkNone_p32 : Piece env 40000 checkNoneHp32 checkNoneSt31 checkNoneSt32 := piece_of (by kernel_rfl)
end Go.Proofs.YtoiafibgbeadeaaGreat.Ev
