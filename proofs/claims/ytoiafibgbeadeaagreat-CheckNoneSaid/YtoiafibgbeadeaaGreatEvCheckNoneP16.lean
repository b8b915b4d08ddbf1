/- CheckNone, a closed sentence: a part of its run on the abstract machine, which the kernel does. No condition. -/
import Derived.Test.YtoiafibgbeadeaaGreatEvCheckNoneS4
namespace Go.Proofs.YtoiafibgbeadeaaGreat.Ev
open Go.RowKit
set_option maxRecDepth 100000
theorem checkNone_p61 : Piece env 40000 checkNoneHp61 checkNoneSt60 checkNoneSt61 := piece_of (by kernel_rfl)
theorem checkNone_p62 : Piece env 40000 checkNoneHp62 checkNoneSt61 checkNoneSt62 := piece_of (by kernel_rfl)
theorem checkNone_p63 : Piece env 40000 checkNoneHp63 checkNoneSt62 checkNoneSt63 := piece_of (by kernel_rfl)
theorem checkNone_p64 : Piece env 40000 checkNoneHp64 checkNoneSt63 checkNoneSt64 := piece_of (by kernel_rfl)
end Go.Proofs.YtoiafibgbeadeaaGreat.Ev
