/- CheckNone, a closed sentence: a part of its run on the abstract machine, which the kernel does. No condition. -/
import Derived.Test.YtoiafibgbeadeaaGreatEvCheckNoneS4
namespace Go.Proofs.YtoiafibgbeadeaaGreat.Ev
open Go.RowKit
set_option maxRecDepth 100000
theorem checkNone_p57 : Piece env 40000 checkNoneHp57 checkNoneSt56 checkNoneSt57 := piece_of (by kernel_rfl)
theorem checkNone_p58 : Piece env 40000 checkNoneHp58 checkNoneSt57 checkNoneSt58 := piece_of (by kernel_rfl)
theorem checkNone_p59 : Piece env 40000 checkNoneHp59 checkNoneSt58 checkNoneSt59 := piece_of (by kernel_rfl)
theorem checkNone_p60 : Piece env 40000 checkNoneHp60 checkNoneSt59 checkNoneSt60 := piece_of (by kernel_rfl)
end Go.Proofs.YtoiafibgbeadeaaGreat.Ev
