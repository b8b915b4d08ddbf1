/- CheckNone, a closed sentence: a part of its run on the abstract machine, which the kernel does. No condition. -/
import Derived.Test.YtoiafibgbeadeaaGreatEvCheckNoneS4
namespace Go.Proofs.YtoiafibgbeadeaaGreat.Ev
open Go.RowKit
set_option maxRecDepth 100000
theorem checkNone_p77 : Piece env 40000 checkNoneHp77 checkNoneSt76 checkNoneSt77 := piece_of (by kernel_rfl)
theorem checkNone_p78 : Piece env 40000 checkNoneHp78 checkNoneSt77 checkNoneSt78 := piece_of (by kernel_rfl)
theorem checkNone_p79 : Piece env 40000 checkNoneHp79 checkNoneSt78 checkNoneSt79 := piece_of (by kernel_rfl)
theorem checkNone_p80 : Piece env 40000 checkNoneHp80 checkNoneSt79 checkNoneSt80 := piece_of (by kernel_rfl)
end Go.Proofs.YtoiafibgbeadeaaGreat.Ev
