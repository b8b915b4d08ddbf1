/- CheckNone, a closed sentence: a part of its run on the abstract machine, which the kernel does. No condition. -/
import Derived.Test.YtoiafibgbeadeaaGreatEvCheckNoneS4
namespace Go.Proofs.YtoiafibgbeadeaaGreat.Ev
open Go.RowKit
set_option maxRecDepth 100000
theorem checkNone_p69 : Piece env 40000 checkNoneHp69 checkNoneSt68 checkNoneSt69 := piece_of (by kernel_rfl)
theorem checkNone_p70 : Piece env 40000 checkNoneHp70 checkNoneSt69 checkNoneSt70 := piece_of (by kernel_rfl)
theorem checkNone_p71 : Piece env 40000 checkNoneHp71 checkNoneSt70 checkNoneSt71 := piece_of (by kernel_rfl)
theorem checkNone_p72 : Piece env 40000 checkNoneHp72 checkNoneSt71 checkNoneSt72 := piece_of (by kernel_rfl)
end Go.Proofs.YtoiafibgbeadeaaGreat.Ev
