/- CheckNone, a closed sentence: a part of its run on the abstract machine, which the kernel does. No condition. -/
import Derived.Test.YtoiafibgbeadeaaGreatEvCheckNoneS4
namespace Go.Proofs.YtoiafibgbeadeaaGreat.Ev
open Go.RowKit
set_option maxRecDepth 100000
theorem checkNone_enter : Same (enterF env 3 [] [] ⟨.e, 0⟩) checkNoneSt0 := same_of (by kernel_rfl)
theorem checkNone_p1 : Piece env 40000 checkNoneHp1 checkNoneSt0 checkNoneSt1 := piece_of (by kernel_rfl)
theorem checkNone_p2 : Piece env 40000 checkNoneHp2 checkNoneSt1 checkNoneSt2 := piece_of (by kernel_rfl)
theorem checkNone_p3 : Piece env 40000 checkNoneHp3 checkNoneSt2 checkNoneSt3 := piece_of (by kernel_rfl)
theorem checkNone_p4 : Piece env 40000 checkNoneHp4 checkNoneSt3 checkNoneSt4 := piece_of (by kernel_rfl)
end Go.Proofs.YtoiafibgbeadeaaGreat.Ev
