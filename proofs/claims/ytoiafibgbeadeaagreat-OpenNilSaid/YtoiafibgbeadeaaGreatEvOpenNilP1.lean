/- OpenNil, a closed sentence: a part of its run on the abstract machine, which the kernel does. No condition. -/
import Derived.Test.YtoiafibgbeadeaaGreatEvOpenNilS1
namespace Go.Proofs.YtoiafibgbeadeaaGreat.Ev
open Go.RowKit
set_option maxRecDepth 100000
theorem openNil_enter : Same (enterF env 7 [] [] ⟨.e, 0⟩) openNilSt0 := same_of (by kernel_rfl)
theorem openNil_p1 : Piece env 20000 openNilHp1 openNilSt0 openNilSt1 := piece_of (by kernel_rfl)
theorem openNil_p2 : Piece env 20000 openNilHp2 openNilSt1 openNilSt2 := piece_of (by kernel_rfl)
end Go.Proofs.YtoiafibgbeadeaaGreat.Ev
