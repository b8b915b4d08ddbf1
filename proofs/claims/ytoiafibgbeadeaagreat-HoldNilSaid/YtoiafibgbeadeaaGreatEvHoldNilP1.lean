/- HoldNil, a closed sentence: a part of its run on the abstract machine, which the kernel does. No condition. -/
import Derived.Test.YtoiafibgbeadeaaGreatEvHoldNilS1
namespace Go.Proofs.YtoiafibgbeadeaaGreat.Ev
open Go.RowKit
set_option maxRecDepth 100000
theorem holdNil_enter : Same (enterF env 5 [] [] ⟨.e, 0⟩) holdNilSt0 := same_of (by kernel_rfl)
theorem holdNil_p1 : Piece env 20000 holdNilHp1 holdNilSt0 holdNilSt1 := piece_of (by kernel_rfl)
theorem holdNil_p2 : Piece env 20000 holdNilHp2 holdNilSt1 holdNilSt2 := piece_of (by kernel_rfl)
end Go.Proofs.YtoiafibgbeadeaaGreat.Ev
