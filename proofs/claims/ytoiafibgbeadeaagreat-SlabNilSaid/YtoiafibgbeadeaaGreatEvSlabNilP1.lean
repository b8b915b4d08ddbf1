/- SlabNil, a closed sentence: a part of its run on the abstract machine, which the kernel does. No condition. -/
import Derived.Test.YtoiafibgbeadeaaGreatEvSlabNilS2
namespace Go.Proofs.YtoiafibgbeadeaaGreat.Ev
open Go.RowKit
set_option maxRecDepth 100000
theorem slabNil_enter : Same (enterF env 4 [] [] ⟨.e, 0⟩) slabNilSt0 := same_of (by kernel_rfl)
theorem slabNil_p1 : Piece env 20000 slabNilHp1 slabNilSt0 slabNilSt1 := piece_of (by kernel_rfl)
theorem slabNil_p2 : Piece env 20000 slabNilHp2 slabNilSt1 slabNilSt2 := piece_of (by kernel_rfl)
end Go.Proofs.YtoiafibgbeadeaaGreat.Ev
