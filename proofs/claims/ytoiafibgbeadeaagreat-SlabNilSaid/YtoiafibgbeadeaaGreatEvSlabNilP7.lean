/- SlabNil, a closed sentence: a part of its run on the abstract machine, which the kernel does. No condition. -/
import Derived.Test.YtoiafibgbeadeaaGreatEvSlabNilS2
namespace Go.Proofs.YtoiafibgbeadeaaGreat.Ev
open Go.RowKit
set_option maxRecDepth 100000
theorem slabNil_p13 : Piece env 20000 slabNilHp13 slabNilSt12 slabNilSt13 := piece_of (by kernel_rfl)
theorem slabNil_p14 : Piece env 20000 slabNilHp14 slabNilSt13 slabNilSt14 := piece_of (by kernel_rfl)
end Go.Proofs.YtoiafibgbeadeaaGreat.Ev
