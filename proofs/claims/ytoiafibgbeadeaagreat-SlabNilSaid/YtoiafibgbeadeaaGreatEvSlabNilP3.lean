/- SlabNil, a closed sentence: a part of its run on the abstract machine, which the kernel does. No condition. -/
import Derived.Test.YtoiafibgbeadeaaGreatEvSlabNilS2
namespace Go.Proofs.YtoiafibgbeadeaaGreat.Ev
open Go.RowKit
set_option maxRecDepth 100000
theorem slabNil_p5 : Piece env 20000 slabNilHp5 slabNilSt4 slabNilSt5 := piece_of (by kernel_rfl)
theorem slabNil_p6 : Piece env 20000 slabNilHp6 slabNilSt5 slabNilSt6 := piece_of (by kernel_rfl)
end Go.Proofs.YtoiafibgbeadeaaGreat.Ev
