/- SlabNil, a closed sentence: a part of its run on the abstract machine, which the kernel does. No condition. -/
import Derived.Test.YtoiafibgbeadeaaGreatEvSlabNilS2
namespace Go.Proofs.YtoiafibgbeadeaaGreat.Ev
open Go.RowKit
set_option maxRecDepth 100000
theorem slabNil_p7 : Piece env 20000 slabNilHp7 slabNilSt6 slabNilSt7 := piece_of (by kernel_rfl)
theorem slabNil_p8 : Piece env 20000 slabNilHp8 slabNilSt7 slabNilSt8 := piece_of (by kernel_rfl)
end Go.Proofs.YtoiafibgbeadeaaGreat.Ev
