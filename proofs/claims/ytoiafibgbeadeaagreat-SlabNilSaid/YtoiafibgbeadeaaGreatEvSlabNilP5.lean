/- SlabNil, a closed sentence: a part of its run on the abstract machine, which the kernel does. No condition. -/
import Derived.Test.YtoiafibgbeadeaaGreatEvSlabNilS2
namespace Go.Proofs.YtoiafibgbeadeaaGreat.Ev
open Go.RowKit
set_option maxRecDepth 100000
theorem slabNil_p9 : Piece env 20000 slabNilHp9 slabNilSt8 slabNilSt9 := piece_of (by kernel_rfl)
theorem slabNil_p10 : Piece env 20000 slabNilHp10 slabNilSt9 slabNilSt10 := piece_of (by kernel_rfl)
end Go.Proofs.YtoiafibgbeadeaaGreat.Ev
