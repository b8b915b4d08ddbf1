/- SlabNil, a closed sentence: a part of its run on the abstract machine, which the kernel does. No condition. -/
import Derived.Test.YtoiafibgbeadeaaGreatEvSlabNilS2
namespace Go.Proofs.YtoiafibgbeadeaaGreat.Ev
open Go.RowKit
set_option maxRecDepth 100000
theorem slabNil_p17 : Piece env 20344 slabNilHp17 slabNilSt16 slabNilSt17 := piece_of (by kernel_rfl)
theorem slabNil_p18 : Piece env 20000 slabNilHp18 slabNilSt17 slabNilSt18 := piece_of (by kernel_rfl)
end Go.Proofs.YtoiafibgbeadeaaGreat.Ev
