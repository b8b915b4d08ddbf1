/- SlabNil, a closed sentence: a part of its run on the abstract machine, which the kernel does. No condition. -/
import Derived.Test.YtoiafibgbeadeaaGreatEvSlabNilS2
namespace Go.Proofs.YtoiafibgbeadeaaGreat.Ev
open Go.RowKit
set_option maxRecDepth 100000
theorem slabNil_p23 : Piece env 20000 slabNilHp23 slabNilSt22 slabNilSt23 := piece_of (by kernel_rfl)
theorem slabNil_p24 : Piece env 20000 slabNilHp24 slabNilSt23 slabNilSt24 := piece_of (by kernel_rfl)
end Go.Proofs.YtoiafibgbeadeaaGreat.Ev
