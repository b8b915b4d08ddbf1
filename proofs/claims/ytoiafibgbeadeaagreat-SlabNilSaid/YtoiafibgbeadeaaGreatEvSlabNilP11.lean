/- SlabNil, a closed sentence: a part of its run on the abstract machine, which the kernel does. No condition. -/
import Derived.Test.YtoiafibgbeadeaaGreatEvSlabNilS2
namespace Go.Proofs.YtoiafibgbeadeaaGreat.Ev
open Go.RowKit
set_option maxRecDepth 100000
theorem slabNil_p21 : Piece env 20000 slabNilHp21 slabNilSt20 slabNilSt21 := piece_of (by kernel_rfl)
theorem slabNil_p22 : Piece env 20000 slabNilHp22 slabNilSt21 slabNilSt22 := piece_of (by kernel_rfl)
end Go.Proofs.YtoiafibgbeadeaaGreat.Ev
