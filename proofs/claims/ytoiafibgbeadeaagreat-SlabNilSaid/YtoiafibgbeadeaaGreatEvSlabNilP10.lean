/- SlabNil, a closed sentence: a part of its run on the abstract machine, which the kernel does. No condition. -/
import Derived.Test.YtoiafibgbeadeaaGreatEvSlabNilS2
namespace Go.Proofs.YtoiafibgbeadeaaGreat.Ev
open Go.RowKit
set_option maxRecDepth 100000
theorem slabNil_p19 : Piece env 20000 slabNilHp19 slabNilSt18 slabNilSt19 := piece_of (by kernel_rfl)
theorem slabNil_p20 : Piece env 20000 slabNilHp20 slabNilSt19 slabNilSt20 := piece_of (by kernel_rfl)
end Go.Proofs.YtoiafibgbeadeaaGreat.Ev
