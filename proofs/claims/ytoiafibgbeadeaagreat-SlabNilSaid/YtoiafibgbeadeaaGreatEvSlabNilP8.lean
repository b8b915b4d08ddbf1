/- SlabNil, a closed sentence: a part of its run on the abstract machine, which the kernel does. No condition. -/
import Derived.Test.YtoiafibgbeadeaaGreatEvSlabNilS2
namespace Go.Proofs.YtoiafibgbeadeaaGreat.Ev
open Go.RowKit
set_option maxRecDepth 100000
theorem slabNil_p15 : Piece env 20000 slabNilHp15 slabNilSt14 slabNilSt15 := piece_of (by kernel_rfl)
theorem slabNil_p16 : Piece env 20000 slabNilHp16 slabNilSt15 slabNilSt16 := piece_of (by kernel_rfl)
end Go.Proofs.YtoiafibgbeadeaaGreat.Ev
