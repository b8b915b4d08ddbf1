/- SlabNil, a closed sentence: a part of its run on the abstract machine, which the kernel does. No condition. -/
import Derived.Test.YtoiafibgbeadeaaGreatEvSlabNilS2
namespace Go.Proofs.YtoiafibgbeadeaaGreat.Ev
open Go.RowKit
set_option maxRecDepth 100000
theorem slabNil_p3 : Piece env 20000 slabNilHp3 slabNilSt2 slabNilSt3 := piece_of (by kernel_rfl)
theorem slabNil_p4 : Piece env 20000 slabNilHp4 slabNilSt3 slabNilSt4 := piece_of (by kernel_rfl)
end Go.Proofs.YtoiafibgbeadeaaGreat.Ev
