/- SlabNil, a closed sentence: a part of its run on the abstract machine, which the kernel does. No condition. -/
import Derived.Test.YtoiafibgbeadeaaGreatEvSlabNilS2
namespace Go.Proofs.YtoiafibgbeadeaaGreat.Ev
open Go.RowKit
set_option maxRecDepth 100000
theorem slabNil_p11 : Piece env 20000 slabNilHp11 slabNilSt10 slabNilSt11 := piece_of (by kernel_rfl)
theorem slabNil_p12 : Piece env 20000 slabNilHp12 slabNilSt11 slabNilSt12 := piece_of (by kernel_rfl)
end Go.Proofs.YtoiafibgbeadeaaGreat.Ev
