/- HoldNil, a closed sentence: a part of its run on the abstract machine, which the kernel does. No condition. -/
import Derived.Test.YtoiafibgbeadeaaGreatEvHoldNilS1
namespace Go.Proofs.YtoiafibgbeadeaaGreat.Ev
open Go.RowKit
set_option maxRecDepth 100000
theorem holdNil_p13 : Piece env 20000 holdNilHp13 holdNilSt12 holdNilSt13 := piece_of (by kernel_rfl)
theorem holdNil_p14 : Piece env 20000 holdNilHp14 holdNilSt13 holdNilSt14 := piece_of (by kernel_rfl)
end Go.Proofs.YtoiafibgbeadeaaGreat.Ev
