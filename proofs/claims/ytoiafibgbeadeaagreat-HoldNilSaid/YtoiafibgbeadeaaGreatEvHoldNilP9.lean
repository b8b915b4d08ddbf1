/- HoldNil, a closed sentence: a part of its run on the abstract machine, which the kernel does. No condition. -/
import Derived.Test.YtoiafibgbeadeaaGreatEvHoldNilS1
namespace Go.Proofs.YtoiafibgbeadeaaGreat.Ev
open Go.RowKit
set_option maxRecDepth 100000
theorem holdNil_p17 : Piece env 20000 holdNilHp17 holdNilSt16 holdNilSt17 := piece_of (by kernel_rfl)
theorem holdNil_p18 : Piece env 20000 holdNilHp18 holdNilSt17 holdNilSt18 := piece_of (by kernel_rfl)
end Go.Proofs.YtoiafibgbeadeaaGreat.Ev
