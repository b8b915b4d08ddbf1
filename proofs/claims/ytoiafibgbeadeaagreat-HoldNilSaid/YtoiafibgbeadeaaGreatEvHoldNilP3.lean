/- HoldNil, a closed sentence: a part of its run on the abstract machine, which the kernel does. No condition. -/
import Derived.Test.YtoiafibgbeadeaaGreatEvHoldNilS1
namespace Go.Proofs.YtoiafibgbeadeaaGreat.Ev
open Go.RowKit
set_option maxRecDepth 100000
theorem holdNil_p5 : Piece env 20000 holdNilHp5 holdNilSt4 holdNilSt5 := piece_of (by kernel_rfl)
theorem holdNil_p6 : Piece env 20000 holdNilHp6 holdNilSt5 holdNilSt6 := piece_of (by kernel_rfl)
end Go.Proofs.YtoiafibgbeadeaaGreat.Ev
