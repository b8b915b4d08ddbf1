/- HoldNil, a closed sentence: a part of its run on the abstract machine, which the kernel does. No condition. -/
import Derived.Test.YtoiafibgbeadeaaGreatEvHoldNilS1
namespace Go.Proofs.YtoiafibgbeadeaaGreat.Ev
open Go.RowKit
set_option maxRecDepth 100000
theorem holdNil_p11 : Piece env 20000 holdNilHp11 holdNilSt10 holdNilSt11 := piece_of (by kernel_rfl)
theorem holdNil_p12 : Piece env 20000 holdNilHp12 holdNilSt11 holdNilSt12 := piece_of (by kernel_rfl)
end Go.Proofs.YtoiafibgbeadeaaGreat.Ev
