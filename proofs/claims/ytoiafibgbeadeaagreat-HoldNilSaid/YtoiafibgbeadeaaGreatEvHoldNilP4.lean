/- HoldNil, a closed sentence: a part of its run on the abstract machine, which the kernel does. No condition. -/
import Derived.Test.YtoiafibgbeadeaaGreatEvHoldNilS1
namespace Go.Proofs.YtoiafibgbeadeaaGreat.Ev
open Go.RowKit
set_option maxRecDepth 100000
theorem holdNil_p7 : Piece env 20000 holdNilHp7 holdNilSt6 holdNilSt7 := piece_of (by kernel_rfl)
theorem holdNil_p8 : Piece env 20000 holdNilHp8 holdNilSt7 holdNilSt8 := piece_of (by kernel_rfl)
end Go.Proofs.YtoiafibgbeadeaaGreat.Ev
