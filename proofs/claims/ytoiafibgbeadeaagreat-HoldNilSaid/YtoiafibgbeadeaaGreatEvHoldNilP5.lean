/- HoldNil, a closed sentence: a part of its run on the abstract machine, which the kernel does. No condition. -/
import Derived.Test.YtoiafibgbeadeaaGreatEvHoldNilS1
namespace Go.Proofs.YtoiafibgbeadeaaGreat.Ev
open Go.RowKit
set_option maxRecDepth 100000
theorem holdNil_p9 : Piece env 20000 holdNilHp9 holdNilSt8 holdNilSt9 := piece_of (by kernel_rfl)
theorem holdNil_p10 : Piece env 20000 holdNilHp10 holdNilSt9 holdNilSt10 := piece_of (by kernel_rfl)
end Go.Proofs.YtoiafibgbeadeaaGreat.Ev
