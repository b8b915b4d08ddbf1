/- HoldNil, a closed sentence: a part of its run on the abstract machine, which the kernel does. No condition. -/
import Derived.Test.YtoiafibgbeadeaaGreatEvHoldNilS1
namespace Go.Proofs.YtoiafibgbeadeaaGreat.Ev
open Go.RowKit
set_option maxRecDepth 100000
theorem holdNil_p3 : Piece env 20000 holdNilHp3 holdNilSt2 holdNilSt3 := piece_of (by kernel_rfl)
theorem holdNil_p4 : Piece env 20000 holdNilHp4 holdNilSt3 holdNilSt4 := piece_of (by kernel_rfl)
end Go.Proofs.YtoiafibgbeadeaaGreat.Ev
