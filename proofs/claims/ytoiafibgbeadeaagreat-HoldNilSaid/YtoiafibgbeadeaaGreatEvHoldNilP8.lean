/- HoldNil, a closed sentence: a part of its run on the abstract machine, which the kernel does. No condition. -/
import Derived.Test.YtoiafibgbeadeaaGreatEvHoldNilS1
namespace Go.Proofs.YtoiafibgbeadeaaGreat.Ev
open Go.RowKit
set_option maxRecDepth 100000
theorem holdNil_p15 : Piece env 20000 holdNilHp15 holdNilSt14 holdNilSt15 := piece_of (by kernel_rfl)
theorem holdNil_p16 : Piece env 20000 holdNilHp16 holdNilSt15 holdNilSt16 := piece_of (by kernel_rfl)
end Go.Proofs.YtoiafibgbeadeaaGreat.Ev
