/- OpenNil, a closed sentence: a part of its run on the abstract machine, which the kernel does. No condition. -/
import Derived.Test.YtoiafibgbeadeaaGreatEvOpenNilS1
namespace Go.Proofs.YtoiafibgbeadeaaGreat.Ev
open Go.RowKit
set_option maxRecDepth 100000
theorem openNil_p5 : Piece env 20000 openNilHp5 openNilSt4 openNilSt5 := piece_of (by kernel_rfl)
theorem openNil_p6 : Piece env 20000 openNilHp6 openNilSt5 openNilSt6 := piece_of (by kernel_rfl)
end Go.Proofs.YtoiafibgbeadeaaGreat.Ev
