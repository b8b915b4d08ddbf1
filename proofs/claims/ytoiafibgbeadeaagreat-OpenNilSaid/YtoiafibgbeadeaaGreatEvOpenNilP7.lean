/- OpenNil, a closed sentence: a part of its run on the abstract machine, which the kernel does. No condition. -/
import Derived.Test.YtoiafibgbeadeaaGreatEvOpenNilS1
namespace Go.Proofs.YtoiafibgbeadeaaGreat.Ev
open Go.RowKit
set_option maxRecDepth 100000
theorem openNil_p13 : Piece env 20000 openNilHp13 openNilSt12 openNilSt13 := piece_of (by kernel_rfl)
theorem openNil_p14 : Piece env 20000 openNilHp14 openNilSt13 openNilSt14 := piece_of (by kernel_rfl)
end Go.Proofs.YtoiafibgbeadeaaGreat.Ev
