/- OpenNil, a closed sentence: a part of its run on the abstract machine, which the kernel does. No condition. -/
import Derived.Test.YtoiafibgbeadeaaGreatEvOpenNilS1
namespace Go.Proofs.YtoiafibgbeadeaaGreat.Ev
open Go.RowKit
set_option maxRecDepth 100000
theorem openNil_p17 : Piece env 20000 openNilHp17 openNilSt16 openNilSt17 := piece_of (by kernel_rfl)
theorem openNil_p18 : Piece env 20000 openNilHp18 openNilSt17 openNilSt18 := piece_of (by kernel_rfl)
end Go.Proofs.YtoiafibgbeadeaaGreat.Ev
