/- OpenNil, a closed sentence: a part of its run on the abstract machine, which the kernel does. No condition. -/
import Derived.Test.YtoiafibgbeadeaaGreatEvOpenNilS1
namespace Go.Proofs.YtoiafibgbeadeaaGreat.Ev
open Go.RowKit
set_option maxRecDepth 100000
theorem openNil_p7 : Piece env 20000 openNilHp7 openNilSt6 openNilSt7 := piece_of (by kernel_rfl)
theorem openNil_p8 : Piece env 20000 openNilHp8 openNilSt7 openNilSt8 := piece_of (by kernel_rfl)
end Go.Proofs.YtoiafibgbeadeaaGreat.Ev
