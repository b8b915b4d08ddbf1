/- OpenNil, a closed sentence: a part of its run on the abstract machine, which the kernel does. No condition. -/
import Derived.Test.YtoiafibgbeadeaaGreatEvOpenNilS1
namespace Go.Proofs.YtoiafibgbeadeaaGreat.Ev
open Go.RowKit
set_option maxRecDepth 100000
theorem openNil_p3 : Piece env 20000 openNilHp3 openNilSt2 openNilSt3 := piece_of (by kernel_rfl)
theorem openNil_p4 : Piece env 20000 openNilHp4 openNilSt3 openNilSt4 := piece_of (by kernel_rfl)
end Go.Proofs.YtoiafibgbeadeaaGreat.Ev
