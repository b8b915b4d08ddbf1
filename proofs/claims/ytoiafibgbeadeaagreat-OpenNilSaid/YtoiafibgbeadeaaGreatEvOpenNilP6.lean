/- OpenNil, a closed sentence: a part of its run on the abstract machine, which the kernel does. No condition. -/
import Derived.Test.YtoiafibgbeadeaaGreatEvOpenNilS1
namespace Go.Proofs.YtoiafibgbeadeaaGreat.Ev
open Go.RowKit
set_option maxRecDepth 100000
theorem openNil_p11 : Piece env 20000 openNilHp11 openNilSt10 openNilSt11 := piece_of (by kernel_rfl)
theorem openNil_p12 : Piece env 20000 openNilHp12 openNilSt11 openNilSt12 := piece_of (by kernel_rfl)
end Go.Proofs.YtoiafibgbeadeaaGreat.Ev
