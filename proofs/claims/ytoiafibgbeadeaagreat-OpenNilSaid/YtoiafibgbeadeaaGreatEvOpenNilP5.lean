/- OpenNil, a closed sentence: a part of its run on the abstract machine, which the kernel does. No condition. -/
import Derived.Test.YtoiafibgbeadeaaGreatEvOpenNilS1
namespace Go.Proofs.YtoiafibgbeadeaaGreat.Ev
open Go.RowKit
set_option maxRecDepth 100000
theorem openNil_p9 : Piece env 20000 openNilHp9 openNilSt8 openNilSt9 := piece_of (by kernel_rfl)
theorem openNil_p10 : Piece env 20000 openNilHp10 openNilSt9 openNilSt10 := piece_of (by kernel_rfl)
end Go.Proofs.YtoiafibgbeadeaaGreat.Ev
