/- SplitNil, a closed sentence: a part of its run on the abstract machine, which the kernel does. No condition. -/
import Derived.Test.YtoiafibgbeadeaaGreatEvSplitNilS3
namespace Go.Proofs.YtoiafibgbeadeaaGreat.Ev
open Go.RowKit
set_option maxRecDepth 100000
theorem splitNil_p17 : Piece env 20000 splitNilHp17 splitNilSt16 splitNilSt17 := piece_of (by kernel_rfl)
theorem splitNil_p18 : Piece env 20654 splitNilHp18 splitNilSt17 splitNilSt18 := piece_of (by kernel_rfl)
end Go.Proofs.YtoiafibgbeadeaaGreat.Ev
