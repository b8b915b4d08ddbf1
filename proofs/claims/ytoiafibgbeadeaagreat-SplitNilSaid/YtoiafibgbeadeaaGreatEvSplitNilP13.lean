/- SplitNil, a closed sentence: a part of its run on the abstract machine, which the kernel does. No condition. -/
import Derived.Test.YtoiafibgbeadeaaGreatEvSplitNilS3
namespace Go.Proofs.YtoiafibgbeadeaaGreat.Ev
open Go.RowKit
set_option maxRecDepth 100000
theorem splitNil_p25 : Piece env 20000 splitNilHp25 splitNilSt24 splitNilSt25 := piece_of (by kernel_rfl)
theorem splitNil_p26 : Piece env 20000 splitNilHp26 splitNilSt25 splitNilSt26 := piece_of (by kernel_rfl)
end Go.Proofs.YtoiafibgbeadeaaGreat.Ev
