/- SplitNil, a closed sentence: a part of its run on the abstract machine, which the kernel does. No condition. -/
import Derived.Test.YtoiafibgbeadeaaGreatEvSplitNilS3
namespace Go.Proofs.YtoiafibgbeadeaaGreat.Ev
open Go.RowKit
set_option maxRecDepth 100000
theorem splitNil_p13 : Piece env 20000 splitNilHp13 splitNilSt12 splitNilSt13 := piece_of (by kernel_rfl)
theorem splitNil_p14 : Piece env 20000 splitNilHp14 splitNilSt13 splitNilSt14 := piece_of (by kernel_rfl)
end Go.Proofs.YtoiafibgbeadeaaGreat.Ev
