/- SplitNil, a closed sentence: a part of its run on the abstract machine, which the kernel does. No condition. -/
import Derived.Test.YtoiafibgbeadeaaGreatEvSplitNilS3
namespace Go.Proofs.YtoiafibgbeadeaaGreat.Ev
open Go.RowKit
set_option maxRecDepth 100000
theorem splitNil_p27 : Piece env 20000 splitNilHp27 splitNilSt26 splitNilSt27 := piece_of (by kernel_rfl)
theorem splitNil_p28 : Piece env 20000 splitNilHp28 splitNilSt27 splitNilSt28 := piece_of (by kernel_rfl)
end Go.Proofs.YtoiafibgbeadeaaGreat.Ev
