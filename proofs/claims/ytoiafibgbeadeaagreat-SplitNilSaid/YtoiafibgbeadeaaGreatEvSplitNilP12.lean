/- SplitNil, a closed sentence: a part of its run on the abstract machine, which the kernel does. No condition. -/
import Derived.Test.YtoiafibgbeadeaaGreatEvSplitNilS3
namespace Go.Proofs.YtoiafibgbeadeaaGreat.Ev
open Go.RowKit
set_option maxRecDepth 100000
theorem splitNil_p23 : Piece env 20000 splitNilHp23 splitNilSt22 splitNilSt23 := piece_of (by kernel_rfl)
theorem splitNil_p24 : Piece env 20000 splitNilHp24 splitNilSt23 splitNilSt24 := piece_of (by kernel_rfl)
end Go.Proofs.YtoiafibgbeadeaaGreat.Ev
