/- SplitNil, a closed sentence: a part of its run on the abstract machine, which the kernel does. No condition. -/
import Derived.Test.YtoiafibgbeadeaaGreatEvSplitNilS3
namespace Go.Proofs.YtoiafibgbeadeaaGreat.Ev
open Go.RowKit
set_option maxRecDepth 100000
theorem splitNil_p21 : Piece env 20000 splitNilHp21 splitNilSt20 splitNilSt21 := piece_of (by kernel_rfl)
theorem splitNil_p22 : Piece env 20000 splitNilHp22 splitNilSt21 splitNilSt22 := piece_of (by kernel_rfl)
end Go.Proofs.YtoiafibgbeadeaaGreat.Ev
