/- SplitNil, a closed sentence: a part of its run on the abstract machine, which the kernel does. No condition. -/
import Derived.Test.YtoiafibgbeadeaaGreatEvSplitNilS3
namespace Go.Proofs.YtoiafibgbeadeaaGreat.Ev
open Go.RowKit
set_option maxRecDepth 100000
theorem splitNil_p9 : Piece env 20000 splitNilHp9 splitNilSt8 splitNilSt9 := piece_of (by kernel_rfl)
theorem splitNil_p10 : Piece env 20000 splitNilHp10 splitNilSt9 splitNilSt10 := piece_of (by kernel_rfl)
end Go.Proofs.YtoiafibgbeadeaaGreat.Ev
