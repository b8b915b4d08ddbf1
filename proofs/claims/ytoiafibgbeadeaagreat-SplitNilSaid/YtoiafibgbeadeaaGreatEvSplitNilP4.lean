/- SplitNil, a closed sentence: a part of its run on the abstract machine, which the kernel does. No condition. -/
import Derived.Test.YtoiafibgbeadeaaGreatEvSplitNilS3
namespace Go.Proofs.YtoiafibgbeadeaaGreat.Ev
open Go.RowKit
set_option maxRecDepth 100000
theorem splitNil_p7 : Piece env 20000 splitNilHp7 splitNilSt6 splitNilSt7 := piece_of (by kernel_rfl)
theorem splitNil_p8 : Piece env 20000 splitNilHp8 splitNilSt7 splitNilSt8 := piece_of (by kernel_rfl)
end Go.Proofs.YtoiafibgbeadeaaGreat.Ev
