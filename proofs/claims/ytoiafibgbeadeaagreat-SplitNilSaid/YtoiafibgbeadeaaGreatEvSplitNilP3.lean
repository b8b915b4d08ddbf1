/- SplitNil, a closed sentence: a part of its run on the abstract machine, which the kernel does. No condition. -/
import Derived.Test.YtoiafibgbeadeaaGreatEvSplitNilS3
namespace Go.Proofs.YtoiafibgbeadeaaGreat.Ev
open Go.RowKit
set_option maxRecDepth 100000
theorem splitNil_p5 : Piece env 20000 splitNilHp5 splitNilSt4 splitNilSt5 := piece_of (by kernel_rfl)
theorem splitNil_p6 : Piece env 20000 splitNilHp6 splitNilSt5 splitNilSt6 := piece_of (by kernel_rfl)
end Go.Proofs.YtoiafibgbeadeaaGreat.Ev
