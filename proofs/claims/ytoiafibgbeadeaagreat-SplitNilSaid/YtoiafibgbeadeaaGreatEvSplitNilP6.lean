/- SplitNil, a closed sentence: a part of its run on the abstract machine, which the kernel does. No condition. -/
import Derived.Test.YtoiafibgbeadeaaGreatEvSplitNilS3
namespace Go.Proofs.YtoiafibgbeadeaaGreat.Ev
open Go.RowKit
set_option maxRecDepth 100000
theorem splitNil_p11 : Piece env 20000 splitNilHp11 splitNilSt10 splitNilSt11 := piece_of (by kernel_rfl)
theorem splitNil_p12 : Piece env 20000 splitNilHp12 splitNilSt11 splitNilSt12 := piece_of (by kernel_rfl)
end Go.Proofs.YtoiafibgbeadeaaGreat.Ev
