/- SplitNil, a closed sentence: a part of its run on the abstract machine, which the kernel does. No condition. -/
import Derived.Test.YtoiafibgbeadeaaGreatEvSplitNilS3
namespace Go.Proofs.YtoiafibgbeadeaaGreat.Ev
open Go.RowKit
set_option maxRecDepth 100000
theorem splitNil_p3 : Piece env 20000 splitNilHp3 splitNilSt2 splitNilSt3 := piece_of (by kernel_rfl)
theorem splitNil_p4 : Piece env 20000 splitNilHp4 splitNilSt3 splitNilSt4 := piece_of (by kernel_rfl)
end Go.Proofs.YtoiafibgbeadeaaGreat.Ev
