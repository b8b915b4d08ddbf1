/- SplitNil, a closed sentence: a part of its run on the abstract machine, which the kernel does. No condition. -/
import Derived.Test.YtoiafibgbeadeaaGreatEvSplitNilS3
namespace Go.Proofs.YtoiafibgbeadeaaGreat.Ev
open Go.RowKit
set_option maxRecDepth 100000
theorem splitNil_p19 : Piece env 20000 splitNilHp19 splitNilSt18 splitNilSt19 := piece_of (by kernel_rfl)
theorem splitNil_p20 : Piece env 20000 splitNilHp20 splitNilSt19 splitNilSt20 := piece_of (by kernel_rfl)
end Go.Proofs.YtoiafibgbeadeaaGreat.Ev
