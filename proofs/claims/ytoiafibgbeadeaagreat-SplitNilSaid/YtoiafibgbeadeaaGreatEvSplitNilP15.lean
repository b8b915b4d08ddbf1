/- SplitNil, a closed sentence: a part of its run on the abstract machine, which the kernel does. No condition. -/
import Derived.Test.YtoiafibgbeadeaaGreatEvSplitNilS3
namespace Go.Proofs.YtoiafibgbeadeaaGreat.Ev
open Go.RowKit
set_option maxRecDepth 100000
theorem splitNil_p29 : Piece env 20000 splitNilHp29 splitNilSt28 splitNilSt29 := piece_of (by kernel_rfl)
theorem splitNil_p30 : Piece env 20000 splitNilHp30 splitNilSt29 splitNilSt30 := piece_of (by kernel_rfl)
end Go.Proofs.YtoiafibgbeadeaaGreat.Ev
