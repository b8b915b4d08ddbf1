/- SplitNil, a closed sentence: a part of its run on the abstract machine, which the kernel does. No condition. -/
import Derived.Test.YtoiafibgbeadeaaGreatEvSplitNilS3
namespace Go.Proofs.YtoiafibgbeadeaaGreat.Ev
open Go.RowKit
set_option maxRecDepth 100000
theorem splitNil_p15 : Piece env 20000 splitNilHp15 splitNilSt14 splitNilSt15 := piece_of (by kernel_rfl)
theorem splitNil_p16 : Piece env 20000 splitNilHp16 splitNilSt15 splitNilSt16 := piece_of (by kernel_rfl)
end Go.Proofs.YtoiafibgbeadeaaGreat.Ev
