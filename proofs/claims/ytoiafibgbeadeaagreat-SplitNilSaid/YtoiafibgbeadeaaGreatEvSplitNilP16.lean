/- SplitNil, a closed sentence: a part of its run on the abstract machine, which the kernel does. No condition. -/
import Derived.Test.YtoiafibgbeadeaaGreatEvSplitNilS3
namespace Go.Proofs.YtoiafibgbeadeaaGreat.Ev
open Go.RowKit
set_option maxRecDepth 100000
theorem splitNil_p31 : Piece env 20000 splitNilHp31 splitNilSt30 splitNilSt31 := piece_of (by kernel_rfl)
theorem splitNil_p32 : Piece env 20000 splitNilHp32 splitNilSt31 splitNilSt32 := piece_of (by kernel_rfl)
end Go.Proofs.YtoiafibgbeadeaaGreat.Ev
