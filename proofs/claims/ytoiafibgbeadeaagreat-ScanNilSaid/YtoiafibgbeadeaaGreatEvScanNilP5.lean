/- ScanNil, a closed sentence: a part of its run on the abstract machine, which the kernel does. No condition. -/
import Derived.Test.YtoiafibgbeadeaaGreatEvScanNilS3
namespace Go.Proofs.YtoiafibgbeadeaaGreat.Ev
open Go.RowKit
set_option maxRecDepth 100000
theorem scanNil_p9 : Piece env 20000 scanNilHp9 scanNilSt8 scanNilSt9 := piece_of (by kernel_rfl)
theorem scanNil_p10 : Piece env 20000 scanNilHp10 scanNilSt9 scanNilSt10 := piece_of (by kernel_rfl)
end Go.Proofs.YtoiafibgbeadeaaGreat.Ev
