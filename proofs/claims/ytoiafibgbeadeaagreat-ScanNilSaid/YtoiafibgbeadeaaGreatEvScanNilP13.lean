/- ScanNil, a closed sentence: a part of its run on the abstract machine, which the kernel does. No condition. -/
import Derived.Test.YtoiafibgbeadeaaGreatEvScanNilS3
namespace Go.Proofs.YtoiafibgbeadeaaGreat.Ev
open Go.RowKit
set_option maxRecDepth 100000
theorem scanNil_p25 : Piece env 20000 scanNilHp25 scanNilSt24 scanNilSt25 := piece_of (by kernel_rfl)
theorem scanNil_p26 : Piece env 20000 scanNilHp26 scanNilSt25 scanNilSt26 := piece_of (by kernel_rfl)
end Go.Proofs.YtoiafibgbeadeaaGreat.Ev
