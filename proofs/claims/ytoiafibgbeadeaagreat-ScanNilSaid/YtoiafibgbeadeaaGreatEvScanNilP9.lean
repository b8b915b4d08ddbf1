/- ScanNil, a closed sentence: a part of its run on the abstract machine, which the kernel does. No condition. -/
import Derived.Test.YtoiafibgbeadeaaGreatEvScanNilS3
namespace Go.Proofs.YtoiafibgbeadeaaGreat.Ev
open Go.RowKit
set_option maxRecDepth 100000
theorem scanNil_p17 : Piece env 20000 scanNilHp17 scanNilSt16 scanNilSt17 := piece_of (by kernel_rfl)
theorem scanNil_p18 : Piece env 20000 scanNilHp18 scanNilSt17 scanNilSt18 := piece_of (by kernel_rfl)
end Go.Proofs.YtoiafibgbeadeaaGreat.Ev
