/- ScanNil, a closed sentence: a part of its run on the abstract machine, which the kernel does. No condition. -/
import Derived.Test.YtoiafibgbeadeaaGreatEvScanNilS3
namespace Go.Proofs.YtoiafibgbeadeaaGreat.Ev
open Go.RowKit
set_option maxRecDepth 100000
theorem scanNil_p15 : Piece env 20000 scanNilHp15 scanNilSt14 scanNilSt15 := piece_of (by kernel_rfl)
theorem scanNil_p16 : Piece env 20000 scanNilHp16 scanNilSt15 scanNilSt16 := piece_of (by kernel_rfl)
end Go.Proofs.YtoiafibgbeadeaaGreat.Ev
