/- ScanNil, a closed sentence: a part of its run on the abstract machine, which the kernel does. No condition. -/
import Derived.Test.YtoiafibgbeadeaaGreatEvScanNilS3
namespace Go.Proofs.YtoiafibgbeadeaaGreat.Ev
open Go.RowKit
set_option maxRecDepth 100000
theorem scanNil_p13 : Piece env 20000 scanNilHp13 scanNilSt12 scanNilSt13 := piece_of (by kernel_rfl)
theorem scanNil_p14 : Piece env 20000 scanNilHp14 scanNilSt13 scanNilSt14 := piece_of (by kernel_rfl)
end Go.Proofs.YtoiafibgbeadeaaGreat.Ev
