/- ScanNil, a closed sentence: a part of its run on the abstract machine, which the kernel does. No condition. -/
import Derived.Test.YtoiafibgbeadeaaGreatEvScanNilS3
namespace Go.Proofs.YtoiafibgbeadeaaGreat.Ev
open Go.RowKit
set_option maxRecDepth 100000
theorem scanNil_p27 : Piece env 20000 scanNilHp27 scanNilSt26 scanNilSt27 := piece_of (by kernel_rfl)
theorem scanNil_p28 : Piece env 20000 scanNilHp28 scanNilSt27 scanNilSt28 := piece_of (by kernel_rfl)
end Go.Proofs.YtoiafibgbeadeaaGreat.Ev
