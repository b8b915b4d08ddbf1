/- ScanNil, a closed sentence: a part of its run on the abstract machine, which the kernel does. No condition. -/
import Derived.Test.YtoiafibgbeadeaaGreatEvScanNilS3
namespace Go.Proofs.YtoiafibgbeadeaaGreat.Ev
open Go.RowKit
set_option maxRecDepth 100000
theorem scanNil_p5 : Piece env 20000 scanNilHp5 scanNilSt4 scanNilSt5 := piece_of (by kernel_rfl)
theorem scanNil_p6 : Piece env 20000 scanNilHp6 scanNilSt5 scanNilSt6 := piece_of (by kernel_rfl)
end Go.Proofs.YtoiafibgbeadeaaGreat.Ev
