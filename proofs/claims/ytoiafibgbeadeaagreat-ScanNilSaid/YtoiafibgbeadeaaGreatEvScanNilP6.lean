/- ScanNil, a closed sentence: a part of its run on the abstract machine, which the kernel does. No condition. -/
import Derived.Test.YtoiafibgbeadeaaGreatEvScanNilS3
namespace Go.Proofs.YtoiafibgbeadeaaGreat.Ev
open Go.RowKit
set_option maxRecDepth 100000
theorem scanNil_p11 : Piece env 20000 scanNilHp11 scanNilSt10 scanNilSt11 := piece_of (by kernel_rfl)
theorem scanNil_p12 : Piece env 20000 scanNilHp12 scanNilSt11 scanNilSt12 := piece_of (by kernel_rfl)
end Go.Proofs.YtoiafibgbeadeaaGreat.Ev
