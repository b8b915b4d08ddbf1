/- ScanNil, a closed sentence: a part of its run on the abstract machine, which the kernel does. No condition. -/
import Derived.Test.YtoiafibgbeadeaaGreatEvScanNilS3
namespace Go.Proofs.YtoiafibgbeadeaaGreat.Ev
open Go.RowKit
set_option maxRecDepth 100000
theorem scanNil_p3 : Piece env 20000 scanNilHp3 scanNilSt2 scanNilSt3 := piece_of (by kernel_rfl)
theorem scanNil_p4 : Piece env 20000 scanNilHp4 scanNilSt3 scanNilSt4 := piece_of (by kernel_rfl)
end Go.Proofs.YtoiafibgbeadeaaGreat.Ev
