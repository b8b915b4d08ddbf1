/- ScanNil, a closed sentence: a part of its run on the abstract machine, which the kernel does. No condition. -/
import Derived.Test.YtoiafibgbeadeaaGreatEvScanNilS3
namespace Go.Proofs.YtoiafibgbeadeaaGreat.Ev
open Go.RowKit
set_option maxRecDepth 100000
theorem scanNil_p7 : Piece env 20000 scanNilHp7 scanNilSt6 scanNilSt7 := piece_of (by kernel_rfl)
theorem scanNil_p8 : Piece env 20000 scanNilHp8 scanNilSt7 scanNilSt8 := piece_of (by kernel_rfl)
end Go.Proofs.YtoiafibgbeadeaaGreat.Ev
