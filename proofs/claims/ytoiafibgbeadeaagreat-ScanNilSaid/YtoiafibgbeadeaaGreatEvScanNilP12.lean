/- ScanNil, a closed sentence: a part of its run on the abstract machine, which the kernel does. No condition. -/
import Derived.Test.YtoiafibgbeadeaaGreatEvScanNilS3
namespace Go.Proofs.YtoiafibgbeadeaaGreat.Ev
open Go.RowKit
set_option maxRecDepth 100000
theorem scanNil_p23 : Piece env 20000 scanNilHp23 scanNilSt22 scanNilSt23 := piece_of (by kernel_rfl)
theorem scanNil_p24 : Piece env 20000 scanNilHp24 scanNilSt23 scanNilSt24 := piece_of (by kernel_rfl)
end Go.Proofs.YtoiafibgbeadeaaGreat.Ev
