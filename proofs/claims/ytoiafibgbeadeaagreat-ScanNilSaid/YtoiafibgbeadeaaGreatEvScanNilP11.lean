/- ScanNil, a closed sentence: a part of its run on the abstract machine, which the kernel does. No condition. -/
import Derived.Test.YtoiafibgbeadeaaGreatEvScanNilS3
namespace Go.Proofs.YtoiafibgbeadeaaGreat.Ev
open Go.RowKit
set_option maxRecDepth 100000
theorem scanNil_p21 : Piece env 20000 scanNilHp21 scanNilSt20 scanNilSt21 := piece_of (by kernel_rfl)
theorem scanNil_p22 : Piece env 20000 scanNilHp22 scanNilSt21 scanNilSt22 := piece_of (by kernel_rfl)
end Go.Proofs.YtoiafibgbeadeaaGreat.Ev
