/- ScanNil, a closed sentence: a part of its run on the abstract machine, which the kernel does. No condition. -/
import Derived.Test.YtoiafibgbeadeaaGreatEvScanNilS3
namespace Go.Proofs.YtoiafibgbeadeaaGreat.Ev
open Go.RowKit
set_option maxRecDepth 100000
theorem scanNil_p19 : Piece env 20000 scanNilHp19 scanNilSt18 scanNilSt19 := piece_of (by kernel_rfl)
theorem scanNil_p20 : Piece env 20000 scanNilHp20 scanNilSt19 scanNilSt20 := piece_of (by kernel_rfl)
end Go.Proofs.YtoiafibgbeadeaaGreat.Ev
