/- ScanNil, a closed sentence: a part of its run on the abstract machine, which the kernel does. No condition. -/
import Derived.Test.YtoiafibgbeadeaaGreatEvScanNilS3
namespace Go.Proofs.YtoiafibgbeadeaaGreat.Ev
open Go.RowKit
set_option maxRecDepth 100000
theorem scanNil_p29 : Piece env 20000 scanNilHp29 scanNilSt28 scanNilSt29 := piece_of (by kernel_rfl)
theorem scanNil_p30 : Piece env 20000 scanNilHp30 scanNilSt29 scanNilSt30 := piece_of (by kernel_rfl)
end Go.Proofs.YtoiafibgbeadeaaGreat.Ev
