/- ScanNil, a closed sentence: a part of its run on the abstract machine, which the kernel does. No condition. -/
import Derived.Test.YtoiafibgbeadeaaGreatEvScanNilS3
namespace Go.Proofs.YtoiafibgbeadeaaGreat.Ev
open Go.RowKit
set_option maxRecDepth 100000
theorem scanNil_enter : Same (enterF env 8 [] [] ⟨.e, 0⟩) scanNilSt0 := same_of (by kernel_rfl)
theorem scanNil_p1 : Piece env 20000 scanNilHp1 scanNilSt0 scanNilSt1 := piece_of (by kernel_rfl)
theorem scanNil_p2 : Piece env 20000 scanNilHp2 scanNilSt1 scanNilSt2 := piece_of (by kernel_rfl)
end Go.Proofs.YtoiafibgbeadeaaGreat.Ev
