/- SplitNil, a closed sentence: a part of its run on the abstract machine, which the kernel does. No condition. -/
import Derived.Test.YtoiafibgbeadeaaGreatEvSplitNilS3
namespace Go.Proofs.YtoiafibgbeadeaaGreat.Ev
open Go.RowKit
set_option maxRecDepth 100000
theorem splitNil_enter : Same (enterF env 9 [] [] ⟨.e, 0⟩) splitNilSt0 := same_of (by kernel_rfl)
theorem splitNil_p1 : Piece env 20000 splitNilHp1 splitNilSt0 splitNilSt1 := piece_of (by kernel_rfl)
theorem splitNil_p2 : Piece env 20000 splitNilHp2 splitNilSt1 splitNilSt2 := piece_of (by kernel_rfl)
end Go.Proofs.YtoiafibgbeadeaaGreat.Ev
