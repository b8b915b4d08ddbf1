/- GetNil, a closed sentence: a part of its run on the abstract machine, which the kernel does. No condition. -/
import Derived.Test.YtoiafibgbeadeaaGreatEvGetNilS1
namespace Go.Proofs.YtoiafibgbeadeaaGreat.Ev
open Go.RowKit
set_option maxRecDepth 100000
theorem getNil_enter : Same (enterF env 6 [] [] ⟨.e, 0⟩) getNilSt0 := same_of (by kernel_rfl)
theorem getNil_p1 : Piece env 20000 getNilHp1 getNilSt0 getNilSt1 := piece_of (by kernel_rfl)
theorem getNil_p2 : Piece env 20000 getNilHp2 getNilSt1 getNilSt2 := piece_of (by kernel_rfl)
end Go.Proofs.YtoiafibgbeadeaaGreat.Ev
