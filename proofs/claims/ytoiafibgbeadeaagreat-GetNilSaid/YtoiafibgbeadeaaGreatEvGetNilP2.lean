/- GetNil, a closed sentence: a part of its run on the abstract machine, which the kernel does. No condition. -/
import Derived.Test.YtoiafibgbeadeaaGreatEvGetNilS1
namespace Go.Proofs.YtoiafibgbeadeaaGreat.Ev
open Go.RowKit
set_option maxRecDepth 100000
theorem getNil_p3 : Piece env 20000 getNilHp3 getNilSt2 getNilSt3 := piece_of (by kernel_rfl)
theorem getNil_p4 : Piece env 20000 getNilHp4 getNilSt3 getNilSt4 := piece_of (by kernel_rfl)
end Go.Proofs.YtoiafibgbeadeaaGreat.Ev
