/- GetNil, a closed sentence: a part of its run on the abstract machine, which the kernel does. No condition. -/
import Derived.Test.YtoiafibgbeadeaaGreatEvGetNilS1
namespace Go.Proofs.YtoiafibgbeadeaaGreat.Ev
open Go.RowKit
set_option maxRecDepth 100000
theorem getNil_p5 : Piece env 20000 getNilHp5 getNilSt4 getNilSt5 := piece_of (by kernel_rfl)
theorem getNil_p6 : Piece env 20000 getNilHp6 getNilSt5 getNilSt6 := piece_of (by kernel_rfl)
end Go.Proofs.YtoiafibgbeadeaaGreat.Ev
