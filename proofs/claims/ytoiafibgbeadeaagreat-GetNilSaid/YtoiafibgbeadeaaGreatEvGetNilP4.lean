/- GetNil, a closed sentence: a part of its run on the abstract machine, which the kernel does. No condition. -/
import Derived.Test.YtoiafibgbeadeaaGreatEvGetNilS1
namespace Go.Proofs.YtoiafibgbeadeaaGreat.Ev
open Go.RowKit
set_option maxRecDepth 100000
theorem getNil_p7 : Piece env 20000 getNilHp7 getNilSt6 getNilSt7 := piece_of (by kernel_rfl)
theorem getNil_p8 : Piece env 20000 getNilHp8 getNilSt7 getNilSt8 := piece_of (by kernel_rfl)
end Go.Proofs.YtoiafibgbeadeaaGreat.Ev
