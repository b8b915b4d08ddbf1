/- GetNil, a closed sentence: a part of its run on the abstract machine, which the kernel does. No condition. -/
import Derived.Test.YtoiafibgbeadeaaGreatEvGetNilS1
namespace Go.Proofs.YtoiafibgbeadeaaGreat.Ev
open Go.RowKit
set_option maxRecDepth 100000
theorem getNil_p9 : Piece env 20000 getNilHp9 getNilSt8 getNilSt9 := piece_of (by kernel_rfl)
theorem getNil_p10 : Piece env 20000 getNilHp10 getNilSt9 getNilSt10 := piece_of (by kernel_rfl)
end Go.Proofs.YtoiafibgbeadeaaGreat.Ev
