/- GetNil, a closed sentence: its run on the abstract machine, which the kernel does, in pieces. No condition. -/
import Derived.Test.YtoiafibgbeadeaaGreatRows
import Derived.Test.YtoiafibgbeadeaaGreatEvGetNilP1
import Derived.Test.YtoiafibgbeadeaaGreatEvGetNilP2
import Derived.Test.YtoiafibgbeadeaaGreatEvGetNilP3
import Derived.Test.YtoiafibgbeadeaaGreatEvGetNilP4
import Derived.Test.YtoiafibgbeadeaaGreatEvGetNilP5
import Derived.Test.YtoiafibgbeadeaaGreatEvGetNilP6
namespace Go.Proofs.YtoiafibgbeadeaaGreat.Ev
open Go.RowKit
set_option maxRecDepth 100000
theorem getNil_run (w : World) : Calls Tryz.prog 6 #[] w fun e w' => e = .returned (.bool true) ∧ Below w.heap.size w w' := calls_pieces env_ok getNil_enter (.more (.more (.more (.more (.more (.more (.more (.more (.more (.more (.more .one getNil_p1) getNil_p2) getNil_p3) getNil_p4) getNil_p5) getNil_p6) getNil_p7) getNil_p8) getNil_p9) getNil_p10) getNil_p11) (n := 4867) (by kernel_rfl) w
end Go.Proofs.YtoiafibgbeadeaaGreat.Ev
