/- HoldNil, a closed sentence: its run on the abstract machine, which the kernel does, in pieces. No condition. -/
import Derived.Test.YtoiafibgbeadeaaGreatRows
import Derived.Test.YtoiafibgbeadeaaGreatEvHoldNilP1
import Derived.Test.YtoiafibgbeadeaaGreatEvHoldNilP2
import Derived.Test.YtoiafibgbeadeaaGreatEvHoldNilP3
import Derived.Test.YtoiafibgbeadeaaGreatEvHoldNilP4
import Derived.Test.YtoiafibgbeadeaaGreatEvHoldNilP5
import Derived.Test.YtoiafibgbeadeaaGreatEvHoldNilP6
import Derived.Test.YtoiafibgbeadeaaGreatEvHoldNilP7
import Derived.Test.YtoiafibgbeadeaaGreatEvHoldNilP8
import Derived.Test.YtoiafibgbeadeaaGreatEvHoldNilP9
namespace Go.Proofs.YtoiafibgbeadeaaGreat.Ev
open Go.RowKit
set_option maxRecDepth 100000
theorem holdNil_run (w : World) : Calls Tryz.prog 5 #[] w fun e w' => e = .returned (.bool true) ∧ Below w.heap.size w w' := calls_pieces env_ok holdNil_enter (.more (.more (.more (.more (.more (.more (.more (.more (.more (.more (.more (.more (.more (.more (.more (.more (.more (.more .one holdNil_p1) holdNil_p2) holdNil_p3) holdNil_p4) holdNil_p5) holdNil_p6) holdNil_p7) holdNil_p8) holdNil_p9) holdNil_p10) holdNil_p11) holdNil_p12) holdNil_p13) holdNil_p14) holdNil_p15) holdNil_p16) holdNil_p17) holdNil_p18) (n := 2577) (by kernel_rfl) w
end Go.Proofs.YtoiafibgbeadeaaGreat.Ev
