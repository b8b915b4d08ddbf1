/- OpenNil, a closed sentence: its run on the abstract machine, which the kernel does, in pieces. No condition. -/
import Derived.Test.YtoiafibgbeadeaaGreatRows
import Derived.Test.YtoiafibgbeadeaaGreatEvOpenNilP1
import Derived.Test.YtoiafibgbeadeaaGreatEvOpenNilP2
import Derived.Test.YtoiafibgbeadeaaGreatEvOpenNilP3
import Derived.Test.YtoiafibgbeadeaaGreatEvOpenNilP4
import Derived.Test.YtoiafibgbeadeaaGreatEvOpenNilP5
import Derived.Test.YtoiafibgbeadeaaGreatEvOpenNilP6
import Derived.Test.YtoiafibgbeadeaaGreatEvOpenNilP7
import Derived.Test.YtoiafibgbeadeaaGreatEvOpenNilP8
import Derived.Test.YtoiafibgbeadeaaGreatEvOpenNilP9
namespace Go.Proofs.YtoiafibgbeadeaaGreat.Ev
open Go.RowKit
set_option maxRecDepth 100000
theorem openNil_run (w : World) : Calls Tryz.prog 7 #[] w fun e w' => e = .returned (.bool true) ∧ Below w.heap.size w w' := calls_pieces env_ok openNil_enter (.more (.more (.more (.more (.more (.more (.more (.more (.more (.more (.more (.more (.more (.more (.more (.more (.more (.more .one openNil_p1) openNil_p2) openNil_p3) openNil_p4) openNil_p5) openNil_p6) openNil_p7) openNil_p8) openNil_p9) openNil_p10) openNil_p11) openNil_p12) openNil_p13) openNil_p14) openNil_p15) openNil_p16) openNil_p17) openNil_p18) (n := 14956) (by kernel_rfl) w
end Go.Proofs.YtoiafibgbeadeaaGreat.Ev
