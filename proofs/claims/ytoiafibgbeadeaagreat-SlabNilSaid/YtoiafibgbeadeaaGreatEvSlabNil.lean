/- SlabNil, a closed sentence: its run on the abstract machine, which the kernel does, in pieces. No condition. -/
import Derived.Test.YtoiafibgbeadeaaGreatRows
import Derived.Test.YtoiafibgbeadeaaGreatEvSlabNilP1
import Derived.Test.YtoiafibgbeadeaaGreatEvSlabNilP2
import Derived.Test.YtoiafibgbeadeaaGreatEvSlabNilP3
import Derived.Test.YtoiafibgbeadeaaGreatEvSlabNilP4
import Derived.Test.YtoiafibgbeadeaaGreatEvSlabNilP5
import Derived.Test.YtoiafibgbeadeaaGreatEvSlabNilP6
import Derived.Test.YtoiafibgbeadeaaGreatEvSlabNilP7
import Derived.Test.YtoiafibgbeadeaaGreatEvSlabNilP8
import Derived.Test.YtoiafibgbeadeaaGreatEvSlabNilP9
import Derived.Test.YtoiafibgbeadeaaGreatEvSlabNilP10
import Derived.Test.YtoiafibgbeadeaaGreatEvSlabNilP11
import Derived.Test.YtoiafibgbeadeaaGreatEvSlabNilP12
namespace Go.Proofs.YtoiafibgbeadeaaGreat.Ev
open Go.RowKit
set_option maxRecDepth 100000
theorem slabNil_run (w : World) : Calls Tryz.prog 4 #[] w fun e w' => e = .returned (.bool true) ∧ Below w.heap.size w w' := calls_pieces env_ok slabNil_enter (.more (.more (.more (.more (.more (.more (.more (.more (.more (.more (.more (.more (.more (.more (.more (.more (.more (.more (.more (.more (.more (.more (.more (.more .one slabNil_p1) slabNil_p2) slabNil_p3) slabNil_p4) slabNil_p5) slabNil_p6) slabNil_p7) slabNil_p8) slabNil_p9) slabNil_p10) slabNil_p11) slabNil_p12) slabNil_p13) slabNil_p14) slabNil_p15) slabNil_p16) slabNil_p17) slabNil_p18) slabNil_p19) slabNil_p20) slabNil_p21) slabNil_p22) slabNil_p23) slabNil_p24) (n := 3992) (by kernel_rfl) w
end Go.Proofs.YtoiafibgbeadeaaGreat.Ev
