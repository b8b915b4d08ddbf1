/- SplitNil, a closed sentence: its run on the abstract machine, which the kernel does, in pieces. No condition. -/
import Derived.Test.YtoiafibgbeadeaaGreatRows
import Derived.Test.YtoiafibgbeadeaaGreatEvSplitNilP1
import Derived.Test.YtoiafibgbeadeaaGreatEvSplitNilP2
import Derived.Test.YtoiafibgbeadeaaGreatEvSplitNilP3
import Derived.Test.YtoiafibgbeadeaaGreatEvSplitNilP4
import Derived.Test.YtoiafibgbeadeaaGreatEvSplitNilP5
import Derived.Test.YtoiafibgbeadeaaGreatEvSplitNilP6
import Derived.Test.YtoiafibgbeadeaaGreatEvSplitNilP7
import Derived.Test.YtoiafibgbeadeaaGreatEvSplitNilP8
import Derived.Test.YtoiafibgbeadeaaGreatEvSplitNilP9
import Derived.Test.YtoiafibgbeadeaaGreatEvSplitNilP10
import Derived.Test.YtoiafibgbeadeaaGreatEvSplitNilP11
import Derived.Test.YtoiafibgbeadeaaGreatEvSplitNilP12
import Derived.Test.YtoiafibgbeadeaaGreatEvSplitNilP13
import Derived.Test.YtoiafibgbeadeaaGreatEvSplitNilP14
import Derived.Test.YtoiafibgbeadeaaGreatEvSplitNilP15
import Derived.Test.YtoiafibgbeadeaaGreatEvSplitNilP16
namespace Go.Proofs.YtoiafibgbeadeaaGreat.Ev
open Go.RowKit
set_option maxRecDepth 100000
theorem splitNil_run (w : World) : Calls Tryz.prog 9 #[] w fun e w' => e = .returned (.bool true) ∧ Below w.heap.size w w' := calls_pieces env_ok splitNil_enter (.more (.more (.more (.more (.more (.more (.more (.more (.more (.more (.more (.more (.more (.more (.more (.more (.more (.more (.more (.more (.more (.more (.more (.more (.more (.more (.more (.more (.more (.more (.more (.more .one splitNil_p1) splitNil_p2) splitNil_p3) splitNil_p4) splitNil_p5) splitNil_p6) splitNil_p7) splitNil_p8) splitNil_p9) splitNil_p10) splitNil_p11) splitNil_p12) splitNil_p13) splitNil_p14) splitNil_p15) splitNil_p16) splitNil_p17) splitNil_p18) splitNil_p19) splitNil_p20) splitNil_p21) splitNil_p22) splitNil_p23) splitNil_p24) splitNil_p25) splitNil_p26) splitNil_p27) splitNil_p28) splitNil_p29) splitNil_p30) splitNil_p31) splitNil_p32) (n := 5712) (by kernel_rfl) w
end Go.Proofs.YtoiafibgbeadeaaGreat.Ev
