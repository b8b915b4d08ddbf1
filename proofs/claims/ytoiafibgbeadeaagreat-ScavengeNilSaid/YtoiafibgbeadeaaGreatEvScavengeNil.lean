/- ScavengeNil, a closed sentence: its run on the abstract machine, which the kernel does, in pieces. No condition. -/
import Derived.Test.YtoiafibgbeadeaaGreatRows
import Derived.Test.YtoiafibgbeadeaaGreatEvScavengeNilP1
import Derived.Test.YtoiafibgbeadeaaGreatEvScavengeNilP2
import Derived.Test.YtoiafibgbeadeaaGreatEvScavengeNilP3
import Derived.Test.YtoiafibgbeadeaaGreatEvScavengeNilP4
import Derived.Test.YtoiafibgbeadeaaGreatEvScavengeNilP5
import Derived.Test.YtoiafibgbeadeaaGreatEvScavengeNilP6
import Derived.Test.YtoiafibgbeadeaaGreatEvScavengeNilP7
import Derived.Test.YtoiafibgbeadeaaGreatEvScavengeNilP8
import Derived.Test.YtoiafibgbeadeaaGreatEvScavengeNilP9
import Derived.Test.YtoiafibgbeadeaaGreatEvScavengeNilP10
import Derived.Test.YtoiafibgbeadeaaGreatEvScavengeNilP11
import Derived.Test.YtoiafibgbeadeaaGreatEvScavengeNilP12
import Derived.Test.YtoiafibgbeadeaaGreatEvScavengeNilP13
import Derived.Test.YtoiafibgbeadeaaGreatEvScavengeNilP14
import Derived.Test.YtoiafibgbeadeaaGreatEvScavengeNilP15
import Derived.Test.YtoiafibgbeadeaaGreatEvScavengeNilP16
import Derived.Test.YtoiafibgbeadeaaGreatEvScavengeNilP17
namespace Go.Proofs.YtoiafibgbeadeaaGreat.Ev
open Go.RowKit
set_option maxRecDepth 100000
theorem scavengeNil_run (w : World) : Calls Tryz.prog 10 #[] w fun e w' => e = .returned (.bool true) ∧ Below w.heap.size w w' := calls_pieces env_ok scavengeNil_enter (.more (.more (.more (.more (.more (.more (.more (.more (.more (.more (.more (.more (.more (.more (.more (.more (.more (.more (.more (.more (.more (.more (.more (.more (.more (.more (.more (.more (.more (.more (.more (.more (.more (.more .one scavengeNil_p1) scavengeNil_p2) scavengeNil_p3) scavengeNil_p4) scavengeNil_p5) scavengeNil_p6) scavengeNil_p7) scavengeNil_p8) scavengeNil_p9) scavengeNil_p10) scavengeNil_p11) scavengeNil_p12) scavengeNil_p13) scavengeNil_p14) scavengeNil_p15) scavengeNil_p16) scavengeNil_p17) scavengeNil_p18) scavengeNil_p19) scavengeNil_p20) scavengeNil_p21) scavengeNil_p22) scavengeNil_p23) scavengeNil_p24) scavengeNil_p25) scavengeNil_p26) scavengeNil_p27) scavengeNil_p28) scavengeNil_p29) scavengeNil_p30) scavengeNil_p31) scavengeNil_p32) scavengeNil_p33) scavengeNil_p34) (n := 14111) (by kernel_rfl) w
end Go.Proofs.YtoiafibgbeadeaaGreat.Ev
