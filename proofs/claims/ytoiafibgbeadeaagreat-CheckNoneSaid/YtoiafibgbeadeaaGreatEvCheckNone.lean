/- CheckNone, a closed sentence: its run on the abstract machine, which the kernel does, in pieces. No condition. -/
import Derived.Test.YtoiafibgbeadeaaGreatRows
import Derived.Test.YtoiafibgbeadeaaGreatEvCheckNoneP1
import Derived.Test.YtoiafibgbeadeaaGreatEvCheckNoneP2
import Derived.Test.YtoiafibgbeadeaaGreatEvCheckNoneP3
import Derived.Test.YtoiafibgbeadeaaGreatEvCheckNoneP4
import Derived.Test.YtoiafibgbeadeaaGreatEvCheckNoneP5
import Derived.Test.YtoiafibgbeadeaaGreatEvCheckNoneP6
import Derived.Test.YtoiafibgbeadeaaGreatEvCheckNoneP7
import Derived.Test.YtoiafibgbeadeaaGreatEvCheckNoneP8
import Derived.Test.YtoiafibgbeadeaaGreatEvCheckNoneP9
import Derived.Test.YtoiafibgbeadeaaGreatEvCheckNoneP10
import Derived.Test.YtoiafibgbeadeaaGreatEvCheckNoneP11
import Derived.Test.YtoiafibgbeadeaaGreatEvCheckNoneP12
import Derived.Test.YtoiafibgbeadeaaGreatEvCheckNoneP13
import Derived.Test.YtoiafibgbeadeaaGreatEvCheckNoneP14
import Derived.Test.YtoiafibgbeadeaaGreatEvCheckNoneP15
import Derived.Test.YtoiafibgbeadeaaGreatEvCheckNoneP16
import Derived.Test.YtoiafibgbeadeaaGreatEvCheckNoneP17
import Derived.Test.YtoiafibgbeadeaaGreatEvCheckNoneP18
import Derived.Test.YtoiafibgbeadeaaGreatEvCheckNoneP19
import Derived.Test.YtoiafibgbeadeaaGreatEvCheckNoneP20
namespace Go.Proofs.YtoiafibgbeadeaaGreat.Ev
open Go.RowKit
set_option maxRecDepth 100000
theorem checkNone_run (w : World) : Calls Tryz.prog 3 #[] w fun e w' => e = .returned (.bool true) ∧ Below w.heap.size w w' := calls_pieces env_ok checkNone_enter (.more (.more (.more (.more (.more (.more (.more (.more (.more (.more (.more (.more (.more (.more (.more (.more (.more (.more (.more (.more (.more (.more (.more (.more (.more (.more (.more (.more (.more (.more (.more (.more (.more (.more (.more (.more (.more (.more (.more (.more (.more (.more (.more (.more (.more (.more (.more (.more (.more (.more (.more (.more (.more (.more (.more (.more (.more (.more (.more (.more (.more (.more (.more (.more (.more (.more (.more (.more (.more (.more (.more (.more (.more (.more (.more (.more (.more (.more (.more (.more .one checkNone_p1) checkNone_p2) checkNone_p3) checkNone_p4) checkNone_p5) checkNone_p6) checkNone_p7) checkNone_p8) checkNone_p9) checkNone_p10) checkNone_p11) checkNone_p12) checkNone_p13) checkNone_p14) checkNone_p15) checkNone_p16) checkNone_p17) checkNone_p18) checkNone_p19) checkNone_p20) checkNone_p21) checkNone_p22) checkNone_p23) checkNone_p24) checkNone_p25) checkNone_p26) checkNone_p27) checkNone_p28) checkNone_p29) checkNone_p30) checkNone_p31) checkNone_p32) checkNone_p33) checkNone_p34) checkNone_p35) checkNone_p36) checkNone_p37) checkNone_p38) checkNone_p39) checkNone_p40) checkNone_p41) checkNone_p42) checkNone_p43) checkNone_p44) checkNone_p45) checkNone_p46) checkNone_p47) checkNone_p48) checkNone_p49) checkNone_p50) checkNone_p51) checkNone_p52) checkNone_p53) checkNone_p54) checkNone_p55) checkNone_p56) checkNone_p57) checkNone_p58) checkNone_p59) checkNone_p60) checkNone_p61) checkNone_p62) checkNone_p63) checkNone_p64) checkNone_p65) checkNone_p66) checkNone_p67) checkNone_p68) checkNone_p69) checkNone_p70) checkNone_p71) checkNone_p72) checkNone_p73) checkNone_p74) checkNone_p75) checkNone_p76) checkNone_p77) checkNone_p78) checkNone_p79) checkNone_p80) (n := 15940) (by kernel_rfl) w
end Go.Proofs.YtoiafibgbeadeaaGreat.Ev
