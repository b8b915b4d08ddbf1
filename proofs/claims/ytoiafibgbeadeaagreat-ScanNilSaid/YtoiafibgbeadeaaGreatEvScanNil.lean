/- ScanNil, a closed sentence: its run on the abstract machine, which the kernel does, in pieces. No condition. -/
import Derived.Test.YtoiafibgbeadeaaGreatRows
import Derived.Test.YtoiafibgbeadeaaGreatEvScanNilP1
import Derived.Test.YtoiafibgbeadeaaGreatEvScanNilP2
import Derived.Test.YtoiafibgbeadeaaGreatEvScanNilP3
import Derived.Test.YtoiafibgbeadeaaGreatEvScanNilP4
import Derived.Test.YtoiafibgbeadeaaGreatEvScanNilP5
import Derived.Test.YtoiafibgbeadeaaGreatEvScanNilP6
import Derived.Test.YtoiafibgbeadeaaGreatEvScanNilP7
import Derived.Test.YtoiafibgbeadeaaGreatEvScanNilP8
import Derived.Test.YtoiafibgbeadeaaGreatEvScanNilP9
import Derived.Test.YtoiafibgbeadeaaGreatEvScanNilP10
import Derived.Test.YtoiafibgbeadeaaGreatEvScanNilP11
import Derived.Test.YtoiafibgbeadeaaGreatEvScanNilP12
import Derived.Test.YtoiafibgbeadeaaGreatEvScanNilP13
import Derived.Test.YtoiafibgbeadeaaGreatEvScanNilP14
import Derived.Test.YtoiafibgbeadeaaGreatEvScanNilP15
namespace Go.Proofs.YtoiafibgbeadeaaGreat.Ev
open Go.RowKit
set_option maxRecDepth 100000
theorem scanNil_run (w : World) : Calls Tryz.prog 8 #[] w fun e w' => e = .returned (.bool true) ∧ Below w.heap.size w w' := calls_pieces env_ok scanNil_enter (.more (.more (.more (.more (.more (.more (.more (.more (.more (.more (.more (.more (.more (.more (.more (.more (.more (.more (.more (.more (.more (.more (.more (.more (.more (.more (.more (.more (.more (.more .one scanNil_p1) scanNil_p2) scanNil_p3) scanNil_p4) scanNil_p5) scanNil_p6) scanNil_p7) scanNil_p8) scanNil_p9) scanNil_p10) scanNil_p11) scanNil_p12) scanNil_p13) scanNil_p14) scanNil_p15) scanNil_p16) scanNil_p17) scanNil_p18) scanNil_p19) scanNil_p20) scanNil_p21) scanNil_p22) scanNil_p23) scanNil_p24) scanNil_p25) scanNil_p26) scanNil_p27) scanNil_p28) scanNil_p29) scanNil_p30) (n := 5310) (by kernel_rfl) w
end Go.Proofs.YtoiafibgbeadeaaGreat.Ev
