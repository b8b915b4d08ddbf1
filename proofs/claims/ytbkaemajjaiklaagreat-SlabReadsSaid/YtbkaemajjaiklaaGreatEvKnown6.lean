/- Known6, a closed sentence: its run on the abstract machine, which the kernel does, in pieces. No condition. -/
import Derived.Test.YtbkaemajjaiklaaGreatRows
import Derived.Test.YtbkaemajjaiklaaGreatEvKnown6P1
import Derived.Test.YtbkaemajjaiklaaGreatEvKnown6P2
import Derived.Test.YtbkaemajjaiklaaGreatEvKnown6P3
import Derived.Test.YtbkaemajjaiklaaGreatEvKnown6P4
import Derived.Test.YtbkaemajjaiklaaGreatEvKnown6P5
namespace Go.Proofs.YtbkaemajjaiklaaGreat.Ev
open Go.RowKit
set_option maxRecDepth 100000
theorem known6_run (w : World) : Calls Tryz.prog 8 #[] w fun e w' => e = .returned (.bool true) ∧ Below w.heap.size w w' := calls_pieces env_ok known6_enter (.more (.more (.more (.more (.more (.more (.more (.more (.more .one known6_p1) known6_p2) known6_p3) known6_p4) known6_p5) known6_p6) known6_p7) known6_p8) known6_p9) (n := 16164) (by kernel_rfl) w
end Go.Proofs.YtbkaemajjaiklaaGreat.Ev
