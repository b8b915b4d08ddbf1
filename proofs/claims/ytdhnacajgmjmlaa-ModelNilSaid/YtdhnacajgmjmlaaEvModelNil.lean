/- ModelNil, a closed sentence: its run on the abstract machine, which the kernel does: 896 steps. No condition. -/
import Derived.Test.YtdhnacajgmjmlaaRows
import Derived.Test.YtdhnacajgmjmlaaEvEnv
namespace Go.Proofs.Ytdhnacajgmjmlaa.Ev
open Go.RowKit
set_option maxRecDepth 100000
theorem modelNil_run (w : World) : Calls Try.prog 11 #[] w fun e w' => e = .returned (.bool true) ∧ Below w.heap.size w w' := calls_true env_ok (n := 896) (by kernel_rfl) w
end Go.Proofs.Ytdhnacajgmjmlaa.Ev
