/- Known6, a closed sentence: a part of its run on the abstract machine, which the kernel does. No condition. -/
import Derived.Test.YtbkaemajjaiklaaGreatEvKnown6S1
namespace Go.Proofs.YtbkaemajjaiklaaGreat.Ev
open Go.RowKit
set_option maxRecDepth 100000
theorem known6_p5 : Piece env 40000 known6Hp5 known6St4 known6St5 := piece_of (by kernel_rfl)
theorem known6_p6 : Piece env 40000 known6Hp6 known6St5 known6St6 := piece_of (by kernel_rfl)
end Go.Proofs.YtbkaemajjaiklaaGreat.Ev
