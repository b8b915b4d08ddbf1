/- Known6, a closed sentence: a part of its run on the abstract machine, which the kernel does. No condition. -/
import Derived.Test.YtbkaemajjaiklaaGreatEvKnown6S1
namespace Go.Proofs.YtbkaemajjaiklaaGreat.Ev
open Go.RowKit
set_option maxRecDepth 100000
theorem known6_p3 : Piece env 40000 known6Hp3 known6St2 known6St3 := piece_of (by kernel_rfl)
theorem known6_p4 : Piece env 40000 known6Hp4 known6St3 known6St4 := piece_of (by kernel_rfl)
end Go.Proofs.YtbkaemajjaiklaaGreat.Ev
