/- Known6, a closed sentence: a part of its run on the abstract machine, which the kernel does. No condition. -/
import Derived.Test.YtbkaemajjaiklaaGreatEvKnown6S1
namespace Go.Proofs.YtbkaemajjaiklaaGreat.Ev
open Go.RowKit
set_option maxRecDepth 100000
theorem known6_p7 : Piece env 40000 known6Hp7 known6St6 known6St7 := piece_of (by kernel_rfl)
theorem known6_p8 : Piece env 40000 known6Hp8 known6St7 known6St8 := piece_of (by kernel_rfl)
end Go.Proofs.YtbkaemajjaiklaaGreat.Ev
