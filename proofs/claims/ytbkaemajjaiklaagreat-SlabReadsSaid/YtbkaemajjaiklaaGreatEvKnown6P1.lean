/- Known6, a closed sentence: a part of its run on the abstract machine, which the kernel does. No condition. -/
import Derived.Test.YtbkaemajjaiklaaGreatEvKnown6S1
namespace Go.Proofs.YtbkaemajjaiklaaGreat.Ev
open Go.RowKit
set_option maxRecDepth 100000
theorem known6_enter : Same (enterF env 8 [] [] ⟨.e, 0⟩) known6St0 := same_of (by kernel_rfl)
theorem known6_p1 : Piece env 40000 known6Hp1 known6St0 known6St1 := piece_of (by kernel_rfl)
theorem known6_p2 : Piece env 40000 known6Hp2 known6St1 known6St2 := piece_of (by kernel_rfl)
end Go.Proofs.YtbkaemajjaiklaaGreat.Ev
