/- ScavengeNil, a closed sentence: a part of its run on the abstract machine, which the kernel does. No condition. -/
import Derived.Test.YtoiafibgbeadeaaGreatEvScavengeNilS3
namespace Go.Proofs.YtoiafibgbeadeaaGreat.Ev
open Go.RowKit
set_option maxRecDepth 100000
theorem scavengeNil_enter : Same (enterF env 10 [] [] ⟨.e, 0⟩) scavengeNilSt0 := same_of (by kernel_rfl)
theorem scavengeNil_p1 : Piece env 20000 scavengeNilHp1 scavengeNilSt0 scavengeNilSt1 := piece_of (by kernel_rfl)
theorem scavengeNil_p2 : Piece env 20000 scavengeNilHp2 scavengeNilSt1 scavengeNilSt2 := piece_of (by kernel_rfl)
end Go.Proofs.YtoiafibgbeadeaaGreat.Ev
