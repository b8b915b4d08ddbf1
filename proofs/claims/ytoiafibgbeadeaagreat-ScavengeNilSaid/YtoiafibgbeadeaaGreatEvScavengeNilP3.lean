/- ScavengeNil, a closed sentence: a part of its run on the abstract machine, which the kernel does. No condition. -/
import Derived.Test.YtoiafibgbeadeaaGreatEvScavengeNilS3
namespace Go.Proofs.YtoiafibgbeadeaaGreat.Ev
open Go.RowKit
set_option maxRecDepth 100000
theorem scavengeNil_p5 : Piece env 20000 scavengeNilHp5 scavengeNilSt4 scavengeNilSt5 := piece_of (by kernel_rfl)
theorem scavengeNil_p6 : Piece env 20000 scavengeNilHp6 scavengeNilSt5 scavengeNilSt6 := piece_of (by kernel_rfl)
end Go.Proofs.YtoiafibgbeadeaaGreat.Ev
