/- ScavengeNil, a closed sentence: a part of its run on the abstract machine, which the kernel does. No condition. -/
import Derived.Test.YtoiafibgbeadeaaGreatEvScavengeNilS3
namespace Go.Proofs.YtoiafibgbeadeaaGreat.Ev
open Go.RowKit
set_option maxRecDepth 100000
theorem scavengeNil_p11 : Piece env 20000 scavengeNilHp11 scavengeNilSt10 scavengeNilSt11 := piece_of (by kernel_rfl)
theorem scavengeNil_p12 : Piece env 20000 scavengeNilHp12 scavengeNilSt11 scavengeNilSt12 := piece_of (by kernel_rfl)
end Go.Proofs.YtoiafibgbeadeaaGreat.Ev
