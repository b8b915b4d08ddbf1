/- ScavengeNil, a closed sentence: a part of its run on the abstract machine, which the kernel does. No condition. -/
import Derived.Test.YtoiafibgbeadeaaGreatEvScavengeNilS3
namespace Go.Proofs.YtoiafibgbeadeaaGreat.Ev
open Go.RowKit
set_option maxRecDepth 100000
theorem scavengeNil_p3 : Piece env 20000 scavengeNilHp3 scavengeNilSt2 scavengeNilSt3 := piece_of (by kernel_rfl)
theorem scavengeNil_p4 : Piece env 20000 scavengeNilHp4 scavengeNilSt3 scavengeNilSt4 := piece_of (by kernel_rfl)
end Go.Proofs.YtoiafibgbeadeaaGreat.Ev
