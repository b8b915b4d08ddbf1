/- ScavengeNil, a closed sentence: a part of its run on the abstract machine, which the kernel does. No condition. -/
import Derived.Test.YtoiafibgbeadeaaGreatEvScavengeNilS3
namespace Go.Proofs.YtoiafibgbeadeaaGreat.Ev
open Go.RowKit
set_option maxRecDepth 100000
theorem scavengeNil_p17 : Piece env 20000 scavengeNilHp17 scavengeNilSt16 scavengeNilSt17 := piece_of (by kernel_rfl)
theorem scavengeNil_p18 : Piece env 20000 scavengeNilHp18 scavengeNilSt17 scavengeNilSt18 := piece_of (by kernel_rfl)
end Go.Proofs.YtoiafibgbeadeaaGreat.Ev
