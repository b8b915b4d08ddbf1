/- ScavengeNil, a closed sentence: a part of its run on the abstract machine, which the kernel does. No condition. -/
import Derived.Test.YtoiafibgbeadeaaGreatEvScavengeNilS3
namespace Go.Proofs.YtoiafibgbeadeaaGreat.Ev
open Go.RowKit
set_option maxRecDepth 100000
theorem scavengeNil_p13 : Piece env 20000 scavengeNilHp13 scavengeNilSt12 scavengeNilSt13 := piece_of (by kernel_rfl)
theorem scavengeNil_p14 : Piece env 20000 scavengeNilHp14 scavengeNilSt13 scavengeNilSt14 := piece_of (by kernel_rfl)
end Go.Proofs.YtoiafibgbeadeaaGreat.Ev
