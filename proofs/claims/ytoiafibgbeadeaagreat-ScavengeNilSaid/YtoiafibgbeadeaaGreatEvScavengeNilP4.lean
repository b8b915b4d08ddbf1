/- ScavengeNil, a closed sentence: a part of its run on the abstract machine, which the kernel does. No condition. -/
import Derived.Test.YtoiafibgbeadeaaGreatEvScavengeNilS3
namespace Go.Proofs.YtoiafibgbeadeaaGreat.Ev
open Go.RowKit
set_option maxRecDepth 100000
theorem scavengeNil_p7 : Piece env 20000 scavengeNilHp7 scavengeNilSt6 scavengeNilSt7 := piece_of (by kernel_rfl)
theorem scavengeNil_p8 : Piece env 20000 scavengeNilHp8 scavengeNilSt7 scavengeNilSt8 := piece_of (by kernel_rfl)
end Go.Proofs.YtoiafibgbeadeaaGreat.Ev
