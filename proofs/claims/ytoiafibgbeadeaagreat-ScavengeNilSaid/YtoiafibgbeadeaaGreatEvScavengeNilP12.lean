/- ScavengeNil, a closed sentence: a part of its run on the abstract machine, which the kernel does. No condition. -/
import Derived.Test.YtoiafibgbeadeaaGreatEvScavengeNilS3
namespace Go.Proofs.YtoiafibgbeadeaaGreat.Ev
open Go.RowKit
set_option maxRecDepth 100000
theorem scavengeNil_p23 : Piece env 20000 scavengeNilHp23 scavengeNilSt22 scavengeNilSt23 := piece_of (by kernel_rfl)
theorem scavengeNil_p24 : Piece env 20000 scavengeNilHp24 scavengeNilSt23 scavengeNilSt24 := piece_of (by kernel_rfl)
end Go.Proofs.YtoiafibgbeadeaaGreat.Ev
