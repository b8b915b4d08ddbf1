/- ScavengeNil, a closed sentence: a part of its run on the abstract machine, which the kernel does. No condition. -/
import Derived.Test.YtoiafibgbeadeaaGreatEvScavengeNilS3
namespace Go.Proofs.YtoiafibgbeadeaaGreat.Ev
open Go.RowKit
set_option maxRecDepth 100000
theorem scavengeNil_p9 : Piece env 20000 scavengeNilHp9 scavengeNilSt8 scavengeNilSt9 := piece_of (by kernel_rfl)
theorem scavengeNil_p10 : Piece env 20000 scavengeNilHp10 scavengeNilSt9 scavengeNilSt10 := piece_of (by kernel_rfl)
end Go.Proofs.YtoiafibgbeadeaaGreat.Ev
