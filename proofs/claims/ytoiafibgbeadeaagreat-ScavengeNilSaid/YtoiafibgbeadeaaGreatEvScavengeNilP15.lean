/- ScavengeNil, a closed sentence: a part of its run on the abstract machine, which the kernel does. No condition. -/
import Derived.Test.YtoiafibgbeadeaaGreatEvScavengeNilS3
namespace Go.Proofs.YtoiafibgbeadeaaGreat.Ev
open Go.RowKit
set_option maxRecDepth 100000
theorem scavengeNil_p29 : Piece env 20000 scavengeNilHp29 scavengeNilSt28 scavengeNilSt29 := piece_of (by kernel_rfl)
theorem scavengeNil_p30 : Piece env 20000 scavengeNilHp30 scavengeNilSt29 scavengeNilSt30 := piece_of (by kernel_rfl)
end Go.Proofs.YtoiafibgbeadeaaGreat.Ev
