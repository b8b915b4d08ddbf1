/- ScavengeNil, a closed sentence: a part of its run on the abstract machine, which the kernel does. No condition. -/
import Derived.Test.YtoiafibgbeadeaaGreatEvScavengeNilS3
namespace Go.Proofs.YtoiafibgbeadeaaGreat.Ev
open Go.RowKit
set_option maxRecDepth 100000
theorem scavengeNil_p15 : Piece env 20000 scavengeNilHp15 scavengeNilSt14 scavengeNilSt15 := piece_of (by kernel_rfl)
theorem scavengeNil_p16 : Piece env 20000 scavengeNilHp16 scavengeNilSt15 scavengeNilSt16 := piece_of (by kernel_rfl)
end Go.Proofs.YtoiafibgbeadeaaGreat.Ev
