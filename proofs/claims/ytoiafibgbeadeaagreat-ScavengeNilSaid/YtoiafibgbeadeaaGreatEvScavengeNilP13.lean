/- ScavengeNil, a closed sentence: a part of its run on the abstract machine, which the kernel does. No condition. -/
import Derived.Test.YtoiafibgbeadeaaGreatEvScavengeNilS3
namespace Go.Proofs.YtoiafibgbeadeaaGreat.Ev
open Go.RowKit
set_option maxRecDepth 100000
theorem scavengeNil_p25 : Piece env 20000 scavengeNilHp25 scavengeNilSt24 scavengeNilSt25 := piece_of (by kernel_rfl)
theorem scavengeNil_p26 : Piece env 20000 scavengeNilHp26 scavengeNilSt25 scavengeNilSt26 := piece_of (by kernel_rfl)
end Go.Proofs.YtoiafibgbeadeaaGreat.Ev
