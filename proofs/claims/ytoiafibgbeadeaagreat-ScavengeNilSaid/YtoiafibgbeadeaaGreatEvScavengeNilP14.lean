/- ScavengeNil, a closed sentence: a part of its run on the abstract machine, which the kernel does. No condition. -/
import Derived.Test.YtoiafibgbeadeaaGreatEvScavengeNilS3
namespace Go.Proofs.YtoiafibgbeadeaaGreat.Ev
open Go.RowKit
set_option maxRecDepth 100000
theorem scavengeNil_p27 : Piece env 20000 scavengeNilHp27 scavengeNilSt26 scavengeNilSt27 := piece_of (by kernel_rfl)
theorem scavengeNil_p28 : Piece env 20000 scavengeNilHp28 scavengeNilSt27 scavengeNilSt28 := piece_of (by kernel_rfl)
end Go.Proofs.YtoiafibgbeadeaaGreat.Ev
