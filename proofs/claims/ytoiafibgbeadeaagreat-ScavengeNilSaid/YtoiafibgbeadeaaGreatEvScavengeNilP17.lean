/- ScavengeNil, a closed sentence: a part of its run on the abstract machine, which the kernel does. No condition. -/
import Derived.Test.YtoiafibgbeadeaaGreatEvScavengeNilS3
namespace Go.Proofs.YtoiafibgbeadeaaGreat.Ev
open Go.RowKit
set_option maxRecDepth 100000
theorem scavengeNil_p33 : Piece env 20000 scavengeNilHp33 scavengeNilSt32 scavengeNilSt33 := piece_of (by kernel_rfl)
theorem scavengeNil_p34 : Piece env 20000 scavengeNilHp34 scavengeNilSt33 scavengeNilSt34 := piece_of (by kernel_rfl)
end Go.Proofs.YtoiafibgbeadeaaGreat.Ev
