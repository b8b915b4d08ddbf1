/- ScavengeNil, a closed sentence: a part of its run on the abstract machine, which the kernel does. No condition. -/
import Derived.Test.YtoiafibgbeadeaaGreatEvScavengeNilS3
namespace Go.Proofs.YtoiafibgbeadeaaGreat.Ev
open Go.RowKit
set_option maxRecDepth 100000
theorem scavengeNil_p31 : Piece env 20000 scavengeNilHp31 scavengeNilSt30 scavengeNilSt31 := piece_of (by kernel_rfl)
theorem scavengeNil_p32 : Piece env 20000 scavengeNilHp32 scavengeNilSt31 scavengeNilSt32 := piece_of (by kernel_rfl)
end Go.Proofs.YtoiafibgbeadeaaGreat.Ev
