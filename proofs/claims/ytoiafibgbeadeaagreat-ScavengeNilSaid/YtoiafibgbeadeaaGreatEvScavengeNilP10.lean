/- ScavengeNil, a closed sentence: a part of its run on the abstract machine, which the kernel does. No condition. -/
import Derived.Test.YtoiafibgbeadeaaGreatEvScavengeNilS3
namespace Go.Proofs.YtoiafibgbeadeaaGreat.Ev
open Go.RowKit
set_option maxRecDepth 100000
theorem scavengeNil_p19 : Piece env 20000 scavengeNilHp19 scavengeNilSt18 scavengeNilSt19 := piece_of (by kernel_rfl)
theorem scavengeNil_p20 : Piece env 20000 scavengeNilHp20 scavengeNilSt19 scavengeNilSt20 := piece_of (by kernel_rfl)
end Go.Proofs.YtoiafibgbeadeaaGreat.Ev
