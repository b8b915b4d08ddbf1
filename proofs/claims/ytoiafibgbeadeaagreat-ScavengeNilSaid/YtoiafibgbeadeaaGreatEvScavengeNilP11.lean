/- ScavengeNil, a closed sentence: a part of its run on the abstract machine, which the kernel does. No condition. -/
import Derived.Test.YtoiafibgbeadeaaGreatEvScavengeNilS3
namespace Go.Proofs.YtoiafibgbeadeaaGreat.Ev
open Go.RowKit
set_option maxRecDepth 100000
theorem scavengeNil_p21 : Piece env 20000 scavengeNilHp21 scavengeNilSt20 scavengeNilSt21 := piece_of (by kernel_rfl)
theorem scavengeNil_p22 : Piece env 20000 scavengeNilHp22 scavengeNilSt21 scavengeNilSt22 := piece_of (by kernel_rfl)
end Go.Proofs.YtoiafibgbeadeaaGreat.Ev
