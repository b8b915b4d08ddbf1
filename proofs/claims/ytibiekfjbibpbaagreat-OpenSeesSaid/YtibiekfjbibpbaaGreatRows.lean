/-
  No cell of these rows narrows 'for every input' (looked for: loops, veiled, ifaces, maps, wideKeys, modest, calm, conditions, laid).
  DERIVED. THE GIVEN ROWS OF THIS SEAT. 10 by the template 'for every input the law returns true; each argument reads behind the call as it read before'; 0 by the template 'total and deterministic' (their statements: YtibiekfjbibpbaaGreatTotals.lean).
  GIVEN WITH THE SEED: the statements are not yours to turn. If you find one false, say at which input.
  Laid BY PROGRAM, IN A SANDBOX (cutbox-rows.mjs): the forced cells as the released guide's own fill.sh prints them over the translation 2d4d3b8412088aa0… (all of the seat's roots in one cut). By AI agents, Wed Nov 11 2026. No macro, syntax, notation, axiom, sorry.
-/
import Derived.Test.YtibiekfjbibpbaaGreatChecked
import GoSem.Claim
import GoSem.ClaimJoined
import GoSem.ClaimMapViews
import Derived.JoinedTies
import Derived.KernelRfl
namespace Go.Proofs.YtibiekfjbibpbaaGreat
/- THE CELL 'sum', in the pinned program and in every row, IS THE sha256 OF THE DUMP (.gsa) THAT YtibiekfjbibpbaaGreatProg.lean LOADS. Nothing in Lean hashes anything: it is a label: what it is worth is what the hold of that sum in a sandbox is worth. -/
noncomputable def Tryz.pinned : Pinned := { name := "ytibiekfjbibpbaagreat", sum := "2d4d3b8412088aa0ef681d3030469ed532d49aa3fddef7383b8c7ca8eb430767", checked := Tryz.checked }
namespace Rows
def none {H : Type} : Left H := { results := [], args := [] }

/-- 'leveelaw23.CheckLooks': WHATEVER THE INPUT: true; the input reads as it did. -/
def checkLooksSpec : ChangeSpec := { name := "checkLooks", fn := fun _ => fun
  | [d1, d2] => { results := [.lit (.bool true)], args := [d1, d2] }
  | _ => none }
def checkLooksRow : OpenClaim := { program := "ytibiekfjbibpbaagreat", sum := "2d4d3b8412088aa0ef681d3030469ed532d49aa3fddef7383b8c7ca8eb430767", func := "levee/leveelaw23.CheckLooks", spec := "checkLooks", unfollowed := true, recurses := true, apart := false }
def CheckLooksSaid : Prop := checkLooksRow.holds Tryz.pinned (OpenSpec.ofChange checkLooksSpec)

/-- ITS FALSE NEIGHBOUR: 'it returns false'. Refute it at one input. -/
def checkLooksWrong : ChangeSpec := { name := "checkLooks", fn := fun _ => fun
  | [d1, d2] => { results := [.lit (.bool false)], args := [d1, d2] }
  | _ => none }
def CheckLooksWrongFalsely : Prop := checkLooksRow.holds Tryz.pinned (OpenSpec.ofChange checkLooksWrong)

/-- 'leveelaw23.CheckSound': WHATEVER THE INPUT: true; the input reads as it did. -/
def checkSoundSpec : ChangeSpec := { name := "checkSound", fn := fun _ => fun
  | [d] => { results := [.lit (.bool true)], args := [d] }
  | _ => none }
def checkSoundRow : OpenClaim := { program := "ytibiekfjbibpbaagreat", sum := "2d4d3b8412088aa0ef681d3030469ed532d49aa3fddef7383b8c7ca8eb430767", func := "levee/leveelaw23.CheckSound", spec := "checkSound", unfollowed := true, recurses := true, apart := false }
def CheckSoundSaid : Prop := checkSoundRow.holds Tryz.pinned (OpenSpec.ofChange checkSoundSpec)

/-- ITS FALSE NEIGHBOUR: 'it returns false'. Refute it at one input. -/
def checkSoundWrong : ChangeSpec := { name := "checkSound", fn := fun _ => fun
  | [d] => { results := [.lit (.bool false)], args := [d] }
  | _ => none }
def CheckSoundWrongFalsely : Prop := checkSoundRow.holds Tryz.pinned (OpenSpec.ofChange checkSoundWrong)

/-- 'leveelaw23.CheckTorn': WHATEVER THE INPUT: true; the input reads as it did. -/
def checkTornSpec : ChangeSpec := { name := "checkTorn", fn := fun _ => fun
  | [d1, d2, d3, d4] => { results := [.lit (.bool true)], args := [d1, d2, d3, d4] }
  | _ => none }
def checkTornRow : OpenClaim := { program := "ytibiekfjbibpbaagreat", sum := "2d4d3b8412088aa0ef681d3030469ed532d49aa3fddef7383b8c7ca8eb430767", func := "levee/leveelaw23.CheckTorn", spec := "checkTorn", unfollowed := true, recurses := true, apart := false }
def CheckTornSaid : Prop := checkTornRow.holds Tryz.pinned (OpenSpec.ofChange checkTornSpec)

/-- ITS FALSE NEIGHBOUR: 'it returns false'. Refute it at one input. -/
def checkTornWrong : ChangeSpec := { name := "checkTorn", fn := fun _ => fun
  | [d1, d2, d3, d4] => { results := [.lit (.bool false)], args := [d1, d2, d3, d4] }
  | _ => none }
def CheckTornWrongFalsely : Prop := checkTornRow.holds Tryz.pinned (OpenSpec.ofChange checkTornWrong)

/-- 'leveelaw23.CheckLevels': WHATEVER THE INPUT: true; the input reads as it did. -/
def checkLevelsSpec : ChangeSpec := { name := "checkLevels", fn := fun _ => fun
  | [d1, d2, d3, d4] => { results := [.lit (.bool true)], args := [d1, d2, d3, d4] }
  | _ => none }
def checkLevelsRow : OpenClaim := { program := "ytibiekfjbibpbaagreat", sum := "2d4d3b8412088aa0ef681d3030469ed532d49aa3fddef7383b8c7ca8eb430767", func := "levee/leveelaw23.CheckLevels", spec := "checkLevels", unfollowed := true, recurses := true, apart := false }
def CheckLevelsSaid : Prop := checkLevelsRow.holds Tryz.pinned (OpenSpec.ofChange checkLevelsSpec)

/-- ITS FALSE NEIGHBOUR: 'it returns false'. Refute it at one input. -/
def checkLevelsWrong : ChangeSpec := { name := "checkLevels", fn := fun _ => fun
  | [d1, d2, d3, d4] => { results := [.lit (.bool false)], args := [d1, d2, d3, d4] }
  | _ => none }
def CheckLevelsWrongFalsely : Prop := checkLevelsRow.holds Tryz.pinned (OpenSpec.ofChange checkLevelsWrong)

/-- 'leveelaw24.OpenOwn': WHATEVER THE INPUT: true; the input reads as it did. -/
def openOwnSpec : ChangeSpec := { name := "openOwn", fn := fun _ => fun
  | [d] => { results := [.lit (.bool true)], args := [d] }
  | _ => none }
def openOwnRow : OpenClaim := { program := "ytibiekfjbibpbaagreat", sum := "2d4d3b8412088aa0ef681d3030469ed532d49aa3fddef7383b8c7ca8eb430767", func := "levee/leveelaw24.OpenOwn", spec := "openOwn", unfollowed := true, recurses := true, apart := false }
def OpenOwnSaid : Prop := openOwnRow.holds Tryz.pinned (OpenSpec.ofChange openOwnSpec)

/-- ITS FALSE NEIGHBOUR: 'it returns false'. Refute it at one input. -/
def openOwnWrong : ChangeSpec := { name := "openOwn", fn := fun _ => fun
  | [d] => { results := [.lit (.bool false)], args := [d] }
  | _ => none }
def OpenOwnWrongFalsely : Prop := openOwnRow.holds Tryz.pinned (OpenSpec.ofChange openOwnWrong)

/-- 'leveelaw24.OpenSees': WHATEVER THE INPUT: true; the input reads as it did. -/
def openSeesSpec : ChangeSpec := { name := "openSees", fn := fun _ => fun
  | [d] => { results := [.lit (.bool true)], args := [d] }
  | _ => none }
def openSeesRow : OpenClaim := { program := "ytibiekfjbibpbaagreat", sum := "2d4d3b8412088aa0ef681d3030469ed532d49aa3fddef7383b8c7ca8eb430767", func := "levee/leveelaw24.OpenSees", spec := "openSees", unfollowed := true, recurses := true, apart := false }
def OpenSeesSaid : Prop := openSeesRow.holds Tryz.pinned (OpenSpec.ofChange openSeesSpec)

/-- ITS FALSE NEIGHBOUR: 'it returns false'. Refute it at one input. -/
def openSeesWrong : ChangeSpec := { name := "openSees", fn := fun _ => fun
  | [d] => { results := [.lit (.bool false)], args := [d] }
  | _ => none }
def OpenSeesWrongFalsely : Prop := openSeesRow.holds Tryz.pinned (OpenSpec.ofChange openSeesWrong)

/-- 'leveelaw24.OpenLooks': WHATEVER THE INPUT: true; the input reads as it did. -/
def openLooksSpec : ChangeSpec := { name := "openLooks", fn := fun _ => fun
  | [d] => { results := [.lit (.bool true)], args := [d] }
  | _ => none }
def openLooksRow : OpenClaim := { program := "ytibiekfjbibpbaagreat", sum := "2d4d3b8412088aa0ef681d3030469ed532d49aa3fddef7383b8c7ca8eb430767", func := "levee/leveelaw24.OpenLooks", spec := "openLooks", unfollowed := true, recurses := true, apart := false }
def OpenLooksSaid : Prop := openLooksRow.holds Tryz.pinned (OpenSpec.ofChange openLooksSpec)

/-- ITS FALSE NEIGHBOUR: 'it returns false'. Refute it at one input. -/
def openLooksWrong : ChangeSpec := { name := "openLooks", fn := fun _ => fun
  | [d] => { results := [.lit (.bool false)], args := [d] }
  | _ => none }
def OpenLooksWrongFalsely : Prop := openLooksRow.holds Tryz.pinned (OpenSpec.ofChange openLooksWrong)

/-- 'leveelaw24.OpenBytes': WHATEVER THE INPUT: true; the input reads as it did. -/
def openBytesSpec : ChangeSpec := { name := "openBytes", fn := fun _ => fun
  | [d] => { results := [.lit (.bool true)], args := [d] }
  | _ => none }
def openBytesRow : OpenClaim := { program := "ytibiekfjbibpbaagreat", sum := "2d4d3b8412088aa0ef681d3030469ed532d49aa3fddef7383b8c7ca8eb430767", func := "levee/leveelaw24.OpenBytes", spec := "openBytes", unfollowed := true, recurses := true, apart := false }
def OpenBytesSaid : Prop := openBytesRow.holds Tryz.pinned (OpenSpec.ofChange openBytesSpec)

/-- ITS FALSE NEIGHBOUR: 'it returns false'. Refute it at one input. -/
def openBytesWrong : ChangeSpec := { name := "openBytes", fn := fun _ => fun
  | [d] => { results := [.lit (.bool false)], args := [d] }
  | _ => none }
def OpenBytesWrongFalsely : Prop := openBytesRow.holds Tryz.pinned (OpenSpec.ofChange openBytesWrong)

/-- 'leveelaw24.OpenSites': WHATEVER THE INPUT: true; the input reads as it did. -/
def openSitesSpec : ChangeSpec := { name := "openSites", fn := fun _ => fun
  | [d1, d2] => { results := [.lit (.bool true)], args := [d1, d2] }
  | _ => none }
def openSitesRow : OpenClaim := { program := "ytibiekfjbibpbaagreat", sum := "2d4d3b8412088aa0ef681d3030469ed532d49aa3fddef7383b8c7ca8eb430767", func := "levee/leveelaw24.OpenSites", spec := "openSites", unfollowed := true, recurses := true, apart := false }
def OpenSitesSaid : Prop := openSitesRow.holds Tryz.pinned (OpenSpec.ofChange openSitesSpec)

/-- ITS FALSE NEIGHBOUR: 'it returns false'. Refute it at one input. -/
def openSitesWrong : ChangeSpec := { name := "openSites", fn := fun _ => fun
  | [d1, d2] => { results := [.lit (.bool false)], args := [d1, d2] }
  | _ => none }
def OpenSitesWrongFalsely : Prop := openSitesRow.holds Tryz.pinned (OpenSpec.ofChange openSitesWrong)

/-- 'leveelaw25.ScavengeBytes': WHATEVER THE INPUT: true; the input reads as it did. -/
def scavengeBytesSpec : ChangeSpec := { name := "scavengeBytes", fn := fun _ => fun
  | [d] => { results := [.lit (.bool true)], args := [d] }
  | _ => none }
def scavengeBytesRow : OpenClaim := { program := "ytibiekfjbibpbaagreat", sum := "2d4d3b8412088aa0ef681d3030469ed532d49aa3fddef7383b8c7ca8eb430767", func := "levee/leveelaw25.ScavengeBytes", spec := "scavengeBytes", inPlace := ["maps.clone"], unfollowed := true, recurses := true, apart := false }
def ScavengeBytesSaid : Prop := scavengeBytesRow.holds Tryz.pinned (OpenSpec.ofChange scavengeBytesSpec)

/-- ITS FALSE NEIGHBOUR: 'it returns false'. Refute it at one input. -/
def scavengeBytesWrong : ChangeSpec := { name := "scavengeBytes", fn := fun _ => fun
  | [d] => { results := [.lit (.bool false)], args := [d] }
  | _ => none }
def ScavengeBytesWrongFalsely : Prop := scavengeBytesRow.holds Tryz.pinned (OpenSpec.ofChange scavengeBytesWrong)

/- THE SECOND FORM. 'bulk': how many values and letters a reading holds, each counted each time it is reached (what is shared counts as often as it is met; a slice's spare places count too). A statement '..UptoSaid' is the law's where the arguments, and the package variables that the reading takes, are together of bulk at most 1048576: NARROWER than '..Said'. Prove '..Said' where nothing that the law and all that it calls make is longer than what came in: it says more and counts as full. Else prove '..UptoSaid'. A law counts once. -/
mutual
def uptoBulk {H : Type} : DataW H → Nat
  | .lit (.string bytes) => bytes.length + 1
  | .lit _ => 1
  | .nil => 1
  | .ptr d => uptoBulk d + 1
  | .slice elems spare => uptoBulkAll elems + uptoBulkAll spare + 1
  | .agg parts => uptoBulkAll parts + 1
  | .iface _ d => uptoBulk d + 1
  | .map entries => uptoBulkEntries entries + 1
  | .held _ => 1
def uptoBulkAll {H : Type} : List (DataW H) → Nat
  | [] => 0
  | d :: r => uptoBulk d + uptoBulkAll r
def uptoBulkEntries {H : Type} : List (Lit × DataW H) → Nat
  | [] => 0
  | x :: r => uptoBulkEntry x + uptoBulkEntries r
def uptoBulkEntry {H : Type} : Lit × DataW H → Nat
  | (.string bytes, d) => bytes.length + uptoBulk d + 1
  | (_, d) => uptoBulk d + 1
 end
def uptoSmall : (H : Type) → List (DataW H) → Bool := fun _ ds => decide (uptoBulkAll ds ≤ 1048576)
def OpenSpec.upto (s : _root_.Go.ChangeSpec) : _root_.Go.OpenSpec := { _root_.Go.OpenSpec.ofChange s with cond := some uptoSmall }

/-- 'leveelaw23.CheckLooks', WHERE WHAT IT READS IS OF BULK AT MOST 1048576: true; the input reads as it did. -/
def checkLooksUptoRow : OpenClaim := { program := "ytibiekfjbibpbaagreat", sum := "2d4d3b8412088aa0ef681d3030469ed532d49aa3fddef7383b8c7ca8eb430767", func := "levee/leveelaw23.CheckLooks", spec := "checkLooks", unfollowed := true, recurses := true, apart := false, narrowed := true }
def CheckLooksUptoSaid : Prop := checkLooksUptoRow.holds Tryz.pinned (OpenSpec.upto checkLooksSpec)

/-- 'leveelaw23.CheckSound', WHERE WHAT IT READS IS OF BULK AT MOST 1048576: true; the input reads as it did. -/
def checkSoundUptoRow : OpenClaim := { program := "ytibiekfjbibpbaagreat", sum := "2d4d3b8412088aa0ef681d3030469ed532d49aa3fddef7383b8c7ca8eb430767", func := "levee/leveelaw23.CheckSound", spec := "checkSound", unfollowed := true, recurses := true, apart := false, narrowed := true }
def CheckSoundUptoSaid : Prop := checkSoundUptoRow.holds Tryz.pinned (OpenSpec.upto checkSoundSpec)

/-- 'leveelaw23.CheckTorn', WHERE WHAT IT READS IS OF BULK AT MOST 1048576: true; the input reads as it did. -/
def checkTornUptoRow : OpenClaim := { program := "ytibiekfjbibpbaagreat", sum := "2d4d3b8412088aa0ef681d3030469ed532d49aa3fddef7383b8c7ca8eb430767", func := "levee/leveelaw23.CheckTorn", spec := "checkTorn", unfollowed := true, recurses := true, apart := false, narrowed := true }
def CheckTornUptoSaid : Prop := checkTornUptoRow.holds Tryz.pinned (OpenSpec.upto checkTornSpec)

/-- 'leveelaw23.CheckLevels', WHERE WHAT IT READS IS OF BULK AT MOST 1048576: true; the input reads as it did. -/
def checkLevelsUptoRow : OpenClaim := { program := "ytibiekfjbibpbaagreat", sum := "2d4d3b8412088aa0ef681d3030469ed532d49aa3fddef7383b8c7ca8eb430767", func := "levee/leveelaw23.CheckLevels", spec := "checkLevels", unfollowed := true, recurses := true, apart := false, narrowed := true }
def CheckLevelsUptoSaid : Prop := checkLevelsUptoRow.holds Tryz.pinned (OpenSpec.upto checkLevelsSpec)

/-- 'leveelaw24.OpenOwn', WHERE WHAT IT READS IS OF BULK AT MOST 1048576: true; the input reads as it did. -/
def openOwnUptoRow : OpenClaim := { program := "ytibiekfjbibpbaagreat", sum := "2d4d3b8412088aa0ef681d3030469ed532d49aa3fddef7383b8c7ca8eb430767", func := "levee/leveelaw24.OpenOwn", spec := "openOwn", unfollowed := true, recurses := true, apart := false, narrowed := true }
def OpenOwnUptoSaid : Prop := openOwnUptoRow.holds Tryz.pinned (OpenSpec.upto openOwnSpec)

/-- 'leveelaw24.OpenSees', WHERE WHAT IT READS IS OF BULK AT MOST 1048576: true; the input reads as it did. -/
def openSeesUptoRow : OpenClaim := { program := "ytibiekfjbibpbaagreat", sum := "2d4d3b8412088aa0ef681d3030469ed532d49aa3fddef7383b8c7ca8eb430767", func := "levee/leveelaw24.OpenSees", spec := "openSees", unfollowed := true, recurses := true, apart := false, narrowed := true }
def OpenSeesUptoSaid : Prop := openSeesUptoRow.holds Tryz.pinned (OpenSpec.upto openSeesSpec)

/-- 'leveelaw24.OpenLooks', WHERE WHAT IT READS IS OF BULK AT MOST 1048576: true; the input reads as it did. -/
def openLooksUptoRow : OpenClaim := { program := "ytibiekfjbibpbaagreat", sum := "2d4d3b8412088aa0ef681d3030469ed532d49aa3fddef7383b8c7ca8eb430767", func := "levee/leveelaw24.OpenLooks", spec := "openLooks", unfollowed := true, recurses := true, apart := false, narrowed := true }
def OpenLooksUptoSaid : Prop := openLooksUptoRow.holds Tryz.pinned (OpenSpec.upto openLooksSpec)

/-- 'leveelaw24.OpenBytes', WHERE WHAT IT READS IS OF BULK AT MOST 1048576: true; the input reads as it did. -/
def openBytesUptoRow : OpenClaim := { program := "ytibiekfjbibpbaagreat", sum := "2d4d3b8412088aa0ef681d3030469ed532d49aa3fddef7383b8c7ca8eb430767", func := "levee/leveelaw24.OpenBytes", spec := "openBytes", unfollowed := true, recurses := true, apart := false, narrowed := true }
def OpenBytesUptoSaid : Prop := openBytesUptoRow.holds Tryz.pinned (OpenSpec.upto openBytesSpec)

/-- 'leveelaw24.OpenSites', WHERE WHAT IT READS IS OF BULK AT MOST 1048576: true; the input reads as it did. -/
def openSitesUptoRow : OpenClaim := { program := "ytibiekfjbibpbaagreat", sum := "2d4d3b8412088aa0ef681d3030469ed532d49aa3fddef7383b8c7ca8eb430767", func := "levee/leveelaw24.OpenSites", spec := "openSites", unfollowed := true, recurses := true, apart := false, narrowed := true }
def OpenSitesUptoSaid : Prop := openSitesUptoRow.holds Tryz.pinned (OpenSpec.upto openSitesSpec)

/-- 'leveelaw25.ScavengeBytes', WHERE WHAT IT READS IS OF BULK AT MOST 1048576: true; the input reads as it did. -/
def scavengeBytesUptoRow : OpenClaim := { program := "ytibiekfjbibpbaagreat", sum := "2d4d3b8412088aa0ef681d3030469ed532d49aa3fddef7383b8c7ca8eb430767", func := "levee/leveelaw25.ScavengeBytes", spec := "scavengeBytes", inPlace := ["maps.clone"], unfollowed := true, recurses := true, apart := false, narrowed := true }
def ScavengeBytesUptoSaid : Prop := scavengeBytesUptoRow.holds Tryz.pinned (OpenSpec.upto scavengeBytesSpec)

end Rows
end Go.Proofs.YtibiekfjbibpbaaGreat
