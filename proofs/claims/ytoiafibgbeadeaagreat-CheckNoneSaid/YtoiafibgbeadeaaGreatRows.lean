/-
  No cell of these rows narrows 'for every input' (looked for: loops, veiled, ifaces, maps, wideKeys, modest, calm, conditions, laid).
  DERIVED. THE GIVEN ROWS OF THIS SEAT. 8 by the template 'for every input the law returns true; each argument reads behind the call as it read before'; 0 by the template 'total and deterministic' (their statements: YtoiafibgbeadeaaGreatTotals.lean).
  GIVEN WITH THE SEED: the statements are not yours to turn. If you find one false, say at which input.
  Laid BY PROGRAM, IN A SANDBOX (cutbox-rows.mjs): the forced cells as the released guide's own fill.sh prints them over the translation 6f3c50d5e5a52e07… (all of the seat's roots in one cut). By AI agents, Wed Nov 11 2026. No macro, syntax, notation, axiom, sorry.
-/
import Derived.Test.YtoiafibgbeadeaaGreatChecked
import GoSem.Claim
import GoSem.ClaimJoined
import GoSem.ClaimMapViews
import Derived.JoinedTies
import Derived.KernelRfl
namespace Go.Proofs.YtoiafibgbeadeaaGreat
/- THE CELL 'sum', in the pinned program and in every row, IS THE sha256 OF THE DUMP (.gsa) THAT YtoiafibgbeadeaaGreatProg.lean LOADS. Nothing in Lean hashes anything: it is a label: what it is worth is what the hold of that sum in a sandbox is worth. -/
noncomputable def Tryz.pinned : Pinned := { name := "ytoiafibgbeadeaagreat", sum := "6f3c50d5e5a52e072498c11b61200395acfca8cd3bc99be894ee374202708f5d", checked := Tryz.checked }
namespace Rows
def none {H : Type} : Left H := { results := [], args := [] }

/-- 'leveelaw23.CheckNone': WHATEVER THE INPUT: true; the input reads as it did. -/
def checkNoneSpec : ChangeSpec := { name := "checkNone", fn := fun _ => fun
  | [] => { results := [.lit (.bool true)], args := [] }
  | _ => none }
def checkNoneRow : OpenClaim := { program := "ytoiafibgbeadeaagreat", sum := "6f3c50d5e5a52e072498c11b61200395acfca8cd3bc99be894ee374202708f5d", func := "levee/leveelaw23.CheckNone", spec := "checkNone", unfollowed := true, recurses := true, apart := false }
def CheckNoneSaid : Prop := checkNoneRow.holds Tryz.pinned (OpenSpec.ofChange checkNoneSpec)

/-- ITS FALSE NEIGHBOUR: 'it returns false'. Refute it at one input. -/
def checkNoneWrong : ChangeSpec := { name := "checkNone", fn := fun _ => fun
  | [] => { results := [.lit (.bool false)], args := [] }
  | _ => none }
def CheckNoneWrongFalsely : Prop := checkNoneRow.holds Tryz.pinned (OpenSpec.ofChange checkNoneWrong)

/-- 'leveelaw06.SlabNil': WHATEVER THE INPUT: true; the input reads as it did. -/
def slabNilSpec : ChangeSpec := { name := "slabNil", fn := fun _ => fun
  | [] => { results := [.lit (.bool true)], args := [] }
  | _ => none }
def slabNilRow : OpenClaim := { program := "ytoiafibgbeadeaagreat", sum := "6f3c50d5e5a52e072498c11b61200395acfca8cd3bc99be894ee374202708f5d", func := "levee/leveelaw06.SlabNil", spec := "slabNil", inPlace := ["maps.clone"], unfollowed := true, recurses := true, apart := false }
def SlabNilSaid : Prop := slabNilRow.holds Tryz.pinned (OpenSpec.ofChange slabNilSpec)

/-- ITS FALSE NEIGHBOUR: 'it returns false'. Refute it at one input. -/
def slabNilWrong : ChangeSpec := { name := "slabNil", fn := fun _ => fun
  | [] => { results := [.lit (.bool false)], args := [] }
  | _ => none }
def SlabNilWrongFalsely : Prop := slabNilRow.holds Tryz.pinned (OpenSpec.ofChange slabNilWrong)

/-- 'leveelaw16.HoldNil': WHATEVER THE INPUT: true; the input reads as it did. -/
def holdNilSpec : ChangeSpec := { name := "holdNil", fn := fun _ => fun
  | [] => { results := [.lit (.bool true)], args := [] }
  | _ => none }
def holdNilRow : OpenClaim := { program := "ytoiafibgbeadeaagreat", sum := "6f3c50d5e5a52e072498c11b61200395acfca8cd3bc99be894ee374202708f5d", func := "levee/leveelaw16.HoldNil", spec := "holdNil", inPlace := ["maps.clone"], unfollowed := true, recurses := true, apart := false }
def HoldNilSaid : Prop := holdNilRow.holds Tryz.pinned (OpenSpec.ofChange holdNilSpec)

/-- ITS FALSE NEIGHBOUR: 'it returns false'. Refute it at one input. -/
def holdNilWrong : ChangeSpec := { name := "holdNil", fn := fun _ => fun
  | [] => { results := [.lit (.bool false)], args := [] }
  | _ => none }
def HoldNilWrongFalsely : Prop := holdNilRow.holds Tryz.pinned (OpenSpec.ofChange holdNilWrong)

/-- 'leveelaw15.GetNil': WHATEVER THE INPUT: true; the input reads as it did. -/
def getNilSpec : ChangeSpec := { name := "getNil", fn := fun _ => fun
  | [] => { results := [.lit (.bool true)], args := [] }
  | _ => none }
def getNilRow : OpenClaim := { program := "ytoiafibgbeadeaagreat", sum := "6f3c50d5e5a52e072498c11b61200395acfca8cd3bc99be894ee374202708f5d", func := "levee/leveelaw15.GetNil", spec := "getNil", unfollowed := true, recurses := true, apart := false }
def GetNilSaid : Prop := getNilRow.holds Tryz.pinned (OpenSpec.ofChange getNilSpec)

/-- ITS FALSE NEIGHBOUR: 'it returns false'. Refute it at one input. -/
def getNilWrong : ChangeSpec := { name := "getNil", fn := fun _ => fun
  | [] => { results := [.lit (.bool false)], args := [] }
  | _ => none }
def GetNilWrongFalsely : Prop := getNilRow.holds Tryz.pinned (OpenSpec.ofChange getNilWrong)

/-- 'leveelaw24.OpenNil': WHATEVER THE INPUT: true; the input reads as it did. -/
def openNilSpec : ChangeSpec := { name := "openNil", fn := fun _ => fun
  | [] => { results := [.lit (.bool true)], args := [] }
  | _ => none }
def openNilRow : OpenClaim := { program := "ytoiafibgbeadeaagreat", sum := "6f3c50d5e5a52e072498c11b61200395acfca8cd3bc99be894ee374202708f5d", func := "levee/leveelaw24.OpenNil", spec := "openNil", unfollowed := true, recurses := true, apart := false }
def OpenNilSaid : Prop := openNilRow.holds Tryz.pinned (OpenSpec.ofChange openNilSpec)

/-- ITS FALSE NEIGHBOUR: 'it returns false'. Refute it at one input. -/
def openNilWrong : ChangeSpec := { name := "openNil", fn := fun _ => fun
  | [] => { results := [.lit (.bool false)], args := [] }
  | _ => none }
def OpenNilWrongFalsely : Prop := openNilRow.holds Tryz.pinned (OpenSpec.ofChange openNilWrong)

/-- 'leveelaw21.ScanNil': WHATEVER THE INPUT: true; the input reads as it did. -/
def scanNilSpec : ChangeSpec := { name := "scanNil", fn := fun _ => fun
  | [] => { results := [.lit (.bool true)], args := [] }
  | _ => none }
def scanNilRow : OpenClaim := { program := "ytoiafibgbeadeaagreat", sum := "6f3c50d5e5a52e072498c11b61200395acfca8cd3bc99be894ee374202708f5d", func := "levee/leveelaw21.ScanNil", spec := "scanNil", unfollowed := true, recurses := true, apart := false }
def ScanNilSaid : Prop := scanNilRow.holds Tryz.pinned (OpenSpec.ofChange scanNilSpec)

/-- ITS FALSE NEIGHBOUR: 'it returns false'. Refute it at one input. -/
def scanNilWrong : ChangeSpec := { name := "scanNil", fn := fun _ => fun
  | [] => { results := [.lit (.bool false)], args := [] }
  | _ => none }
def ScanNilWrongFalsely : Prop := scanNilRow.holds Tryz.pinned (OpenSpec.ofChange scanNilWrong)

/-- 'leveelaw17.SplitNil': WHATEVER THE INPUT: true; the input reads as it did. -/
def splitNilSpec : ChangeSpec := { name := "splitNil", fn := fun _ => fun
  | [] => { results := [.lit (.bool true)], args := [] }
  | _ => none }
def splitNilRow : OpenClaim := { program := "ytoiafibgbeadeaagreat", sum := "6f3c50d5e5a52e072498c11b61200395acfca8cd3bc99be894ee374202708f5d", func := "levee/leveelaw17.SplitNil", spec := "splitNil", inPlace := ["maps.clone"], unfollowed := true, recurses := true, apart := false }
def SplitNilSaid : Prop := splitNilRow.holds Tryz.pinned (OpenSpec.ofChange splitNilSpec)

/-- ITS FALSE NEIGHBOUR: 'it returns false'. Refute it at one input. -/
def splitNilWrong : ChangeSpec := { name := "splitNil", fn := fun _ => fun
  | [] => { results := [.lit (.bool false)], args := [] }
  | _ => none }
def SplitNilWrongFalsely : Prop := splitNilRow.holds Tryz.pinned (OpenSpec.ofChange splitNilWrong)

/-- 'leveelaw25.ScavengeNil': WHATEVER THE INPUT: true; the input reads as it did. -/
def scavengeNilSpec : ChangeSpec := { name := "scavengeNil", fn := fun _ => fun
  | [] => { results := [.lit (.bool true)], args := [] }
  | _ => none }
def scavengeNilRow : OpenClaim := { program := "ytoiafibgbeadeaagreat", sum := "6f3c50d5e5a52e072498c11b61200395acfca8cd3bc99be894ee374202708f5d", func := "levee/leveelaw25.ScavengeNil", spec := "scavengeNil", inPlace := ["maps.clone"], unfollowed := true, recurses := true, apart := false }
def ScavengeNilSaid : Prop := scavengeNilRow.holds Tryz.pinned (OpenSpec.ofChange scavengeNilSpec)

/-- ITS FALSE NEIGHBOUR: 'it returns false'. Refute it at one input. -/
def scavengeNilWrong : ChangeSpec := { name := "scavengeNil", fn := fun _ => fun
  | [] => { results := [.lit (.bool false)], args := [] }
  | _ => none }
def ScavengeNilWrongFalsely : Prop := scavengeNilRow.holds Tryz.pinned (OpenSpec.ofChange scavengeNilWrong)

/- THE SECOND FORM. 'bulk': how many values and letters a reading holds, each counted each time it is reached (what is shared counts as often as it is met; a slice's spare places count too). A statement '..UptoSaid' is the law's where the arguments, and the package variables that the reading takes, are together of bulk at most 1048576: NARROWER than '..Said'. Prove '..Said' where nothing that the law and all that it calls make is longer than what came in: it says more and counts as full. Else prove '..UptoSaid'. A law counts once. -/
mutual
def uptoBulk {H : Type} : DataW H → Nat
  | .lit (.string bytes) => bytes.length + 1
  | .lit _ => 1
  | .nil => 1
  | .ptr d => uptoBulk d + 1
  | .slice elems spare => uptoBulkAll elems + uptoBulkAll spare + 1
  | .agg parts => uptoBulkAll parts + 1
  | .iface _ d => uptoBulk d + 1
  | .map entries => uptoBulkEntries entries + 1
  | .held _ => 1
def uptoBulkAll {H : Type} : List (DataW H) → Nat
  | [] => 0
  | d :: r => uptoBulk d + uptoBulkAll r
def uptoBulkEntries {H : Type} : List (Lit × DataW H) → Nat
  | [] => 0
  | x :: r => uptoBulkEntry x + uptoBulkEntries r
def uptoBulkEntry {H : Type} : Lit × DataW H → Nat
  | (.string bytes, d) => bytes.length + uptoBulk d + 1
  | (_, d) => uptoBulk d + 1
 end
def uptoSmall : (H : Type) → List (DataW H) → Bool := fun _ ds => decide (uptoBulkAll ds ≤ 1048576)
def OpenSpec.upto (s : _root_.Go.ChangeSpec) : _root_.Go.OpenSpec := { _root_.Go.OpenSpec.ofChange s with cond := some uptoSmall }

/-- 'leveelaw23.CheckNone', WHERE WHAT IT READS IS OF BULK AT MOST 1048576: true; the input reads as it did. -/
def checkNoneUptoRow : OpenClaim := { program := "ytoiafibgbeadeaagreat", sum := "6f3c50d5e5a52e072498c11b61200395acfca8cd3bc99be894ee374202708f5d", func := "levee/leveelaw23.CheckNone", spec := "checkNone", unfollowed := true, recurses := true, apart := false, narrowed := true }
def CheckNoneUptoSaid : Prop := checkNoneUptoRow.holds Tryz.pinned (OpenSpec.upto checkNoneSpec)

/-- 'leveelaw06.SlabNil', WHERE WHAT IT READS IS OF BULK AT MOST 1048576: true; the input reads as it did. -/
def slabNilUptoRow : OpenClaim := { program := "ytoiafibgbeadeaagreat", sum := "6f3c50d5e5a52e072498c11b61200395acfca8cd3bc99be894ee374202708f5d", func := "levee/leveelaw06.SlabNil", spec := "slabNil", inPlace := ["maps.clone"], unfollowed := true, recurses := true, apart := false, narrowed := true }
def SlabNilUptoSaid : Prop := slabNilUptoRow.holds Tryz.pinned (OpenSpec.upto slabNilSpec)

/-- 'leveelaw16.HoldNil', WHERE WHAT IT READS IS OF BULK AT MOST 1048576: true; the input reads as it did. -/
def holdNilUptoRow : OpenClaim := { program := "ytoiafibgbeadeaagreat", sum := "6f3c50d5e5a52e072498c11b61200395acfca8cd3bc99be894ee374202708f5d", func := "levee/leveelaw16.HoldNil", spec := "holdNil", inPlace := ["maps.clone"], unfollowed := true, recurses := true, apart := false, narrowed := true }
def HoldNilUptoSaid : Prop := holdNilUptoRow.holds Tryz.pinned (OpenSpec.upto holdNilSpec)

/-- 'leveelaw15.GetNil', WHERE WHAT IT READS IS OF BULK AT MOST 1048576: true; the input reads as it did. -/
def getNilUptoRow : OpenClaim := { program := "ytoiafibgbeadeaagreat", sum := "6f3c50d5e5a52e072498c11b61200395acfca8cd3bc99be894ee374202708f5d", func := "levee/leveelaw15.GetNil", spec := "getNil", unfollowed := true, recurses := true, apart := false, narrowed := true }
def GetNilUptoSaid : Prop := getNilUptoRow.holds Tryz.pinned (OpenSpec.upto getNilSpec)

/-- 'leveelaw24.OpenNil', WHERE WHAT IT READS IS OF BULK AT MOST 1048576: true; the input reads as it did. -/
def openNilUptoRow : OpenClaim := { program := "ytoiafibgbeadeaagreat", sum := "6f3c50d5e5a52e072498c11b61200395acfca8cd3bc99be894ee374202708f5d", func := "levee/leveelaw24.OpenNil", spec := "openNil", unfollowed := true, recurses := true, apart := false, narrowed := true }
def OpenNilUptoSaid : Prop := openNilUptoRow.holds Tryz.pinned (OpenSpec.upto openNilSpec)

/-- 'leveelaw21.ScanNil', WHERE WHAT IT READS IS OF BULK AT MOST 1048576: true; the input reads as it did. -/
def scanNilUptoRow : OpenClaim := { program := "ytoiafibgbeadeaagreat", sum := "6f3c50d5e5a52e072498c11b61200395acfca8cd3bc99be894ee374202708f5d", func := "levee/leveelaw21.ScanNil", spec := "scanNil", unfollowed := true, recurses := true, apart := false, narrowed := true }
def ScanNilUptoSaid : Prop := scanNilUptoRow.holds Tryz.pinned (OpenSpec.upto scanNilSpec)

/-- 'leveelaw17.SplitNil', WHERE WHAT IT READS IS OF BULK AT MOST 1048576: true; the input reads as it did. -/
def splitNilUptoRow : OpenClaim := { program := "ytoiafibgbeadeaagreat", sum := "6f3c50d5e5a52e072498c11b61200395acfca8cd3bc99be894ee374202708f5d", func := "levee/leveelaw17.SplitNil", spec := "splitNil", inPlace := ["maps.clone"], unfollowed := true, recurses := true, apart := false, narrowed := true }
def SplitNilUptoSaid : Prop := splitNilUptoRow.holds Tryz.pinned (OpenSpec.upto splitNilSpec)

/-- 'leveelaw25.ScavengeNil', WHERE WHAT IT READS IS OF BULK AT MOST 1048576: true; the input reads as it did. -/
def scavengeNilUptoRow : OpenClaim := { program := "ytoiafibgbeadeaagreat", sum := "6f3c50d5e5a52e072498c11b61200395acfca8cd3bc99be894ee374202708f5d", func := "levee/leveelaw25.ScavengeNil", spec := "scavengeNil", inPlace := ["maps.clone"], unfollowed := true, recurses := true, apart := false, narrowed := true }
def ScavengeNilUptoSaid : Prop := scavengeNilUptoRow.holds Tryz.pinned (OpenSpec.upto scavengeNilSpec)

end Rows
end Go.Proofs.YtoiafibgbeadeaaGreat
