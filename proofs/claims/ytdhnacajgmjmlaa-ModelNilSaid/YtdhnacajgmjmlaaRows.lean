/-
  No cell of these rows narrows 'for every input' (looked for: loops, veiled, ifaces, maps, wideKeys, modest, calm, conditions, laid).
  DERIVED. THE GIVEN ROWS OF THIS SEAT. 10 by the template 'for every input the law returns true; each argument reads behind the call as it read before'; 0 by the template 'total and deterministic' (their statements: YtdhnacajgmjmlaaTotals.lean).
  GIVEN WITH THE SEED: the statements are not yours to turn. If you find one false, say at which input.
  Laid BY PROGRAM, IN A SANDBOX (cutbox-rows.mjs): the forced cells as the released guide's own fill.sh prints them over the translation 2e9af64f02dcb542… (all of the seat's roots in one cut). By AI agents, Wed Nov 11 2026. No macro, syntax, notation, axiom, sorry.
-/
import Derived.Test.YtdhnacajgmjmlaaChecked
import GoSem.Claim
import GoSem.ClaimJoined
import GoSem.ClaimMapViews
import Derived.JoinedTies
import Derived.KernelRfl
namespace Go.Proofs.Ytdhnacajgmjmlaa
/- THE CELL 'sum', in the pinned program and in every row, IS THE sha256 OF THE DUMP (.gsa) THAT YtdhnacajgmjmlaaProg.lean LOADS. Nothing in Lean hashes anything: it is a label: what it is worth is what the hold of that sum in a sandbox is worth. -/
noncomputable def Try.pinned : Pinned := { name := "ytdhnacajgmjmlaa", sum := "2e9af64f02dcb5424b599784ae3fd97a3d424a2b11dbdc16b18df3d46139bed2", checked := Try.checked }
namespace Rows
def none {H : Type} : Left H := { results := [], args := [] }

/-- 'leveelaw13.SiteWhole': WHATEVER THE INPUT: true; the input reads as it did. -/
def siteWholeSpec : ChangeSpec := { name := "siteWhole", fn := fun _ => fun
  | [d1, d2] => { results := [.lit (.bool true)], args := [d1, d2] }
  | _ => none }
def siteWholeRow : OpenClaim := { program := "ytdhnacajgmjmlaa", sum := "2e9af64f02dcb5424b599784ae3fd97a3d424a2b11dbdc16b18df3d46139bed2", func := "levee/leveelaw13.SiteWhole", spec := "siteWhole", inPlace := ["maps.clone"], unfollowed := true, recurses := true, apart := false }
def SiteWholeSaid : Prop := siteWholeRow.holds Try.pinned (OpenSpec.ofChange siteWholeSpec)

/-- ITS FALSE NEIGHBOUR: 'it returns false'. Refute it at one input. -/
def siteWholeWrong : ChangeSpec := { name := "siteWhole", fn := fun _ => fun
  | [d1, d2] => { results := [.lit (.bool false)], args := [d1, d2] }
  | _ => none }
def SiteWholeWrongFalsely : Prop := siteWholeRow.holds Try.pinned (OpenSpec.ofChange siteWholeWrong)

/-- 'leveelaw13.SiteStays': WHATEVER THE INPUT: true; the input reads as it did. -/
def siteStaysSpec : ChangeSpec := { name := "siteStays", fn := fun _ => fun
  | [d] => { results := [.lit (.bool true)], args := [d] }
  | _ => none }
def siteStaysRow : OpenClaim := { program := "ytdhnacajgmjmlaa", sum := "2e9af64f02dcb5424b599784ae3fd97a3d424a2b11dbdc16b18df3d46139bed2", func := "levee/leveelaw13.SiteStays", spec := "siteStays", inPlace := ["maps.clone"], unfollowed := true, recurses := true, apart := false }
def SiteStaysSaid : Prop := siteStaysRow.holds Try.pinned (OpenSpec.ofChange siteStaysSpec)

/-- ITS FALSE NEIGHBOUR: 'it returns false'. Refute it at one input. -/
def siteStaysWrong : ChangeSpec := { name := "siteStays", fn := fun _ => fun
  | [d] => { results := [.lit (.bool false)], args := [d] }
  | _ => none }
def SiteStaysWrongFalsely : Prop := siteStaysRow.holds Try.pinned (OpenSpec.ofChange siteStaysWrong)

/-- 'leveelaw22.ModelMakes': WHATEVER THE INPUT: true; the input reads as it did. -/
def modelMakesSpec : ChangeSpec := { name := "modelMakes", fn := fun _ => fun
  | [d1, d2, d3] => { results := [.lit (.bool true)], args := [d1, d2, d3] }
  | _ => none }
def modelMakesRow : OpenClaim := { program := "ytdhnacajgmjmlaa", sum := "2e9af64f02dcb5424b599784ae3fd97a3d424a2b11dbdc16b18df3d46139bed2", func := "levee/leveelaw22.ModelMakes", spec := "modelMakes", inPlace := ["slices.overlaps[levee/api.Pair]"], unfollowed := true, recurses := true, apart := false }
def ModelMakesSaid : Prop := modelMakesRow.holds Try.pinned (OpenSpec.ofChange modelMakesSpec)

/-- ITS FALSE NEIGHBOUR: 'it returns false'. Refute it at one input. -/
def modelMakesWrong : ChangeSpec := { name := "modelMakes", fn := fun _ => fun
  | [d1, d2, d3] => { results := [.lit (.bool false)], args := [d1, d2, d3] }
  | _ => none }
def ModelMakesWrongFalsely : Prop := modelMakesRow.holds Try.pinned (OpenSpec.ofChange modelMakesWrong)

/-- 'leveelaw13.SiteNil': WHATEVER THE INPUT: true; the input reads as it did. -/
def siteNilSpec : ChangeSpec := { name := "siteNil", fn := fun _ => fun
  | [] => { results := [.lit (.bool true)], args := [] }
  | _ => none }
def siteNilRow : OpenClaim := { program := "ytdhnacajgmjmlaa", sum := "2e9af64f02dcb5424b599784ae3fd97a3d424a2b11dbdc16b18df3d46139bed2", func := "levee/leveelaw13.SiteNil", spec := "siteNil", inPlace := ["maps.clone"], unfollowed := true, recurses := true, apart := false }
def SiteNilSaid : Prop := siteNilRow.holds Try.pinned (OpenSpec.ofChange siteNilSpec)

/-- ITS FALSE NEIGHBOUR: 'it returns false'. Refute it at one input. -/
def siteNilWrong : ChangeSpec := { name := "siteNil", fn := fun _ => fun
  | [] => { results := [.lit (.bool false)], args := [] }
  | _ => none }
def SiteNilWrongFalsely : Prop := siteNilRow.holds Try.pinned (OpenSpec.ofChange siteNilWrong)

/-- 'leveelaw22.ModelPlays': WHATEVER THE INPUT: true; the input reads as it did. -/
def modelPlaysSpec : ChangeSpec := { name := "modelPlays", fn := fun _ => fun
  | [d] => { results := [.lit (.bool true)], args := [d] }
  | _ => none }
def modelPlaysRow : OpenClaim := { program := "ytdhnacajgmjmlaa", sum := "2e9af64f02dcb5424b599784ae3fd97a3d424a2b11dbdc16b18df3d46139bed2", func := "levee/leveelaw22.ModelPlays", spec := "modelPlays", inPlace := ["slices.overlaps[levee/api.Pair]"], unfollowed := true, recurses := true, apart := false }
def ModelPlaysSaid : Prop := modelPlaysRow.holds Try.pinned (OpenSpec.ofChange modelPlaysSpec)

/-- ITS FALSE NEIGHBOUR: 'it returns false'. Refute it at one input. -/
def modelPlaysWrong : ChangeSpec := { name := "modelPlays", fn := fun _ => fun
  | [d] => { results := [.lit (.bool false)], args := [d] }
  | _ => none }
def ModelPlaysWrongFalsely : Prop := modelPlaysRow.holds Try.pinned (OpenSpec.ofChange modelPlaysWrong)

/-- 'leveelaw22.ModelStays': WHATEVER THE INPUT: true; the input reads as it did. -/
def modelStaysSpec : ChangeSpec := { name := "modelStays", fn := fun _ => fun
  | [d1, d2] => { results := [.lit (.bool true)], args := [d1, d2] }
  | _ => none }
def modelStaysRow : OpenClaim := { program := "ytdhnacajgmjmlaa", sum := "2e9af64f02dcb5424b599784ae3fd97a3d424a2b11dbdc16b18df3d46139bed2", func := "levee/leveelaw22.ModelStays", spec := "modelStays", inPlace := ["slices.overlaps[levee/api.Pair]"], unfollowed := true, recurses := true, apart := false }
def ModelStaysSaid : Prop := modelStaysRow.holds Try.pinned (OpenSpec.ofChange modelStaysSpec)

/-- ITS FALSE NEIGHBOUR: 'it returns false'. Refute it at one input. -/
def modelStaysWrong : ChangeSpec := { name := "modelStays", fn := fun _ => fun
  | [d1, d2] => { results := [.lit (.bool false)], args := [d1, d2] }
  | _ => none }
def ModelStaysWrongFalsely : Prop := modelStaysRow.holds Try.pinned (OpenSpec.ofChange modelStaysWrong)

/-- 'leveelaw22.ModelScans': WHATEVER THE INPUT: true; the input reads as it did. -/
def modelScansSpec : ChangeSpec := { name := "modelScans", fn := fun _ => fun
  | [d1, d2, d3, d4, d5] => { results := [.lit (.bool true)], args := [d1, d2, d3, d4, d5] }
  | _ => none }
def modelScansRow : OpenClaim := { program := "ytdhnacajgmjmlaa", sum := "2e9af64f02dcb5424b599784ae3fd97a3d424a2b11dbdc16b18df3d46139bed2", func := "levee/leveelaw22.ModelScans", spec := "modelScans", inPlace := ["slices.overlaps[levee/api.Pair]"], unfollowed := true, recurses := true, apart := false }
def ModelScansSaid : Prop := modelScansRow.holds Try.pinned (OpenSpec.ofChange modelScansSpec)

/-- ITS FALSE NEIGHBOUR: 'it returns false'. Refute it at one input. -/
def modelScansWrong : ChangeSpec := { name := "modelScans", fn := fun _ => fun
  | [d1, d2, d3, d4, d5] => { results := [.lit (.bool false)], args := [d1, d2, d3, d4, d5] }
  | _ => none }
def ModelScansWrongFalsely : Prop := modelScansRow.holds Try.pinned (OpenSpec.ofChange modelScansWrong)

/-- 'leveelaw22.ModelCopies': WHATEVER THE INPUT: true; the input reads as it did. -/
def modelCopiesSpec : ChangeSpec := { name := "modelCopies", fn := fun _ => fun
  | [d1, d2, d3] => { results := [.lit (.bool true)], args := [d1, d2, d3] }
  | _ => none }
def modelCopiesRow : OpenClaim := { program := "ytdhnacajgmjmlaa", sum := "2e9af64f02dcb5424b599784ae3fd97a3d424a2b11dbdc16b18df3d46139bed2", func := "levee/leveelaw22.ModelCopies", spec := "modelCopies", inPlace := ["slices.overlaps[levee/api.Pair]"], unfollowed := true, recurses := true, apart := false }
def ModelCopiesSaid : Prop := modelCopiesRow.holds Try.pinned (OpenSpec.ofChange modelCopiesSpec)

/-- ITS FALSE NEIGHBOUR: 'it returns false'. Refute it at one input. -/
def modelCopiesWrong : ChangeSpec := { name := "modelCopies", fn := fun _ => fun
  | [d1, d2, d3] => { results := [.lit (.bool false)], args := [d1, d2, d3] }
  | _ => none }
def ModelCopiesWrongFalsely : Prop := modelCopiesRow.holds Try.pinned (OpenSpec.ofChange modelCopiesWrong)

/-- 'leveelaw22.ModelNil': WHATEVER THE INPUT: true; the input reads as it did. -/
def modelNilSpec : ChangeSpec := { name := "modelNil", fn := fun _ => fun
  | [] => { results := [.lit (.bool true)], args := [] }
  | _ => none }
def modelNilRow : OpenClaim := { program := "ytdhnacajgmjmlaa", sum := "2e9af64f02dcb5424b599784ae3fd97a3d424a2b11dbdc16b18df3d46139bed2", func := "levee/leveelaw22.ModelNil", spec := "modelNil", inPlace := ["slices.overlaps[levee/api.Pair]"], unfollowed := true, recurses := true, apart := false }
def ModelNilSaid : Prop := modelNilRow.holds Try.pinned (OpenSpec.ofChange modelNilSpec)

/-- ITS FALSE NEIGHBOUR: 'it returns false'. Refute it at one input. -/
def modelNilWrong : ChangeSpec := { name := "modelNil", fn := fun _ => fun
  | [] => { results := [.lit (.bool false)], args := [] }
  | _ => none }
def ModelNilWrongFalsely : Prop := modelNilRow.holds Try.pinned (OpenSpec.ofChange modelNilWrong)

/-- 'leveelaw13.SiteMakes': WHATEVER THE INPUT: true; the input reads as it did. -/
def siteMakesSpec : ChangeSpec := { name := "siteMakes", fn := fun _ => fun
  | [d1, d2, d3] => { results := [.lit (.bool true)], args := [d1, d2, d3] }
  | _ => none }
def siteMakesRow : OpenClaim := { program := "ytdhnacajgmjmlaa", sum := "2e9af64f02dcb5424b599784ae3fd97a3d424a2b11dbdc16b18df3d46139bed2", func := "levee/leveelaw13.SiteMakes", spec := "siteMakes", inPlace := ["maps.clone"], unfollowed := true, recurses := true, apart := false }
def SiteMakesSaid : Prop := siteMakesRow.holds Try.pinned (OpenSpec.ofChange siteMakesSpec)

/-- ITS FALSE NEIGHBOUR: 'it returns false'. Refute it at one input. -/
def siteMakesWrong : ChangeSpec := { name := "siteMakes", fn := fun _ => fun
  | [d1, d2, d3] => { results := [.lit (.bool false)], args := [d1, d2, d3] }
  | _ => none }
def SiteMakesWrongFalsely : Prop := siteMakesRow.holds Try.pinned (OpenSpec.ofChange siteMakesWrong)

/- THE SECOND FORM. 'bulk': how many values and letters a reading holds, each counted each time it is reached (what is shared counts as often as it is met; a slice's spare places count too). A statement '..UptoSaid' is the law's where the arguments, and the package variables that the reading takes, are together of bulk at most 1048576: NARROWER than '..Said'. Prove '..Said' where nothing that the law and all that it calls make is longer than what came in: it says more and counts as full. Else prove '..UptoSaid'. A law counts once. -/
mutual
def uptoBulk {H : Type} : DataW H → Nat
  | .lit (.string bytes) => bytes.length + 1
  | .lit _ => 1
  | .nil => 1
  | .ptr d => uptoBulk d + 1
  | .slice elems spare => uptoBulkAll elems + uptoBulkAll spare + 1
  | .agg parts => uptoBulkAll parts + 1
  | .iface _ d => uptoBulk d + 1
  | .map entries => uptoBulkEntries entries + 1
  | .held _ => 1
def uptoBulkAll {H : Type} : List (DataW H) → Nat
  | [] => 0
  | d :: r => uptoBulk d + uptoBulkAll r
def uptoBulkEntries {H : Type} : List (Lit × DataW H) → Nat
  | [] => 0
  | x :: r => uptoBulkEntry x + uptoBulkEntries r
def uptoBulkEntry {H : Type} : Lit × DataW H → Nat
  | (.string bytes, d) => bytes.length + uptoBulk d + 1
  | (_, d) => uptoBulk d + 1
 end
def uptoSmall : (H : Type) → List (DataW H) → Bool := fun _ ds => decide (uptoBulkAll ds ≤ 1048576)
def OpenSpec.upto (s : _root_.Go.ChangeSpec) : _root_.Go.OpenSpec := { _root_.Go.OpenSpec.ofChange s with cond := some uptoSmall }

/-- 'leveelaw13.SiteWhole', WHERE WHAT IT READS IS OF BULK AT MOST 1048576: true; the input reads as it did. -/
def siteWholeUptoRow : OpenClaim := { program := "ytdhnacajgmjmlaa", sum := "2e9af64f02dcb5424b599784ae3fd97a3d424a2b11dbdc16b18df3d46139bed2", func := "levee/leveelaw13.SiteWhole", spec := "siteWhole", inPlace := ["maps.clone"], unfollowed := true, recurses := true, apart := false, narrowed := true }
def SiteWholeUptoSaid : Prop := siteWholeUptoRow.holds Try.pinned (OpenSpec.upto siteWholeSpec)

/-- 'leveelaw13.SiteStays', WHERE WHAT IT READS IS OF BULK AT MOST 1048576: true; the input reads as it did. -/
def siteStaysUptoRow : OpenClaim := { program := "ytdhnacajgmjmlaa", sum := "2e9af64f02dcb5424b599784ae3fd97a3d424a2b11dbdc16b18df3d46139bed2", func := "levee/leveelaw13.SiteStays", spec := "siteStays", inPlace := ["maps.clone"], unfollowed := true, recurses := true, apart := false, narrowed := true }
def SiteStaysUptoSaid : Prop := siteStaysUptoRow.holds Try.pinned (OpenSpec.upto siteStaysSpec)

/-- 'leveelaw22.ModelMakes', WHERE WHAT IT READS IS OF BULK AT MOST 1048576: true; the input reads as it did. -/
def modelMakesUptoRow : OpenClaim := { program := "ytdhnacajgmjmlaa", sum := "2e9af64f02dcb5424b599784ae3fd97a3d424a2b11dbdc16b18df3d46139bed2", func := "levee/leveelaw22.ModelMakes", spec := "modelMakes", inPlace := ["slices.overlaps[levee/api.Pair]"], unfollowed := true, recurses := true, apart := false, narrowed := true }
def ModelMakesUptoSaid : Prop := modelMakesUptoRow.holds Try.pinned (OpenSpec.upto modelMakesSpec)

/-- 'leveelaw13.SiteNil', WHERE WHAT IT READS IS OF BULK AT MOST 1048576: true; the input reads as it did. -/
def siteNilUptoRow : OpenClaim := { program := "ytdhnacajgmjmlaa", sum := "2e9af64f02dcb5424b599784ae3fd97a3d424a2b11dbdc16b18df3d46139bed2", func := "levee/leveelaw13.SiteNil", spec := "siteNil", inPlace := ["maps.clone"], unfollowed := true, recurses := true, apart := false, narrowed := true }
def SiteNilUptoSaid : Prop := siteNilUptoRow.holds Try.pinned (OpenSpec.upto siteNilSpec)

/-- 'leveelaw22.ModelPlays', WHERE WHAT IT READS IS OF BULK AT MOST 1048576: true; the input reads as it did. -/
def modelPlaysUptoRow : OpenClaim := { program := "ytdhnacajgmjmlaa", sum := "2e9af64f02dcb5424b599784ae3fd97a3d424a2b11dbdc16b18df3d46139bed2", func := "levee/leveelaw22.ModelPlays", spec := "modelPlays", inPlace := ["slices.overlaps[levee/api.Pair]"], unfollowed := true, recurses := true, apart := false, narrowed := true }
def ModelPlaysUptoSaid : Prop := modelPlaysUptoRow.holds Try.pinned (OpenSpec.upto modelPlaysSpec)

/-- 'leveelaw22.ModelStays', WHERE WHAT IT READS IS OF BULK AT MOST 1048576: true; the input reads as it did. -/
def modelStaysUptoRow : OpenClaim := { program := "ytdhnacajgmjmlaa", sum := "2e9af64f02dcb5424b599784ae3fd97a3d424a2b11dbdc16b18df3d46139bed2", func := "levee/leveelaw22.ModelStays", spec := "modelStays", inPlace := ["slices.overlaps[levee/api.Pair]"], unfollowed := true, recurses := true, apart := false, narrowed := true }
def ModelStaysUptoSaid : Prop := modelStaysUptoRow.holds Try.pinned (OpenSpec.upto modelStaysSpec)

/-- 'leveelaw22.ModelScans', WHERE WHAT IT READS IS OF BULK AT MOST 1048576: true; the input reads as it did. -/
def modelScansUptoRow : OpenClaim := { program := "ytdhnacajgmjmlaa", sum := "2e9af64f02dcb5424b599784ae3fd97a3d424a2b11dbdc16b18df3d46139bed2", func := "levee/leveelaw22.ModelScans", spec := "modelScans", inPlace := ["slices.overlaps[levee/api.Pair]"], unfollowed := true, recurses := true, apart := false, narrowed := true }
def ModelScansUptoSaid : Prop := modelScansUptoRow.holds Try.pinned (OpenSpec.upto modelScansSpec)

/-- 'leveelaw22.ModelCopies', WHERE WHAT IT READS IS OF BULK AT MOST 1048576: true; the input reads as it did. -/
def modelCopiesUptoRow : OpenClaim := { program := "ytdhnacajgmjmlaa", sum := "2e9af64f02dcb5424b599784ae3fd97a3d424a2b11dbdc16b18df3d46139bed2", func := "levee/leveelaw22.ModelCopies", spec := "modelCopies", inPlace := ["slices.overlaps[levee/api.Pair]"], unfollowed := true, recurses := true, apart := false, narrowed := true }
def ModelCopiesUptoSaid : Prop := modelCopiesUptoRow.holds Try.pinned (OpenSpec.upto modelCopiesSpec)

/-- 'leveelaw22.ModelNil', WHERE WHAT IT READS IS OF BULK AT MOST 1048576: true; the input reads as it did. -/
def modelNilUptoRow : OpenClaim := { program := "ytdhnacajgmjmlaa", sum := "2e9af64f02dcb5424b599784ae3fd97a3d424a2b11dbdc16b18df3d46139bed2", func := "levee/leveelaw22.ModelNil", spec := "modelNil", inPlace := ["slices.overlaps[levee/api.Pair]"], unfollowed := true, recurses := true, apart := false, narrowed := true }
def ModelNilUptoSaid : Prop := modelNilUptoRow.holds Try.pinned (OpenSpec.upto modelNilSpec)

/-- 'leveelaw13.SiteMakes', WHERE WHAT IT READS IS OF BULK AT MOST 1048576: true; the input reads as it did. -/
def siteMakesUptoRow : OpenClaim := { program := "ytdhnacajgmjmlaa", sum := "2e9af64f02dcb5424b599784ae3fd97a3d424a2b11dbdc16b18df3d46139bed2", func := "levee/leveelaw13.SiteMakes", spec := "siteMakes", inPlace := ["maps.clone"], unfollowed := true, recurses := true, apart := false, narrowed := true }
def SiteMakesUptoSaid : Prop := siteMakesUptoRow.holds Try.pinned (OpenSpec.upto siteMakesSpec)

end Rows
end Go.Proofs.Ytdhnacajgmjmlaa
