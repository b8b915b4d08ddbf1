/-
  No cell of these rows narrows 'for every input' (looked for: loops, veiled, ifaces, maps, wideKeys, modest, calm, conditions, laid).
  DERIVED. THE GIVEN ROWS OF THIS SEAT. 3 by the template 'for every input the law returns true; each argument reads behind the call as it read before'; 0 by the template 'total and deterministic' (their statements: YtbkaemajjaiklaaTotals.lean).
  GIVEN WITH THE SEED: the statements are not yours to turn. If you find one false, say at which input.
  Laid BY PROGRAM, IN A SANDBOX (cutbox-rows.mjs): the forced cells as the released guide's own fill.sh prints them over the translation 20d540f9a1bc69f0… (all of the seat's roots in one cut). By AI agents, Wed Nov 11 2026. No macro, syntax, notation, axiom, sorry.
-/
import Derived.Test.YtbkaemajjaiklaaChecked
import GoSem.Claim
import GoSem.ClaimJoined
import GoSem.ClaimMapViews
import Derived.JoinedTies
import Derived.KernelRfl
namespace Go.Proofs.Ytbkaemajjaiklaa
/- THE CELL 'sum', in the pinned program and in every row, IS THE sha256 OF THE DUMP (.gsa) THAT YtbkaemajjaiklaaProg.lean LOADS. Nothing in Lean hashes anything: it is a label: what it is worth is what the hold of that sum in a sandbox is worth. -/
noncomputable def Try.pinned : Pinned := { name := "ytbkaemajjaiklaa", sum := "20d540f9a1bc69f051d6937b17ccc0feda857392ffb6b5f2b7794e324850a6d1", checked := Try.checked }
namespace Rows
def none {H : Type} : Left H := { results := [], args := [] }

/-- 'leveelaw13.SiteMakes': WHATEVER THE INPUT: true; the input reads as it did. -/
def siteMakesSpec : ChangeSpec := { name := "siteMakes", fn := fun _ => fun
  | [d1, d2, d3] => { results := [.lit (.bool true)], args := [d1, d2, d3] }
  | _ => none }
def siteMakesRow : OpenClaim := { program := "ytbkaemajjaiklaa", sum := "20d540f9a1bc69f051d6937b17ccc0feda857392ffb6b5f2b7794e324850a6d1", func := "levee/leveelaw13.SiteMakes", spec := "siteMakes", inPlace := ["maps.clone"], unfollowed := true, recurses := true, apart := false }
def SiteMakesSaid : Prop := siteMakesRow.holds Try.pinned (OpenSpec.ofChange siteMakesSpec)

/-- ITS FALSE NEIGHBOUR: 'it returns false'. Refute it at one input. -/
def siteMakesWrong : ChangeSpec := { name := "siteMakes", fn := fun _ => fun
  | [d1, d2, d3] => { results := [.lit (.bool false)], args := [d1, d2, d3] }
  | _ => none }
def SiteMakesWrongFalsely : Prop := siteMakesRow.holds Try.pinned (OpenSpec.ofChange siteMakesWrong)

/-- 'leveelaw06.SlabRoom': WHATEVER THE INPUT: true; the input reads as it did. -/
def slabRoomSpec : ChangeSpec := { name := "slabRoom", fn := fun _ => fun
  | [d1, d2] => { results := [.lit (.bool true)], args := [d1, d2] }
  | _ => none }
def slabRoomRow : OpenClaim := { program := "ytbkaemajjaiklaa", sum := "20d540f9a1bc69f051d6937b17ccc0feda857392ffb6b5f2b7794e324850a6d1", func := "levee/leveelaw06.SlabRoom", spec := "slabRoom", inPlace := ["maps.clone"], unfollowed := true, recurses := true, apart := false }
def SlabRoomSaid : Prop := slabRoomRow.holds Try.pinned (OpenSpec.ofChange slabRoomSpec)

/-- ITS FALSE NEIGHBOUR: 'it returns false'. Refute it at one input. -/
def slabRoomWrong : ChangeSpec := { name := "slabRoom", fn := fun _ => fun
  | [d1, d2] => { results := [.lit (.bool false)], args := [d1, d2] }
  | _ => none }
def SlabRoomWrongFalsely : Prop := slabRoomRow.holds Try.pinned (OpenSpec.ofChange slabRoomWrong)

/-- 'leveelaw13.SiteDrops': WHATEVER THE INPUT: true; the input reads as it did. -/
def siteDropsSpec : ChangeSpec := { name := "siteDrops", fn := fun _ => fun
  | [d1, d2, d3] => { results := [.lit (.bool true)], args := [d1, d2, d3] }
  | _ => none }
def siteDropsRow : OpenClaim := { program := "ytbkaemajjaiklaa", sum := "20d540f9a1bc69f051d6937b17ccc0feda857392ffb6b5f2b7794e324850a6d1", func := "levee/leveelaw13.SiteDrops", spec := "siteDrops", inPlace := ["maps.clone"], unfollowed := true, recurses := true, apart := false }
def SiteDropsSaid : Prop := siteDropsRow.holds Try.pinned (OpenSpec.ofChange siteDropsSpec)

/-- ITS FALSE NEIGHBOUR: 'it returns false'. Refute it at one input. -/
def siteDropsWrong : ChangeSpec := { name := "siteDrops", fn := fun _ => fun
  | [d1, d2, d3] => { results := [.lit (.bool false)], args := [d1, d2, d3] }
  | _ => none }
def SiteDropsWrongFalsely : Prop := siteDropsRow.holds Try.pinned (OpenSpec.ofChange siteDropsWrong)

/- THE SECOND FORM. 'bulk': how many values and letters a reading holds, each counted each time it is reached (what is shared counts as often as it is met; a slice's spare places count too). A statement '..UptoSaid' is the law's where the arguments, and the package variables that the reading takes, are together of bulk at most 1048576: NARROWER than '..Said'. Prove '..Said' where nothing that the law and all that it calls make is longer than what came in: it says more and counts as full. Else prove '..UptoSaid'. A law counts once. -/
mutual
def uptoBulk {H : Type} : DataW H → Nat
  | .lit (.string bytes) => bytes.length + 1
  | .lit _ => 1
  | .nil => 1
  | .ptr d => uptoBulk d + 1
  | .slice elems spare => uptoBulkAll elems + uptoBulkAll spare + 1
  | .agg parts => uptoBulkAll parts + 1
  | .iface _ d => uptoBulk d + 1
  | .map entries => uptoBulkEntries entries + 1
  | .held _ => 1
def uptoBulkAll {H : Type} : List (DataW H) → Nat
  | [] => 0
  | d :: r => uptoBulk d + uptoBulkAll r
def uptoBulkEntries {H : Type} : List (Lit × DataW H) → Nat
  | [] => 0
  | x :: r => uptoBulkEntry x + uptoBulkEntries r
def uptoBulkEntry {H : Type} : Lit × DataW H → Nat
  | (.string bytes, d) => bytes.length + uptoBulk d + 1
  | (_, d) => uptoBulk d + 1
 end
def uptoSmall : (H : Type) → List (DataW H) → Bool := fun _ ds => decide (uptoBulkAll ds ≤ 1048576)
def OpenSpec.upto (s : _root_.Go.ChangeSpec) : _root_.Go.OpenSpec := { _root_.Go.OpenSpec.ofChange s with cond := some uptoSmall }

/-- 'leveelaw13.SiteMakes', WHERE WHAT IT READS IS OF BULK AT MOST 1048576: true; the input reads as it did. -/
def siteMakesUptoRow : OpenClaim := { program := "ytbkaemajjaiklaa", sum := "20d540f9a1bc69f051d6937b17ccc0feda857392ffb6b5f2b7794e324850a6d1", func := "levee/leveelaw13.SiteMakes", spec := "siteMakes", inPlace := ["maps.clone"], unfollowed := true, recurses := true, apart := false, narrowed := true }
def SiteMakesUptoSaid : Prop := siteMakesUptoRow.holds Try.pinned (OpenSpec.upto siteMakesSpec)

/-- 'leveelaw06.SlabRoom', WHERE WHAT IT READS IS OF BULK AT MOST 1048576: true; the input reads as it did. -/
def slabRoomUptoRow : OpenClaim := { program := "ytbkaemajjaiklaa", sum := "20d540f9a1bc69f051d6937b17ccc0feda857392ffb6b5f2b7794e324850a6d1", func := "levee/leveelaw06.SlabRoom", spec := "slabRoom", inPlace := ["maps.clone"], unfollowed := true, recurses := true, apart := false, narrowed := true }
def SlabRoomUptoSaid : Prop := slabRoomUptoRow.holds Try.pinned (OpenSpec.upto slabRoomSpec)

/-- 'leveelaw13.SiteDrops', WHERE WHAT IT READS IS OF BULK AT MOST 1048576: true; the input reads as it did. -/
def siteDropsUptoRow : OpenClaim := { program := "ytbkaemajjaiklaa", sum := "20d540f9a1bc69f051d6937b17ccc0feda857392ffb6b5f2b7794e324850a6d1", func := "levee/leveelaw13.SiteDrops", spec := "siteDrops", inPlace := ["maps.clone"], unfollowed := true, recurses := true, apart := false, narrowed := true }
def SiteDropsUptoSaid : Prop := siteDropsUptoRow.holds Try.pinned (OpenSpec.upto siteDropsSpec)

end Rows
end Go.Proofs.Ytbkaemajjaiklaa
