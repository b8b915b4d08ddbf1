/-
  No cell of these rows narrows 'for every input' (looked for: loops, veiled, ifaces, maps, wideKeys, modest, calm, conditions, laid).
  DERIVED. THE GIVEN ROWS OF THIS SEAT. 12 by the template 'for every input the law returns true; each argument reads behind the call as it read before'; 0 by the template 'total and deterministic' (their statements: YtnonldbnnjdifaaTotals.lean).
  GIVEN WITH THE SEED: the statements are not yours to turn. If you find one false, say at which input.
  Laid BY PROGRAM, IN A SANDBOX (cutbox-rows.mjs): the forced cells as the released guide's own fill.sh prints them over the translation a1f8b0a74db5a158… (all of the seat's roots in one cut). By AI agents, Wed Nov 11 2026. No macro, syntax, notation, axiom, sorry.
-/
import Derived.Test.YtnonldbnnjdifaaChecked
import GoSem.Claim
import GoSem.ClaimJoined
import GoSem.ClaimMapViews
import Derived.JoinedTies
import Derived.KernelRfl
namespace Go.Proofs.Ytnonldbnnjdifaa
/- THE CELL 'sum', in the pinned program and in every row, IS THE sha256 OF THE DUMP (.gsa) THAT YtnonldbnnjdifaaProg.lean LOADS. Nothing in Lean hashes anything: it is a label: what it is worth is what the hold of that sum in a sandbox is worth. -/
noncomputable def Try.pinned : Pinned := { name := "ytnonldbnnjdifaa", sum := "a1f8b0a74db5a15897ed355c5d09db3ec8c4b110c1a36cff1814d52f87d10574", checked := Try.checked }
namespace Rows
def none {H : Type} : Left H := { results := [], args := [] }

/-- 'leveelaw03.GeoSizes': WHATEVER THE INPUT: true; the input reads as it did. -/
def geoSizesSpec : ChangeSpec := { name := "geoSizes", fn := fun _ => fun
  | [d1, d2, d3, d4] => { results := [.lit (.bool true)], args := [d1, d2, d3, d4] }
  | _ => none }
def geoSizesRow : OpenClaim := { program := "ytnonldbnnjdifaa", sum := "a1f8b0a74db5a15897ed355c5d09db3ec8c4b110c1a36cff1814d52f87d10574", func := "levee/leveelaw03.GeoSizes", spec := "geoSizes", unfollowed := true, recurses := true, apart := false }
def GeoSizesSaid : Prop := geoSizesRow.holds Try.pinned (OpenSpec.ofChange geoSizesSpec)

/-- ITS FALSE NEIGHBOUR: 'it returns false'. Refute it at one input. -/
def geoSizesWrong : ChangeSpec := { name := "geoSizes", fn := fun _ => fun
  | [d1, d2, d3, d4] => { results := [.lit (.bool false)], args := [d1, d2, d3, d4] }
  | _ => none }
def GeoSizesWrongFalsely : Prop := geoSizesRow.holds Try.pinned (OpenSpec.ofChange geoSizesWrong)

/-- 'leveelaw03.GeoApart': WHATEVER THE INPUT: true; the input reads as it did. -/
def geoApartSpec : ChangeSpec := { name := "geoApart", fn := fun _ => fun
  | [d1, d2, d3, d4, d5, d6] => { results := [.lit (.bool true)], args := [d1, d2, d3, d4, d5, d6] }
  | _ => none }
def geoApartRow : OpenClaim := { program := "ytnonldbnnjdifaa", sum := "a1f8b0a74db5a15897ed355c5d09db3ec8c4b110c1a36cff1814d52f87d10574", func := "levee/leveelaw03.GeoApart", spec := "geoApart", unfollowed := true, recurses := true, apart := false }
def GeoApartSaid : Prop := geoApartRow.holds Try.pinned (OpenSpec.ofChange geoApartSpec)

/-- ITS FALSE NEIGHBOUR: 'it returns false'. Refute it at one input. -/
def geoApartWrong : ChangeSpec := { name := "geoApart", fn := fun _ => fun
  | [d1, d2, d3, d4, d5, d6] => { results := [.lit (.bool false)], args := [d1, d2, d3, d4, d5, d6] }
  | _ => none }
def GeoApartWrongFalsely : Prop := geoApartRow.holds Try.pinned (OpenSpec.ofChange geoApartWrong)

/-- 'leveelaw03.GeoNodes': WHATEVER THE INPUT: true; the input reads as it did. -/
def geoNodesSpec : ChangeSpec := { name := "geoNodes", fn := fun _ => fun
  | [d1, d2] => { results := [.lit (.bool true)], args := [d1, d2] }
  | _ => none }
def geoNodesRow : OpenClaim := { program := "ytnonldbnnjdifaa", sum := "a1f8b0a74db5a15897ed355c5d09db3ec8c4b110c1a36cff1814d52f87d10574", func := "levee/leveelaw03.GeoNodes", spec := "geoNodes", unfollowed := true, recurses := true, apart := false }
def GeoNodesSaid : Prop := geoNodesRow.holds Try.pinned (OpenSpec.ofChange geoNodesSpec)

/-- ITS FALSE NEIGHBOUR: 'it returns false'. Refute it at one input. -/
def geoNodesWrong : ChangeSpec := { name := "geoNodes", fn := fun _ => fun
  | [d1, d2] => { results := [.lit (.bool false)], args := [d1, d2] }
  | _ => none }
def GeoNodesWrongFalsely : Prop := geoNodesRow.holds Try.pinned (OpenSpec.ofChange geoNodesWrong)

/-- 'leveelaw03.GeoWhole': WHATEVER THE INPUT: true; the input reads as it did. -/
def geoWholeSpec : ChangeSpec := { name := "geoWhole", fn := fun _ => fun
  | [] => { results := [.lit (.bool true)], args := [] }
  | _ => none }
def geoWholeRow : OpenClaim := { program := "ytnonldbnnjdifaa", sum := "a1f8b0a74db5a15897ed355c5d09db3ec8c4b110c1a36cff1814d52f87d10574", func := "levee/leveelaw03.GeoWhole", spec := "geoWhole", unfollowed := true, recurses := true, apart := false }
def GeoWholeSaid : Prop := geoWholeRow.holds Try.pinned (OpenSpec.ofChange geoWholeSpec)

/-- ITS FALSE NEIGHBOUR: 'it returns false'. Refute it at one input. -/
def geoWholeWrong : ChangeSpec := { name := "geoWhole", fn := fun _ => fun
  | [] => { results := [.lit (.bool false)], args := [] }
  | _ => none }
def GeoWholeWrongFalsely : Prop := geoWholeRow.holds Try.pinned (OpenSpec.ofChange geoWholeWrong)

/-- 'leveelaw03.GeoFinds': WHATEVER THE INPUT: true; the input reads as it did. -/
def geoFindsSpec : ChangeSpec := { name := "geoFinds", fn := fun _ => fun
  | [d1, d2] => { results := [.lit (.bool true)], args := [d1, d2] }
  | _ => none }
def geoFindsRow : OpenClaim := { program := "ytnonldbnnjdifaa", sum := "a1f8b0a74db5a15897ed355c5d09db3ec8c4b110c1a36cff1814d52f87d10574", func := "levee/leveelaw03.GeoFinds", spec := "geoFinds", unfollowed := true, recurses := true, apart := false }
def GeoFindsSaid : Prop := geoFindsRow.holds Try.pinned (OpenSpec.ofChange geoFindsSpec)

/-- ITS FALSE NEIGHBOUR: 'it returns false'. Refute it at one input. -/
def geoFindsWrong : ChangeSpec := { name := "geoFinds", fn := fun _ => fun
  | [d1, d2] => { results := [.lit (.bool false)], args := [d1, d2] }
  | _ => none }
def GeoFindsWrongFalsely : Prop := geoFindsRow.holds Try.pinned (OpenSpec.ofChange geoFindsWrong)

/-- 'leveelaw03.GeoBlocks': WHATEVER THE INPUT: true; the input reads as it did. -/
def geoBlocksSpec : ChangeSpec := { name := "geoBlocks", fn := fun _ => fun
  | [d1, d2, d3] => { results := [.lit (.bool true)], args := [d1, d2, d3] }
  | _ => none }
def geoBlocksRow : OpenClaim := { program := "ytnonldbnnjdifaa", sum := "a1f8b0a74db5a15897ed355c5d09db3ec8c4b110c1a36cff1814d52f87d10574", func := "levee/leveelaw03.GeoBlocks", spec := "geoBlocks", unfollowed := true, recurses := true, apart := false }
def GeoBlocksSaid : Prop := geoBlocksRow.holds Try.pinned (OpenSpec.ofChange geoBlocksSpec)

/-- ITS FALSE NEIGHBOUR: 'it returns false'. Refute it at one input. -/
def geoBlocksWrong : ChangeSpec := { name := "geoBlocks", fn := fun _ => fun
  | [d1, d2, d3] => { results := [.lit (.bool false)], args := [d1, d2, d3] }
  | _ => none }
def GeoBlocksWrongFalsely : Prop := geoBlocksRow.holds Try.pinned (OpenSpec.ofChange geoBlocksWrong)

/-- 'leveelaw04.SuperMakes': WHATEVER THE INPUT: true; the input reads as it did. -/
def superMakesSpec : ChangeSpec := { name := "superMakes", fn := fun _ => fun
  | [d1, d2, d3] => { results := [.lit (.bool true)], args := [d1, d2, d3] }
  | _ => none }
def superMakesRow : OpenClaim := { program := "ytnonldbnnjdifaa", sum := "a1f8b0a74db5a15897ed355c5d09db3ec8c4b110c1a36cff1814d52f87d10574", func := "levee/leveelaw04.SuperMakes", spec := "superMakes", unfollowed := true, recurses := true, apart := false }
def SuperMakesSaid : Prop := superMakesRow.holds Try.pinned (OpenSpec.ofChange superMakesSpec)

/-- ITS FALSE NEIGHBOUR: 'it returns false'. Refute it at one input. -/
def superMakesWrong : ChangeSpec := { name := "superMakes", fn := fun _ => fun
  | [d1, d2, d3] => { results := [.lit (.bool false)], args := [d1, d2, d3] }
  | _ => none }
def SuperMakesWrongFalsely : Prop := superMakesRow.holds Try.pinned (OpenSpec.ofChange superMakesWrong)

/-- 'leveelaw04.SuperMay': WHATEVER THE INPUT: true; the input reads as it did. -/
def superMaySpec : ChangeSpec := { name := "superMay", fn := fun _ => fun
  | [d1, d2] => { results := [.lit (.bool true)], args := [d1, d2] }
  | _ => none }
def superMayRow : OpenClaim := { program := "ytnonldbnnjdifaa", sum := "a1f8b0a74db5a15897ed355c5d09db3ec8c4b110c1a36cff1814d52f87d10574", func := "levee/leveelaw04.SuperMay", spec := "superMay", unfollowed := true, recurses := true, apart := false }
def SuperMaySaid : Prop := superMayRow.holds Try.pinned (OpenSpec.ofChange superMaySpec)

/-- ITS FALSE NEIGHBOUR: 'it returns false'. Refute it at one input. -/
def superMayWrong : ChangeSpec := { name := "superMay", fn := fun _ => fun
  | [d1, d2] => { results := [.lit (.bool false)], args := [d1, d2] }
  | _ => none }
def SuperMayWrongFalsely : Prop := superMayRow.holds Try.pinned (OpenSpec.ofChange superMayWrong)

/-- 'leveelaw04.SuperPlaces': WHATEVER THE INPUT: true; the input reads as it did. -/
def superPlacesSpec : ChangeSpec := { name := "superPlaces", fn := fun _ => fun
  | [d1, d2] => { results := [.lit (.bool true)], args := [d1, d2] }
  | _ => none }
def superPlacesRow : OpenClaim := { program := "ytnonldbnnjdifaa", sum := "a1f8b0a74db5a15897ed355c5d09db3ec8c4b110c1a36cff1814d52f87d10574", func := "levee/leveelaw04.SuperPlaces", spec := "superPlaces", unfollowed := true, recurses := true, apart := false }
def SuperPlacesSaid : Prop := superPlacesRow.holds Try.pinned (OpenSpec.ofChange superPlacesSpec)

/-- ITS FALSE NEIGHBOUR: 'it returns false'. Refute it at one input. -/
def superPlacesWrong : ChangeSpec := { name := "superPlaces", fn := fun _ => fun
  | [d1, d2] => { results := [.lit (.bool false)], args := [d1, d2] }
  | _ => none }
def SuperPlacesWrongFalsely : Prop := superPlacesRow.holds Try.pinned (OpenSpec.ofChange superPlacesWrong)

/-- 'leveelaw04.SuperWords': WHATEVER THE INPUT: true; the input reads as it did. -/
def superWordsSpec : ChangeSpec := { name := "superWords", fn := fun _ => fun
  | [d] => { results := [.lit (.bool true)], args := [d] }
  | _ => none }
def superWordsRow : OpenClaim := { program := "ytnonldbnnjdifaa", sum := "a1f8b0a74db5a15897ed355c5d09db3ec8c4b110c1a36cff1814d52f87d10574", func := "levee/leveelaw04.SuperWords", spec := "superWords", unfollowed := true, recurses := true, apart := false }
def SuperWordsSaid : Prop := superWordsRow.holds Try.pinned (OpenSpec.ofChange superWordsSpec)

/-- ITS FALSE NEIGHBOUR: 'it returns false'. Refute it at one input. -/
def superWordsWrong : ChangeSpec := { name := "superWords", fn := fun _ => fun
  | [d] => { results := [.lit (.bool false)], args := [d] }
  | _ => none }
def SuperWordsWrongFalsely : Prop := superWordsRow.holds Try.pinned (OpenSpec.ofChange superWordsWrong)

/-- 'leveelaw04.SuperReads': WHATEVER THE INPUT: true; the input reads as it did. -/
def superReadsSpec : ChangeSpec := { name := "superReads", fn := fun _ => fun
  | [d] => { results := [.lit (.bool true)], args := [d] }
  | _ => none }
def superReadsRow : OpenClaim := { program := "ytnonldbnnjdifaa", sum := "a1f8b0a74db5a15897ed355c5d09db3ec8c4b110c1a36cff1814d52f87d10574", func := "levee/leveelaw04.SuperReads", spec := "superReads", unfollowed := true, recurses := true, apart := false }
def SuperReadsSaid : Prop := superReadsRow.holds Try.pinned (OpenSpec.ofChange superReadsSpec)

/-- ITS FALSE NEIGHBOUR: 'it returns false'. Refute it at one input. -/
def superReadsWrong : ChangeSpec := { name := "superReads", fn := fun _ => fun
  | [d] => { results := [.lit (.bool false)], args := [d] }
  | _ => none }
def SuperReadsWrongFalsely : Prop := superReadsRow.holds Try.pinned (OpenSpec.ofChange superReadsWrong)

/-- 'leveelaw04.SuperBits': WHATEVER THE INPUT: true; the input reads as it did. -/
def superBitsSpec : ChangeSpec := { name := "superBits", fn := fun _ => fun
  | [d1, d2, d3] => { results := [.lit (.bool true)], args := [d1, d2, d3] }
  | _ => none }
def superBitsRow : OpenClaim := { program := "ytnonldbnnjdifaa", sum := "a1f8b0a74db5a15897ed355c5d09db3ec8c4b110c1a36cff1814d52f87d10574", func := "levee/leveelaw04.SuperBits", spec := "superBits", unfollowed := true, recurses := true, apart := false }
def SuperBitsSaid : Prop := superBitsRow.holds Try.pinned (OpenSpec.ofChange superBitsSpec)

/-- ITS FALSE NEIGHBOUR: 'it returns false'. Refute it at one input. -/
def superBitsWrong : ChangeSpec := { name := "superBits", fn := fun _ => fun
  | [d1, d2, d3] => { results := [.lit (.bool false)], args := [d1, d2, d3] }
  | _ => none }
def SuperBitsWrongFalsely : Prop := superBitsRow.holds Try.pinned (OpenSpec.ofChange superBitsWrong)

/- THE SECOND FORM. 'bulk': how many values and letters a reading holds, each counted each time it is reached (what is shared counts as often as it is met; a slice's spare places count too). A statement '..UptoSaid' is the law's where the arguments, and the package variables that the reading takes, are together of bulk at most 1048576: NARROWER than '..Said'. Prove '..Said' where nothing that the law and all that it calls make is longer than what came in: it says more and counts as full. Else prove '..UptoSaid'. A law counts once. -/
mutual
def uptoBulk {H : Type} : DataW H → Nat
  | .lit (.string bytes) => bytes.length + 1
  | .lit _ => 1
  | .nil => 1
  | .ptr d => uptoBulk d + 1
  | .slice elems spare => uptoBulkAll elems + uptoBulkAll spare + 1
  | .agg parts => uptoBulkAll parts + 1
  | .iface _ d => uptoBulk d + 1
  | .map entries => uptoBulkEntries entries + 1
  | .held _ => 1
def uptoBulkAll {H : Type} : List (DataW H) → Nat
  | [] => 0
  | d :: r => uptoBulk d + uptoBulkAll r
def uptoBulkEntries {H : Type} : List (Lit × DataW H) → Nat
  | [] => 0
  | x :: r => uptoBulkEntry x + uptoBulkEntries r
def uptoBulkEntry {H : Type} : Lit × DataW H → Nat
  | (.string bytes, d) => bytes.length + uptoBulk d + 1
  | (_, d) => uptoBulk d + 1
 end
def uptoSmall : (H : Type) → List (DataW H) → Bool := fun _ ds => decide (uptoBulkAll ds ≤ 1048576)
def OpenSpec.upto (s : _root_.Go.ChangeSpec) : _root_.Go.OpenSpec := { _root_.Go.OpenSpec.ofChange s with cond := some uptoSmall }

/-- 'leveelaw03.GeoSizes', WHERE WHAT IT READS IS OF BULK AT MOST 1048576: true; the input reads as it did. -/
def geoSizesUptoRow : OpenClaim := { program := "ytnonldbnnjdifaa", sum := "a1f8b0a74db5a15897ed355c5d09db3ec8c4b110c1a36cff1814d52f87d10574", func := "levee/leveelaw03.GeoSizes", spec := "geoSizes", unfollowed := true, recurses := true, apart := false, narrowed := true }
def GeoSizesUptoSaid : Prop := geoSizesUptoRow.holds Try.pinned (OpenSpec.upto geoSizesSpec)

/-- 'leveelaw03.GeoApart', WHERE WHAT IT READS IS OF BULK AT MOST 1048576: true; the input reads as it did. -/
def geoApartUptoRow : OpenClaim := { program := "ytnonldbnnjdifaa", sum := "a1f8b0a74db5a15897ed355c5d09db3ec8c4b110c1a36cff1814d52f87d10574", func := "levee/leveelaw03.GeoApart", spec := "geoApart", unfollowed := true, recurses := true, apart := false, narrowed := true }
def GeoApartUptoSaid : Prop := geoApartUptoRow.holds Try.pinned (OpenSpec.upto geoApartSpec)

/-- 'leveelaw03.GeoNodes', WHERE WHAT IT READS IS OF BULK AT MOST 1048576: true; the input reads as it did. -/
def geoNodesUptoRow : OpenClaim := { program := "ytnonldbnnjdifaa", sum := "a1f8b0a74db5a15897ed355c5d09db3ec8c4b110c1a36cff1814d52f87d10574", func := "levee/leveelaw03.GeoNodes", spec := "geoNodes", unfollowed := true, recurses := true, apart := false, narrowed := true }
def GeoNodesUptoSaid : Prop := geoNodesUptoRow.holds Try.pinned (OpenSpec.upto geoNodesSpec)

/-- 'leveelaw03.GeoWhole', WHERE WHAT IT READS IS OF BULK AT MOST 1048576: true; the input reads as it did. -/
def geoWholeUptoRow : OpenClaim := { program := "ytnonldbnnjdifaa", sum := "a1f8b0a74db5a15897ed355c5d09db3ec8c4b110c1a36cff1814d52f87d10574", func := "levee/leveelaw03.GeoWhole", spec := "geoWhole", unfollowed := true, recurses := true, apart := false, narrowed := true }
def GeoWholeUptoSaid : Prop := geoWholeUptoRow.holds Try.pinned (OpenSpec.upto geoWholeSpec)

/-- 'leveelaw03.GeoFinds', WHERE WHAT IT READS IS OF BULK AT MOST 1048576: true; the input reads as it did. -/
def geoFindsUptoRow : OpenClaim := { program := "ytnonldbnnjdifaa", sum := "a1f8b0a74db5a15897ed355c5d09db3ec8c4b110c1a36cff1814d52f87d10574", func := "levee/leveelaw03.GeoFinds", spec := "geoFinds", unfollowed := true, recurses := true, apart := false, narrowed := true }
def GeoFindsUptoSaid : Prop := geoFindsUptoRow.holds Try.pinned (OpenSpec.upto geoFindsSpec)

/-- 'leveelaw03.GeoBlocks', WHERE WHAT IT READS IS OF BULK AT MOST 1048576: true; the input reads as it did. -/
def geoBlocksUptoRow : OpenClaim := { program := "ytnonldbnnjdifaa", sum := "a1f8b0a74db5a15897ed355c5d09db3ec8c4b110c1a36cff1814d52f87d10574", func := "levee/leveelaw03.GeoBlocks", spec := "geoBlocks", unfollowed := true, recurses := true, apart := false, narrowed := true }
def GeoBlocksUptoSaid : Prop := geoBlocksUptoRow.holds Try.pinned (OpenSpec.upto geoBlocksSpec)

/-- 'leveelaw04.SuperMakes', WHERE WHAT IT READS IS OF BULK AT MOST 1048576: true; the input reads as it did. -/
def superMakesUptoRow : OpenClaim := { program := "ytnonldbnnjdifaa", sum := "a1f8b0a74db5a15897ed355c5d09db3ec8c4b110c1a36cff1814d52f87d10574", func := "levee/leveelaw04.SuperMakes", spec := "superMakes", unfollowed := true, recurses := true, apart := false, narrowed := true }
def SuperMakesUptoSaid : Prop := superMakesUptoRow.holds Try.pinned (OpenSpec.upto superMakesSpec)

/-- 'leveelaw04.SuperMay', WHERE WHAT IT READS IS OF BULK AT MOST 1048576: true; the input reads as it did. -/
def superMayUptoRow : OpenClaim := { program := "ytnonldbnnjdifaa", sum := "a1f8b0a74db5a15897ed355c5d09db3ec8c4b110c1a36cff1814d52f87d10574", func := "levee/leveelaw04.SuperMay", spec := "superMay", unfollowed := true, recurses := true, apart := false, narrowed := true }
def SuperMayUptoSaid : Prop := superMayUptoRow.holds Try.pinned (OpenSpec.upto superMaySpec)

/-- 'leveelaw04.SuperPlaces', WHERE WHAT IT READS IS OF BULK AT MOST 1048576: true; the input reads as it did. -/
def superPlacesUptoRow : OpenClaim := { program := "ytnonldbnnjdifaa", sum := "a1f8b0a74db5a15897ed355c5d09db3ec8c4b110c1a36cff1814d52f87d10574", func := "levee/leveelaw04.SuperPlaces", spec := "superPlaces", unfollowed := true, recurses := true, apart := false, narrowed := true }
def SuperPlacesUptoSaid : Prop := superPlacesUptoRow.holds Try.pinned (OpenSpec.upto superPlacesSpec)

/-- 'leveelaw04.SuperWords', WHERE WHAT IT READS IS OF BULK AT MOST 1048576: true; the input reads as it did. -/
def superWordsUptoRow : OpenClaim := { program := "ytnonldbnnjdifaa", sum := "a1f8b0a74db5a15897ed355c5d09db3ec8c4b110c1a36cff1814d52f87d10574", func := "levee/leveelaw04.SuperWords", spec := "superWords", unfollowed := true, recurses := true, apart := false, narrowed := true }
def SuperWordsUptoSaid : Prop := superWordsUptoRow.holds Try.pinned (OpenSpec.upto superWordsSpec)

/-- 'leveelaw04.SuperReads', WHERE WHAT IT READS IS OF BULK AT MOST 1048576: true; the input reads as it did. -/
def superReadsUptoRow : OpenClaim := { program := "ytnonldbnnjdifaa", sum := "a1f8b0a74db5a15897ed355c5d09db3ec8c4b110c1a36cff1814d52f87d10574", func := "levee/leveelaw04.SuperReads", spec := "superReads", unfollowed := true, recurses := true, apart := false, narrowed := true }
def SuperReadsUptoSaid : Prop := superReadsUptoRow.holds Try.pinned (OpenSpec.upto superReadsSpec)

/-- 'leveelaw04.SuperBits', WHERE WHAT IT READS IS OF BULK AT MOST 1048576: true; the input reads as it did. -/
def superBitsUptoRow : OpenClaim := { program := "ytnonldbnnjdifaa", sum := "a1f8b0a74db5a15897ed355c5d09db3ec8c4b110c1a36cff1814d52f87d10574", func := "levee/leveelaw04.SuperBits", spec := "superBits", unfollowed := true, recurses := true, apart := false, narrowed := true }
def SuperBitsUptoSaid : Prop := superBitsUptoRow.holds Try.pinned (OpenSpec.upto superBitsSpec)

end Rows
end Go.Proofs.Ytnonldbnnjdifaa
