/-
  No cell of these rows narrows 'for every input' (looked for: loops, veiled, ifaces, maps, wideKeys, modest, calm, conditions, laid).
  DERIVED. THE GIVEN ROWS OF THIS SEAT. 6 by the template 'for every input the law returns true; each argument reads behind the call as it read before'; 0 by the template 'total and deterministic' (their statements: YtjmaicckkkdjpaaGreatTotals.lean).
  GIVEN WITH THE SEED: the statements are not yours to turn. If you find one false, say at which input.
  Laid BY PROGRAM, IN A SANDBOX (cutbox-rows.mjs): the forced cells as the released guide's own fill.sh prints them over the translation ba407f5428376fef… (all of the seat's roots in one cut). By AI agents, Wed Nov 11 2026. No macro, syntax, notation, axiom, sorry.
-/
import Derived.Test.YtjmaicckkkdjpaaGreatChecked
import GoSem.Claim
import GoSem.ClaimJoined
import GoSem.ClaimMapViews
import Derived.JoinedTies
import Derived.KernelRfl
namespace Go.Proofs.YtjmaicckkkdjpaaGreat
/- THE CELL 'sum', in the pinned program and in every row, IS THE sha256 OF THE DUMP (.gsa) THAT YtjmaicckkkdjpaaGreatProg.lean LOADS. Nothing in Lean hashes anything: it is a label: what it is worth is what the hold of that sum in a sandbox is worth. -/
noncomputable def Tryz.pinned : Pinned := { name := "ytjmaicckkkdjpaagreat", sum := "ba407f5428376fefb08f4215df4dd0d340620a28476fe503deb992ec438cb40e", checked := Tryz.checked }
namespace Rows
def none {H : Type} : Left H := { results := [], args := [] }

/-- 'leveelaw15.GetFinds': WHATEVER THE INPUT: true; the input reads as it did. -/
def getFindsSpec : ChangeSpec := { name := "getFinds", fn := fun _ => fun
  | [d1, d2, d3] => { results := [.lit (.bool true)], args := [d1, d2, d3] }
  | _ => none }
def getFindsRow : OpenClaim := { program := "ytjmaicckkkdjpaagreat", sum := "ba407f5428376fefb08f4215df4dd0d340620a28476fe503deb992ec438cb40e", func := "levee/leveelaw15.GetFinds", spec := "getFinds", unfollowed := true, recurses := true, apart := false }
def GetFindsSaid : Prop := getFindsRow.holds Tryz.pinned (OpenSpec.ofChange getFindsSpec)

/-- ITS FALSE NEIGHBOUR: 'it returns false'. Refute it at one input. -/
def getFindsWrong : ChangeSpec := { name := "getFinds", fn := fun _ => fun
  | [d1, d2, d3] => { results := [.lit (.bool false)], args := [d1, d2, d3] }
  | _ => none }
def GetFindsWrongFalsely : Prop := getFindsRow.holds Tryz.pinned (OpenSpec.ofChange getFindsWrong)

/-- 'leveelaw15.GetMany': WHATEVER THE INPUT: true; the input reads as it did. -/
def getManySpec : ChangeSpec := { name := "getMany", fn := fun _ => fun
  | [d1, d2, d3] => { results := [.lit (.bool true)], args := [d1, d2, d3] }
  | _ => none }
def getManyRow : OpenClaim := { program := "ytjmaicckkkdjpaagreat", sum := "ba407f5428376fefb08f4215df4dd0d340620a28476fe503deb992ec438cb40e", func := "levee/leveelaw15.GetMany", spec := "getMany", unfollowed := true, recurses := true, apart := false }
def GetManySaid : Prop := getManyRow.holds Tryz.pinned (OpenSpec.ofChange getManySpec)

/-- ITS FALSE NEIGHBOUR: 'it returns false'. Refute it at one input. -/
def getManyWrong : ChangeSpec := { name := "getMany", fn := fun _ => fun
  | [d1, d2, d3] => { results := [.lit (.bool false)], args := [d1, d2, d3] }
  | _ => none }
def GetManyWrongFalsely : Prop := getManyRow.holds Tryz.pinned (OpenSpec.ofChange getManyWrong)

/-- 'leveelaw15.GetSplit': WHATEVER THE INPUT: true; the input reads as it did. -/
def getSplitSpec : ChangeSpec := { name := "getSplit", fn := fun _ => fun
  | [d1, d2] => { results := [.lit (.bool true)], args := [d1, d2] }
  | _ => none }
def getSplitRow : OpenClaim := { program := "ytjmaicckkkdjpaagreat", sum := "ba407f5428376fefb08f4215df4dd0d340620a28476fe503deb992ec438cb40e", func := "levee/leveelaw15.GetSplit", spec := "getSplit", inPlace := ["maps.clone"], unfollowed := true, recurses := true, apart := false }
def GetSplitSaid : Prop := getSplitRow.holds Tryz.pinned (OpenSpec.ofChange getSplitSpec)

/-- ITS FALSE NEIGHBOUR: 'it returns false'. Refute it at one input. -/
def getSplitWrong : ChangeSpec := { name := "getSplit", fn := fun _ => fun
  | [d1, d2] => { results := [.lit (.bool false)], args := [d1, d2] }
  | _ => none }
def GetSplitWrongFalsely : Prop := getSplitRow.holds Tryz.pinned (OpenSpec.ofChange getSplitWrong)

/-- 'leveelaw21.ScanPieces': WHATEVER THE INPUT: true; the input reads as it did. -/
def scanPiecesSpec : ChangeSpec := { name := "scanPieces", fn := fun _ => fun
  | [d1, d2, d3] => { results := [.lit (.bool true)], args := [d1, d2, d3] }
  | _ => none }
def scanPiecesRow : OpenClaim := { program := "ytjmaicckkkdjpaagreat", sum := "ba407f5428376fefb08f4215df4dd0d340620a28476fe503deb992ec438cb40e", func := "levee/leveelaw21.ScanPieces", spec := "scanPieces", unfollowed := true, recurses := true, apart := false }
def ScanPiecesSaid : Prop := scanPiecesRow.holds Tryz.pinned (OpenSpec.ofChange scanPiecesSpec)

/-- ITS FALSE NEIGHBOUR: 'it returns false'. Refute it at one input. -/
def scanPiecesWrong : ChangeSpec := { name := "scanPieces", fn := fun _ => fun
  | [d1, d2, d3] => { results := [.lit (.bool false)], args := [d1, d2, d3] }
  | _ => none }
def ScanPiecesWrongFalsely : Prop := scanPiecesRow.holds Tryz.pinned (OpenSpec.ofChange scanPiecesWrong)

/-- 'leveelaw21.ScanOwn': WHATEVER THE INPUT: true; the input reads as it did. -/
def scanOwnSpec : ChangeSpec := { name := "scanOwn", fn := fun _ => fun
  | [d] => { results := [.lit (.bool true)], args := [d] }
  | _ => none }
def scanOwnRow : OpenClaim := { program := "ytjmaicckkkdjpaagreat", sum := "ba407f5428376fefb08f4215df4dd0d340620a28476fe503deb992ec438cb40e", func := "levee/leveelaw21.ScanOwn", spec := "scanOwn", unfollowed := true, recurses := true, apart := false }
def ScanOwnSaid : Prop := scanOwnRow.holds Tryz.pinned (OpenSpec.ofChange scanOwnSpec)

/-- ITS FALSE NEIGHBOUR: 'it returns false'. Refute it at one input. -/
def scanOwnWrong : ChangeSpec := { name := "scanOwn", fn := fun _ => fun
  | [d] => { results := [.lit (.bool false)], args := [d] }
  | _ => none }
def ScanOwnWrongFalsely : Prop := scanOwnRow.holds Tryz.pinned (OpenSpec.ofChange scanOwnWrong)

/-- 'leveelaw21.ScanFinds': WHATEVER THE INPUT: true; the input reads as it did. -/
def scanFindsSpec : ChangeSpec := { name := "scanFinds", fn := fun _ => fun
  | [d1, d2, d3, d4] => { results := [.lit (.bool true)], args := [d1, d2, d3, d4] }
  | _ => none }
def scanFindsRow : OpenClaim := { program := "ytjmaicckkkdjpaagreat", sum := "ba407f5428376fefb08f4215df4dd0d340620a28476fe503deb992ec438cb40e", func := "levee/leveelaw21.ScanFinds", spec := "scanFinds", unfollowed := true, recurses := true, apart := false }
def ScanFindsSaid : Prop := scanFindsRow.holds Tryz.pinned (OpenSpec.ofChange scanFindsSpec)

/-- ITS FALSE NEIGHBOUR: 'it returns false'. Refute it at one input. -/
def scanFindsWrong : ChangeSpec := { name := "scanFinds", fn := fun _ => fun
  | [d1, d2, d3, d4] => { results := [.lit (.bool false)], args := [d1, d2, d3, d4] }
  | _ => none }
def ScanFindsWrongFalsely : Prop := scanFindsRow.holds Tryz.pinned (OpenSpec.ofChange scanFindsWrong)

/- THE SECOND FORM. 'bulk': how many values and letters a reading holds, each counted each time it is reached (what is shared counts as often as it is met; a slice's spare places count too). A statement '..UptoSaid' is the law's where the arguments, and the package variables that the reading takes, are together of bulk at most 1048576: NARROWER than '..Said'. Prove '..Said' where nothing that the law and all that it calls make is longer than what came in: it says more and counts as full. Else prove '..UptoSaid'. A law counts once. -/
mutual
def uptoBulk {H : Type} : DataW H → Nat
  | .lit (.string bytes) => bytes.length + 1
  | .lit _ => 1
  | .nil => 1
  | .ptr d => uptoBulk d + 1
  | .slice elems spare => uptoBulkAll elems + uptoBulkAll spare + 1
  | .agg parts => uptoBulkAll parts + 1
  | .iface _ d => uptoBulk d + 1
  | .map entries => uptoBulkEntries entries + 1
  | .held _ => 1
def uptoBulkAll {H : Type} : List (DataW H) → Nat
  | [] => 0
  | d :: r => uptoBulk d + uptoBulkAll r
def uptoBulkEntries {H : Type} : List (Lit × DataW H) → Nat
  | [] => 0
  | x :: r => uptoBulkEntry x + uptoBulkEntries r
def uptoBulkEntry {H : Type} : Lit × DataW H → Nat
  | (.string bytes, d) => bytes.length + uptoBulk d + 1
  | (_, d) => uptoBulk d + 1
 end
def uptoSmall : (H : Type) → List (DataW H) → Bool := fun _ ds => decide (uptoBulkAll ds ≤ 1048576)
def OpenSpec.upto (s : _root_.Go.ChangeSpec) : _root_.Go.OpenSpec := { _root_.Go.OpenSpec.ofChange s with cond := some uptoSmall }

/-- 'leveelaw15.GetFinds', WHERE WHAT IT READS IS OF BULK AT MOST 1048576: true; the input reads as it did. -/
def getFindsUptoRow : OpenClaim := { program := "ytjmaicckkkdjpaagreat", sum := "ba407f5428376fefb08f4215df4dd0d340620a28476fe503deb992ec438cb40e", func := "levee/leveelaw15.GetFinds", spec := "getFinds", unfollowed := true, recurses := true, apart := false, narrowed := true }
def GetFindsUptoSaid : Prop := getFindsUptoRow.holds Tryz.pinned (OpenSpec.upto getFindsSpec)

/-- 'leveelaw15.GetMany', WHERE WHAT IT READS IS OF BULK AT MOST 1048576: true; the input reads as it did. -/
def getManyUptoRow : OpenClaim := { program := "ytjmaicckkkdjpaagreat", sum := "ba407f5428376fefb08f4215df4dd0d340620a28476fe503deb992ec438cb40e", func := "levee/leveelaw15.GetMany", spec := "getMany", unfollowed := true, recurses := true, apart := false, narrowed := true }
def GetManyUptoSaid : Prop := getManyUptoRow.holds Tryz.pinned (OpenSpec.upto getManySpec)

/-- 'leveelaw15.GetSplit', WHERE WHAT IT READS IS OF BULK AT MOST 1048576: true; the input reads as it did. -/
def getSplitUptoRow : OpenClaim := { program := "ytjmaicckkkdjpaagreat", sum := "ba407f5428376fefb08f4215df4dd0d340620a28476fe503deb992ec438cb40e", func := "levee/leveelaw15.GetSplit", spec := "getSplit", inPlace := ["maps.clone"], unfollowed := true, recurses := true, apart := false, narrowed := true }
def GetSplitUptoSaid : Prop := getSplitUptoRow.holds Tryz.pinned (OpenSpec.upto getSplitSpec)

/-- 'leveelaw21.ScanPieces', WHERE WHAT IT READS IS OF BULK AT MOST 1048576: true; the input reads as it did. -/
def scanPiecesUptoRow : OpenClaim := { program := "ytjmaicckkkdjpaagreat", sum := "ba407f5428376fefb08f4215df4dd0d340620a28476fe503deb992ec438cb40e", func := "levee/leveelaw21.ScanPieces", spec := "scanPieces", unfollowed := true, recurses := true, apart := false, narrowed := true }
def ScanPiecesUptoSaid : Prop := scanPiecesUptoRow.holds Tryz.pinned (OpenSpec.upto scanPiecesSpec)

/-- 'leveelaw21.ScanOwn', WHERE WHAT IT READS IS OF BULK AT MOST 1048576: true; the input reads as it did. -/
def scanOwnUptoRow : OpenClaim := { program := "ytjmaicckkkdjpaagreat", sum := "ba407f5428376fefb08f4215df4dd0d340620a28476fe503deb992ec438cb40e", func := "levee/leveelaw21.ScanOwn", spec := "scanOwn", unfollowed := true, recurses := true, apart := false, narrowed := true }
def ScanOwnUptoSaid : Prop := scanOwnUptoRow.holds Tryz.pinned (OpenSpec.upto scanOwnSpec)

/-- 'leveelaw21.ScanFinds', WHERE WHAT IT READS IS OF BULK AT MOST 1048576: true; the input reads as it did. -/
def scanFindsUptoRow : OpenClaim := { program := "ytjmaicckkkdjpaagreat", sum := "ba407f5428376fefb08f4215df4dd0d340620a28476fe503deb992ec438cb40e", func := "levee/leveelaw21.ScanFinds", spec := "scanFinds", unfollowed := true, recurses := true, apart := false, narrowed := true }
def ScanFindsUptoSaid : Prop := scanFindsUptoRow.holds Tryz.pinned (OpenSpec.upto scanFindsSpec)

end Rows
end Go.Proofs.YtjmaicckkkdjpaaGreat
