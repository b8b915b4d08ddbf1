/- How a slice of numbers is opened; SlabMixed as it is called. -/
import Derived.Test.YtbkaemajjaiklaaGreatOpensI
import Derived.Test.YtbkaemajjaiklaaGreatLawMx
namespace Go.Proofs.YtbkaemajjaiklaaGreat
open Go.ChangeShapes Go.WideShapes Go.ChangeAt Go.RowKit Go.Joins Go.Deep
set_option linter.unusedVariables false
set_option linter.unusedSimpArgs false

set_option maxRecDepth 100000 in
theorem open_intsI {H : Type} {enc : TypeId × Value → H} {w : World} {base : Nat} {spare : Nat → Bool} {held : Bool} {r : Reach} {b0 : Nat} {v : Value} {d : DataW H} {p : List MemPlace} (hv : Value.okWide Tryz.prog w r b0 47 v) (h : DataW.Trod enc Tryz.prog w base spare held 47 v d p) :
    ∃ xs : List Int, IntsAt .i64 w v xs ∧ xs.length ≤ 9223372036854775807 := open_nums Tryz.underlying47 Tryz.underlying3 (by kernel_rfl) hv h
theorem IntsAt.most {w : World} {v : Value} {xs : List Int} (h : IntsAt .i64 w v xs) : ∀ x ∈ xs, -9223372036854775808 ≤ x ∧ x ≤ 9223372036854775807 := fun x hx => bounds_i64 (h.le x hx)
theorem SlabMixed_l (cls used : Int) (v : Value) (xs : List Int) (w : World) (c0 : -9223372036854775808 ≤ cls) (c1 : cls ≤ 9223372036854775807) (u0 : 0 ≤ used) (u1 : used ≤ 18446744073709551615) (h : IntsAt .i64 w v xs) (_ : xs.length ≤ 9223372036854775807) :
    Calls Tryz.prog 5 #[.int .i64 cls, .int .u64 used, v] w fun e w' => e = .returned (.bool true) ∧ Below w.heap.size w w' := SlabMixed_z cls used v xs w ⟨c0, c1⟩ ⟨u0, u1⟩ h.nums (fun x hx => (h.most x hx).2)
end Go.Proofs.YtbkaemajjaiklaaGreat
