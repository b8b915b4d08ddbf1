/- A slice of numbers that was handed in. -/
import Derived.Test.YtbkaemajjaiklaaRow
namespace Go.Proofs.Ytbkaemajjaiklaa
open Go.RowKit
set_option linter.unusedVariables false
set_option linter.unusedSimpArgs false

structure IntsAt (k : IntKind) (w : World) (v : Value) (xs : List Int) : Prop where
  at_ : ∃ ao cap, v = .slice ao xs.length cap ∧ (xs = [] ∨ ∃ b off, ao = some ⟨b, off, none⟩ ∧ b < w.heap.size ∧ ∀ i (h : i < xs.length), w.cell? ⟨b, off + i, none⟩ = some (.int k xs[i]))
  le : ∀ x ∈ xs, (Lit.int k x).wf = true
theorem IntsAt.bel {k : IntKind} {w w' : World} {v : Value} {xs : List Int} (h : IntsAt k w v xs) (hb : Below w.heap.size w w') : IntsAt k w' v xs := by
  obtain ⟨ao, cap, h1, h2⟩ := h.at_
  refine ⟨⟨ao, cap, h1, ?_⟩, h.le⟩
  rcases h2 with h2 | ⟨b, off, h3, h4, h5⟩
  · exact Or.inl h2
  · exact Or.inr ⟨b, off, h3, Nat.lt_of_lt_of_le h4 hb.size, fun i hi => (hb.cell (p := ⟨b, off + i, none⟩) h4).trans (h5 i hi)⟩
end Go.Proofs.Ytbkaemajjaiklaa
