/- How a slice of numbers is opened. -/
import Derived.Test.YtbkaemajjaiklaaGreatOpensR
import Derived.ChangeSlices
import Derived.Test.YtbkaemajjaiklaaGreatAppM
namespace Go.Proofs.YtbkaemajjaiklaaGreat
open Go.ChangeShapes Go.WideShapes Go.ChangeAt Go.RowKit Go.Joins Go.Deep
set_option linter.unusedVariables false
set_option linter.unusedSimpArgs false

section
variable {H : Type} {enc : TypeId × Value → H} {P : Program} {w : World} {base : Nat} {spare : Nat → Bool} {held : Bool}
theorem open_nums {r : Reach} {b0 : Nat} {t e : TypeId} {k : IntKind} {v : Value} {d : DataW H} {p : List MemPlace} (ht : P.underlying t = some (.slice e)) (he : P.underlying e = some (.int k)) (hC : P.cellsOf e = 1)
    (hv : Value.okWide P w r b0 t v) (h : DataW.Trod enc P w base spare held t v d p) : ∃ xs : List Int, IntsAt k w v xs ∧ xs.length ≤ 9223372036854775807 := by
  obtain ⟨ao, n, cap, rfl⟩ := okWide_slice ht hv
  obtain ⟨fuel, hf⟩ := h
  rcases Go.ChangeShapes.open_ints ht he hC hf with ⟨h1, _⟩ | ⟨a, len, cap', zs, h1, hb, hl, hm, hzl, hx, hcell, hwf⟩
  · have h2 : (Value.slice ao n cap) = .slice none 0 0 := by simpa [Value.cells] using h1
    injection h2 with e1 e2 e3
    subst e1; subst e2; subst e3
    exact ⟨[], ⟨⟨_, _, rfl, Or.inl rfl⟩, fun x hx => by cases hx⟩, by simp⟩
  · have h2 : (Value.slice ao n cap) = .slice (some a) len cap' := by simpa [Value.cells] using h1
    injection h2 with e1 e2 e3
    subst e1; subst e2; subst e3
    have hlz : n ≤ zs.length := by rw [hzl]; split <;> omega
    have hlen : (zs.take n).length = n := by rw [List.length_take]; omega
    refine ⟨zs.take n, ⟨⟨_, cap, by rw [hlen], ?_⟩, fun x hx => hwf x (List.mem_of_mem_take hx)⟩, by rw [hlen]; unfold maxLen at hm; omega⟩
    by_cases hn : n = 0
    · left; rw [hn]; rfl
    right
    obtain ⟨b, off, spot⟩ := a
    have hx0 := hcell 0 (by omega)
    have hsp : spot = none := by simpa [Addr.add] using World.cell?_spot hx0
    subst hsp
    have hlt : b < w.heap.size := by
      have := cell_lt hx0
      rw [add_plain] at this
      exact this
    refine ⟨b, off, rfl, hlt, fun i hi => ?_⟩
    rw [hlen] at hi
    have := hcell i (by omega)
    rw [add_plain] at this
    rw [this, List.getElem_take]
    rw [List.getD_eq_getElem?_getD, List.getElem?_eq_getElem (by omega)]
    rfl
end
set_option maxRecDepth 100000 in
theorem open_addrs {H : Type} {enc : TypeId × Value → H} {w : World} {base : Nat} {spare : Nat → Bool} {held : Bool} {r : Reach} {b0 : Nat} {v : Value} {d : DataW H} {p : List MemPlace} (hv : Value.okWide Tryz.prog w r b0 51 v) (h : DataW.Trod enc Tryz.prog w base spare held 51 v d p) :
    ∃ xs : List Int, IntsAt .u64 w v xs ∧ xs.length ≤ 9223372036854775807 := open_nums Tryz.underlying51 Tryz.underlying24 (by kernel_rfl) hv h
end Go.Proofs.YtbkaemajjaiklaaGreat
