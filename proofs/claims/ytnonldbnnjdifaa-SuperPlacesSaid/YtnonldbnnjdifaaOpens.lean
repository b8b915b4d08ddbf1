/- How arguments are opened: an array of eight uint64 by value; a struct of two uint64 by value. -/
import Derived.Test.YtnonldbnnjdifaaRows
import Derived.ProofKit
import Derived.OpenShut
import Derived.Lib.SmallJoins
import Derived.Below
namespace Go.Proofs.Ytnonldbnnjdifaa
open Go.ChangeShapes Go.WideShapes Go.ChangeAt Go.RowKit Go.Joins

def num1 : Option Value → Int | some (Value.int _ z) => z | _ => 0

section
variable {H : Type} {enc : TypeId × Value → H} {P : Program} {w : World} {base : Nat} {spare : Nat → Bool} {held : Bool}

theorem open_u64s {t e : TypeId} {n : Nat} {d : DataW H} {p : List MemPlace} {cs : List Value} (ht : P.underlying t = some (.array n e)) (he : P.underlying e = some (.int .u64)) (hc : P.cellsOf e = 1) (hn : P.cellsOf t = n)
    (h : ∃ fuel, DataW.trod enc P w base spare held fuel t cs = some (d, p)) : ∃ zs : List Int, cs = zs.map (Value.int .u64) ∧ zs.length = n ∧ ∀ z ∈ zs, (Lit.int .u64 z).wf = true := by
  obtain ⟨fuel, hf⟩ := h
  obtain ⟨xs, m, _, _, hl, hx, hi⟩ := DataW.trod_array ht hf
  rw [hn] at hl
  have hg : ∀ i, i < n → ∃ z, cs[i]? = some (.int .u64 z) ∧ (Lit.int .u64 z).wf = true := by
    intro i hlt
    have h1 := hi i hlt
    rw [hc, Nat.mul_one, List.getElem?_eq_getElem (by omega)] at h1
    obtain ⟨z, e1, _, e3⟩ := DataW.trod_int he h1
    refine ⟨z, ?_, e3⟩
    have h0 : ((cs.drop i).take 1)[0]? = some (.int .u64 z) := by rw [e1]; rfl
    simpa using h0
  refine ⟨(List.range n).map fun i => num1 cs[i]?, ?_, by simp, ?_⟩
  · apply List.ext_getElem?
    intro i
    by_cases hlt : i < n
    · obtain ⟨z, hz, _⟩ := hg i hlt
      simp [hz, hlt, num1]
    · rw [List.getElem?_eq_none (by omega), List.getElem?_eq_none (by simp; omega)]
  · intro z hz
    simp only [List.mem_map, List.mem_range] at hz
    obtain ⟨i, hlt, rfl⟩ := hz
    obtain ⟨z, hz, hw⟩ := hg i hlt
    rw [hz]; exact hw

theorem okWide_arr {r : Reach} {b0 : Nat} {t e : TypeId} {n : Nat} {v : Value} (ht : P.underlying t = some (.array n e)) (h : Value.okWide P w r b0 t v) : ∃ cs, v = .agg cs ∧ cs.size = P.cellsOf t := by
  simp only [Value.okWide, ht] at h
  obtain ⟨cs, h1, h2, _⟩ := h
  exact ⟨cs, h1, h2⟩

theorem open_arr8 {r : Reach} {b0 : Nat} {t e : TypeId} {v : Value} {d : DataW H} {p : List MemPlace} (ht : P.underlying t = some (.array 8 e)) (he : P.underlying e = some (.int .u64)) (hc : P.cellsOf e = 1) (hn : P.cellsOf t = 8)
    (hv : Value.okWide P w r b0 t v) (hT : DataW.Trod enc P w base spare held t v d p) :
    ∃ a b c d e f g h : Int, v = .agg #[.int .u64 a, .int .u64 b, .int .u64 c, .int .u64 d, .int .u64 e, .int .u64 f, .int .u64 g, .int .u64 h] ∧ (Lit.int .u64 a).wf = true ∧ (Lit.int .u64 b).wf = true ∧ (Lit.int .u64 c).wf = true ∧ (Lit.int .u64 d).wf = true ∧ (Lit.int .u64 e).wf = true ∧ (Lit.int .u64 f).wf = true ∧ (Lit.int .u64 g).wf = true ∧ (Lit.int .u64 h).wf = true := by
  obtain ⟨cs, rfl, hsz⟩ := okWide_arr ht hv
  obtain ⟨zs, h1, h2, h3⟩ := open_u64s ht he hc hn (by obtain ⟨fuel, hf⟩ := hT; exact ⟨fuel, by simpa [Value.cells] using hf⟩)
  match zs, h2 with
  | [a, b, c, d, e, f, g, h], _ =>
    have hcs : cs = #[.int .u64 a, .int .u64 b, .int .u64 c, .int .u64 d, .int .u64 e, .int .u64 f, .int .u64 g, .int .u64 h] := by cases cs; simpa using h1
    subst hcs
    exact ⟨a, b, c, d, e, f, g, h, rfl, h3 a (by simp), h3 b (by simp), h3 c (by simp), h3 d (by simp), h3 e (by simp), h3 f (by simp), h3 g (by simp), h3 h (by simp)⟩
end

end Go.Proofs.Ytnonldbnnjdifaa
