/- How a slice of steps is opened. -/
import Derived.Test.YtdhnacajgmjmlaaOpensR
import Derived.Test.YtdhnacajgmjmlaaSwE
namespace Go.Proofs.Ytdhnacajgmjmlaa
open Go.ChangeShapes Go.WideShapes Go.ChangeAt Go.RowKit Go.Joins Go.Deep
set_option linter.unusedVariables false
set_option linter.unusedSimpArgs false

section
variable {H : Type} {enc : TypeId × Value → H} {w : World} {base : Nat} {spare : Nat → Bool} {held : Bool}
abbrev gBool : Option Value → Bool | some (.bool b) => b | _ => false
theorem oneStep : ∀ {fs}, Try.prog.underlying 109 = some (.struct fs) → oneCellFields Try.prog fs = true ∧ fs.size = 3 ∧ (fs[0]?.map (·.type)) = some 3 ∧ (fs[1]?.map (·.type)) = some 4 ∧ (fs[2]?.map (·.type)) = some 3 := by
  intro fs h
  rw [Try.underlying109] at h
  injection h with h
  injection h with h
  subst h
  refine ⟨by kernel_rfl, rfl, rfl, rfl, rfl⟩
theorem cellsStep : Try.prog.cellsOf 109 = 3 := by kernel_rfl

set_option maxRecDepth 100000 in
theorem open_steps {r : Reach} {b0 : Nat} {v : Value} {d : DataW H} {p : List MemPlace} (hv : Value.okWide Try.prog w r b0 22 v) (h : DataW.Trod enc Try.prog w base spare held 22 v d p) :
    ∃ cs : List StepI, StepsI w v cs ∧ cs.length ≤ 9223372036854775807 := by
  obtain ⟨fs, hfs⟩ : ∃ fs, Try.prog.underlying 109 = some (.struct fs) := ⟨_, Try.underlying109⟩
  obtain ⟨hone, hsz, t0, t1, t2⟩ := oneStep hfs
  have hC : Try.prog.cellsOf 109 = fs.size := by rw [hsz]; exact cellsStep
  have h0 : 0 < fs.size := by omega
  obtain ⟨ao, n, cap, rfl, hn, hc⟩ := open_rows Try.underlying22 hfs hone hC h0 hv h
  rcases hc with ⟨rfl, hnil⟩ | ⟨b, off, rfl, hb, hc⟩
  · exact ⟨[], ⟨ao, cap, rfl, Or.inl rfl⟩, by simp⟩
  rw [hsz] at hc
  have hf : ∀ j, j < 3 → ∃ f, fs[j]? = some f := fun j hj => ⟨fs[j]'(by omega), Array.getElem?_eq_getElem (by omega)⟩
  have ints : ∀ i, i < n → ∀ (j : Nat) (q : IntKind) (T : TypeId), j < 3 → fs[j]?.map (·.type) = some T → Try.prog.underlying T = some (.int q) → w.cell? ⟨b, off + i * 3 + j, none⟩ = some (.int q (gInt (w.cell? ⟨b, off + i * 3 + j, none⟩))) := by
    intro i hi j q T hj ht hu
    obtain ⟨f, hfj⟩ := hf j hj
    obtain ⟨x, y, m, h1, h2⟩ := hc i hi j f hfj
    rw [hfj] at ht
    have : f.type = T := by simpa using ht
    rw [this] at h2
    obtain ⟨z, e1, _, _⟩ := DataW.trod_int hu h2
    obtain rfl : x = .int q z := by simpa using e1
    rw [h1]
  have bools : ∀ i, i < n → w.cell? ⟨b, off + i * 3 + 1, none⟩ = some (.bool (gBool (w.cell? ⟨b, off + i * 3 + 1, none⟩))) := by
    intro i hi
    obtain ⟨f, hfj⟩ := hf 1 (by omega)
    obtain ⟨x, y, m, h1, h2⟩ := hc i hi 1 f hfj
    rw [hfj] at t1
    have : f.type = 4 := by simpa using t1
    rw [this] at h2
    obtain ⟨z, e1, _⟩ := DataW.trod_bool Try.underlying4 h2
    obtain rfl : x = .bool z := by simpa using e1
    rw [h1]
  let g : Nat → StepI := fun i => ⟨gInt (w.cell? ⟨b, off + i * 3 + 0, none⟩), gBool (w.cell? ⟨b, off + i * 3 + 1, none⟩), gInt (w.cell? ⟨b, off + i * 3 + 2, none⟩)⟩
  refine ⟨(List.range n).map g, ⟨some ⟨b, off, none⟩, cap, by simp, Or.inr ⟨b, off, rfl, hb, fun i hi j hj => ?_⟩⟩, by simpa [maxLen] using hn⟩
  have hi' : i < n := by simpa using hi
  have hg : ((List.range n).map g)[i] = g i := by simp
  rw [hg]
  match j, hj with
  | 0, _ => exact ints i hi' 0 .i64 _ (by omega) t0 Try.underlying3
  | 1, _ => exact bools i hi'
  | 2, _ => exact ints i hi' 2 .i64 _ (by omega) t2 Try.underlying3
end

end Go.Proofs.Ytdhnacajgmjmlaa
