/- How a slice of headers is opened. -/
import Derived.Test.YtbkaemajjaiklaaGreatOpensR
import Derived.Test.YtbkaemajjaiklaaGreatImg
namespace Go.Proofs.YtbkaemajjaiklaaGreat
open Go.ChangeShapes Go.WideShapes Go.ChangeAt Go.RowKit Go.Joins Go.Deep
set_option linter.unusedVariables false
set_option linter.unusedSimpArgs false

section
variable {H : Type} {enc : TypeId × Value → H} {w : World} {base : Nat} {spare : Nat → Bool} {held : Bool}
theorem oneHead : ∀ {fs}, Tryz.prog.underlying 50 = some (.struct fs) → oneCellFields Tryz.prog fs = true ∧ fs.size = 2 ∧ (fs[0]?.map (·.type)) = some 23 ∧ (fs[1]?.map (·.type)) = some 23 := by
  intro fs h
  rw [Tryz.underlying50] at h
  injection h with h
  injection h with h
  subst h
  refine ⟨by kernel_rfl, rfl, rfl, rfl⟩
theorem cellsHead : Tryz.prog.cellsOf 50 = 2 := by kernel_rfl

set_option maxRecDepth 100000 in
theorem open_heads {r : Reach} {b0 : Nat} {v : Value} {d : DataW H} {p : List MemPlace} (hv : Value.okWide Tryz.prog w r b0 22 v) (h : DataW.Trod enc Tryz.prog w base spare held 22 v d p) :
    ∃ hs : List (Nat × Nat), HeadsAt w v hs ∧ hs.length ≤ 9223372036854775807 := by
  obtain ⟨fs, hfs⟩ : ∃ fs, Tryz.prog.underlying 50 = some (.struct fs) := ⟨_, Tryz.underlying50⟩
  obtain ⟨hone, hsz, t0, t1⟩ := oneHead hfs
  have hC : Tryz.prog.cellsOf 50 = fs.size := by rw [hsz]; exact cellsHead
  have h0 : 0 < fs.size := by omega
  obtain ⟨ao, n, cap, rfl, hn, hc⟩ := open_rows Tryz.underlying22 hfs hone hC h0 hv h
  rcases hc with ⟨rfl, hnil⟩ | ⟨b, off, rfl, hb, hc⟩
  · exact ⟨[], ⟨⟨ao, cap, rfl, Or.inl rfl⟩, fun x hx => by cases hx⟩, by simp⟩
  rw [hsz] at hc
  have hf : ∀ j, j < 2 → ∃ f, fs[j]? = some f := fun j hj => ⟨fs[j]'(by omega), Array.getElem?_eq_getElem (by omega)⟩
  have ints : ∀ i, i < n → ∀ (j : Nat), j < 2 → ∃ z : Nat, z < 18446744073709551616 ∧ w.cell? ⟨b, off + i * 2 + j, none⟩ = some (.int .u64 (z : Int)) := by
    intro i hi j hj
    obtain ⟨f, hfj⟩ := hf j hj
    obtain ⟨x, y, m, h1, h2⟩ := hc i hi j f hfj
    have ht : f.type = 23 := by
      have : j = 0 ∨ j = 1 := by omega
      rcases this with rfl | rfl
      · rw [hfj] at t0; simpa using t0
      · rw [hfj] at t1; simpa using t1
    rw [ht] at h2
    obtain ⟨z, e1, _, wz⟩ := DataW.trod_int Tryz.underlying23 h2
    obtain ⟨z0, z1⟩ := bounds_u64 wz
    obtain rfl : x = .int .u64 z := by simpa using e1
    refine ⟨z.toNat, by omega, ?_⟩
    rw [h1, Int.toNat_of_nonneg z0]
  let gN : Option Value → Nat := fun o => (gInt o).toNat
  let gg : Nat → Nat × Nat := fun i => (gN (w.cell? ⟨b, off + i * 2 + 0, none⟩), gN (w.cell? ⟨b, off + i * 2 + 1, none⟩))
  have hg : ∀ i, i < n → ((gg i).1 < 18446744073709551616 ∧ (gg i).2 < 18446744073709551616) ∧ w.cell? ⟨b, off + i * 2, none⟩ = some (.int .u64 ((gg i).1 : Int)) ∧ w.cell? ⟨b, off + i * 2 + 1, none⟩ = some (.int .u64 ((gg i).2 : Int)) := by
    intro i hi
    obtain ⟨z, hz, hz2⟩ := ints i hi 0 (by omega)
    obtain ⟨u, hu, hu2⟩ := ints i hi 1 (by omega)
    have e1 : (gg i).1 = z := by show gN (w.cell? ⟨b, off + i * 2 + 0, none⟩) = z; rw [hz2]; rfl
    have e2 : (gg i).2 = u := by show gN (w.cell? ⟨b, off + i * 2 + 1, none⟩) = u; rw [hu2]; rfl
    rw [e1, e2]
    exact ⟨⟨hz, hu⟩, hz2, hu2⟩
  refine ⟨(List.range n).map gg, ⟨⟨some ⟨b, off, none⟩, cap, by simp, Or.inr ⟨b, off, rfl, hb, fun i hi => ?_⟩⟩, fun x hx => ?_⟩, by simpa [maxLen] using hn⟩
  · have hi' : i < n := by simpa using hi
    have he : ((List.range n).map gg)[i] = gg i := by simp
    rw [he]
    exact (hg i hi').2
  · obtain ⟨i, hi, rfl⟩ := List.mem_map.1 hx
    exact (hg i (List.mem_range.1 hi)).1
end


end Go.Proofs.YtbkaemajjaiklaaGreat
