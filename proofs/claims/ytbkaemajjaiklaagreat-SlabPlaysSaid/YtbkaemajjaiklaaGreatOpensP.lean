/- How a slice of acts is opened. -/
import Derived.Test.YtbkaemajjaiklaaGreatOpensH
import Derived.Test.YtbkaemajjaiklaaGreatLawPl
namespace Go.Proofs.YtbkaemajjaiklaaGreat
open Go.ChangeShapes Go.WideShapes Go.ChangeAt Go.RowKit Go.Joins Go.Deep
set_option linter.unusedVariables false
set_option linter.unusedSimpArgs false

section
variable {H : Type} {enc : TypeId × Value → H} {w : World} {base : Nat} {spare : Nat → Bool} {held : Bool}
theorem oneAct : ∀ {fs}, Tryz.prog.underlying 45 = some (.struct fs) → oneCellFields Tryz.prog fs = true ∧ fs.size = 4 ∧ (fs[0]?.map (·.type)) = some 3 ∧ (fs[1]?.map (·.type)) = some 3 ∧ (fs[2]?.map (·.type)) = some 24 ∧ (fs[3]?.map (·.type)) = some 3 := by
  intro fs h
  rw [Tryz.underlying45] at h
  injection h with h
  injection h with h
  subst h
  refine ⟨by kernel_rfl, rfl, rfl, rfl, rfl, rfl⟩
theorem cellsAct : Tryz.prog.cellsOf 45 = 4 := by kernel_rfl

set_option maxRecDepth 100000 in
theorem open_acts {r : Reach} {b0 : Nat} {v : Value} {d : DataW H} {p : List MemPlace} (hv : Value.okWide Tryz.prog w r b0 39 v) (h : DataW.Trod enc Tryz.prog w base spare held 39 v d p) :
    ∃ acts : List ActT, ActsAt w v acts ∧ acts.length ≤ 9223372036854775807 := by
  obtain ⟨fs, hfs⟩ : ∃ fs, Tryz.prog.underlying 45 = some (.struct fs) := ⟨_, Tryz.underlying45⟩
  obtain ⟨hone, hsz, t0, t1, t2, t3⟩ := oneAct hfs
  have hC : Tryz.prog.cellsOf 45 = fs.size := by rw [hsz]; exact cellsAct
  have h0 : 0 < fs.size := by omega
  obtain ⟨ao, n, cap, rfl, hn, hc⟩ := open_rows Tryz.underlying39 hfs hone hC h0 hv h
  rcases hc with ⟨rfl, hnil⟩ | ⟨b, off, rfl, hb, hc⟩
  · exact ⟨[], ⟨⟨ao, cap, rfl, Or.inl rfl⟩, fun x hx => by cases hx⟩, by simp⟩
  rw [hsz] at hc
  have hf : ∀ j, j < 4 → ∃ f, fs[j]? = some f := fun j hj => ⟨fs[j]'(by omega), Array.getElem?_eq_getElem (by omega)⟩
  have ints : ∀ i, i < n → ∀ (j : Nat), j = 0 ∨ j = 1 ∨ j = 3 → ∃ z : Int, (-9223372036854775808 ≤ z ∧ z ≤ 9223372036854775807) ∧ w.cell? ⟨b, off + i * 4 + j, none⟩ = some (.int .i64 z) := by
    intro i hi j hj
    obtain ⟨f, hfj⟩ := hf j (by omega)
    obtain ⟨x, y, m, h1, h2⟩ := hc i hi j f hfj
    have ht : f.type = 3 := by
      rcases hj with rfl | rfl | rfl
      · rw [hfj] at t0; simpa using t0
      · rw [hfj] at t1; simpa using t1
      · rw [hfj] at t3; simpa using t3
    rw [ht] at h2
    obtain ⟨z, e1, _, wz⟩ := DataW.trod_int Tryz.underlying3 h2
    obtain ⟨z0, z1⟩ := bounds_i64 wz
    obtain rfl : x = .int .i64 z := by simpa using e1
    exact ⟨z, ⟨z0, z1⟩, h1⟩
  have addrs : ∀ i, i < n → ∃ z : Int, (0 ≤ z ∧ z ≤ 18446744073709551615) ∧ w.cell? ⟨b, off + i * 4 + 2, none⟩ = some (.int .u64 z) := by
    intro i hi
    obtain ⟨f, hfj⟩ := hf 2 (by omega)
    obtain ⟨x, y, m, h1, h2⟩ := hc i hi 2 f hfj
    have ht : f.type = 24 := by rw [hfj] at t2; simpa using t2
    rw [ht] at h2
    obtain ⟨z, e1, _, wz⟩ := DataW.trod_int Tryz.underlying24 h2
    obtain ⟨z0, z1⟩ := bounds_u64 wz
    obtain rfl : x = .int .u64 z := by simpa using e1
    exact ⟨z, ⟨z0, z1⟩, h1⟩
  let gg : Nat → ActT := fun i => ⟨gInt (w.cell? ⟨b, off + i * 4 + 0, none⟩), gInt (w.cell? ⟨b, off + i * 4 + 1, none⟩), gInt (w.cell? ⟨b, off + i * 4 + 2, none⟩), gInt (w.cell? ⟨b, off + i * 4 + 3, none⟩)⟩
  have hg : ∀ i, i < n → (gg i).ok ∧ w.cell? ⟨b, off + i * 4, none⟩ = some (.int .i64 (gg i).kd) ∧ w.cell? ⟨b, off + i * 4 + 1, none⟩ = some (.int .i64 (gg i).nn) ∧ w.cell? ⟨b, off + i * 4 + 2, none⟩ = some (.int .u64 (gg i).aa) ∧ w.cell? ⟨b, off + i * 4 + 3, none⟩ = some (.int .i64 (gg i).cc) := by
    intro i hi
    obtain ⟨z0, _, q0⟩ := ints i hi 0 (by omega)
    obtain ⟨z1, r1, q1⟩ := ints i hi 1 (by omega)
    obtain ⟨z2, r2, q2⟩ := addrs i hi
    obtain ⟨z3, _, q3⟩ := ints i hi 3 (by omega)
    have e0 : (gg i).kd = z0 := by show gInt (w.cell? ⟨b, off + i * 4 + 0, none⟩) = z0; rw [q0]
    have e1 : (gg i).nn = z1 := by show gInt (w.cell? ⟨b, off + i * 4 + 1, none⟩) = z1; rw [q1]
    have e2 : (gg i).aa = z2 := by show gInt (w.cell? ⟨b, off + i * 4 + 2, none⟩) = z2; rw [q2]
    have e3 : (gg i).cc = z3 := by show gInt (w.cell? ⟨b, off + i * 4 + 3, none⟩) = z3; rw [q3]
    refine ⟨⟨by rw [e1]; exact r1, by rw [e2]; exact r2⟩, by rw [e0]; exact q0, by rw [e1]; exact q1, by rw [e2]; exact q2, by rw [e3]; exact q3⟩
  refine ⟨(List.range n).map gg, ⟨⟨some ⟨b, off, none⟩, cap, by simp, Or.inr ⟨b, off, rfl, hb, fun i hi => ?_⟩⟩, fun x hx => ?_⟩, by simpa [maxLen] using hn⟩
  · have hi' : i < n := by simpa using hi
    have he : ((List.range n).map gg)[i] = gg i := by simp
    rw [he]
    exact (hg i hi').2
  · obtain ⟨i, hi, rfl⟩ := List.mem_map.1 hx
    exact (hg i (List.mem_range.1 hi)).1
end
theorem SlabPlays_l (v : Value) (hs : List (Nat × Nat)) (v2 : Value) (acts : List ActT) (w : World) (h : HeadsAt w v hs) (_ : hs.length ≤ 9223372036854775807) (h2 : ActsAt w v2 acts) (_ : acts.length ≤ 9223372036854775807) :
    Calls Tryz.prog 4 #[v, v2] w fun e w' => e = .returned (.bool true) ∧ Below w.heap.size w w' := SlabPlays_z v hs v2 acts w h h2

end Go.Proofs.YtbkaemajjaiklaaGreat
