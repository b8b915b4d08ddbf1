/- A memory of words: a line turned whose row may be a new one; append by its run equation. -/
import Derived.Test.YtbkaemajjaiklaaPmF
namespace Go.Proofs.Ytbkaemajjaiklaa
open Go.RowKit
set_option linter.unusedVariables false
set_option linter.unusedSimpArgs false

section
variable {P : Program}
theorem wp_append_runI (w : World) {o : Oper} {a : Act} {K : Act → World → Prop} {Q : Exit → Act → World → Prop} (d s : Operand) (t t' : TypeId)
    (ho : o.op = .call { callee := .builtin .append, args := #[d, s], argTypes := #[t, t'] }) (v u : Value) (hd : a.eval d = v) (hs : a.eval s = u) {v' : Value} {w' : World}
    (hr : (Builtin.append_ #[t, t'] o.type #[v, u]).run P w = .ok v' w') (h : K (a.put o.dst v') w') : o.wp P a w K Q := by
  unfold Oper.wp execOp
  simp only [ho, resolve, invoke, builtin, Sem.run_bind, Sem.run_pure, Result.andThen_ok, List.map_toArray, List.map_cons, List.map_nil, hd, hs, hr]
  exact h
theorem wpList_append_runI (w : World) {ops : Array Oper} {rest : List Oper} {o : Oper} {a : Act} {Q : Exit → Act → World → Prop} (hgd : o.guard = none) (d s : Operand) (t t' : TypeId)
    (ho : o.op = .call { callee := .builtin .append, args := #[d, s], argTypes := #[t, t'] }) (v u : Value) (hd : a.eval d = v) (hs : a.eval s = u) {v' : Value} {w' : World}
    (hr : (Builtin.append_ #[t, t'] o.type #[v, u]).run P w = .ok v' w') (h : wpList P ops Q rest (a.put o.dst v') w') : wpList P ops Q (o :: rest) a w :=
  wpList_plain hgd fun _ hK => wp_append_runI w d s t t' ho v u hd hs hr (hK _ _ h)
end

theorem nodup_mid {α : Type} {pre post : List α} {x y : α} (h : (pre ++ x :: post).Nodup) (hy : ∀ z ∈ pre ++ x :: post, z ≠ y) : (pre ++ y :: post).Nodup := by
  rw [List.nodup_append, List.nodup_cons] at h ⊢
  refine ⟨h.1, ⟨fun hm => hy y (by simp [hm]) rfl, h.2.1.2⟩, fun a ha b hb => ?_⟩
  rcases List.mem_cons.1 hb with rfl | hb
  · exact hy a (by simp [ha])
  · exact h.2.2 a ha b (List.mem_cons_of_mem _ hb)
/-- a line turned: its row may be a new one; all else stands in w1, and the map's block is turned behind -/
theorem MemIs.relineG {w1 w' : World} {m : Nat} {B : MB} {M : MemS} {pre post : List LineA} {L L' : LineA}
    (blk : Blk w1 m 133 (memC B M.view.length M.st)) (pos : 0 < M.view.length) (big : M.view.length ≤ 131072) (len : M.image.length = M.view.length) (view : WordsAt w1 B.vb M.view) (image : WordsAt w1 B.ib M.image)
    (map : w1.heap[B.lb]? = some (.map (M.lines.map lineE).toArray M.clock)) (rows : ∀ x ∈ pre ++ post, RowP w1 x) (row : RowP w1 L') (ok : ∀ x ∈ M.lines, LineOK M.view.length x) (ok' : LineOK M.view.length L')
    (keys : M.lines.Pairwise fun a b => a.adr ≠ b.adr) (born : M.lines.Pairwise fun a b => a.born ≠ b.born) (old : ∀ x ∈ M.lines, x.born < M.clock) (apart : (footM m B M).Nodup)
    (hM : M.lines = pre ++ L :: post) (ha : L'.adr = L.adr) (hb : L'.born = L.born) (hg : L'.g = L.g ∨ ∀ k ∈ footM m B M, k ≠ L'.g)
    (hw : w' = w1.putObj B.lb (.map ((pre ++ L' :: post).map lineE).toArray M.clock)) : MemIs w' m B { M with lines := pre ++ L' :: post } := by
  have hfar : m ≠ B.lb ∧ B.vb ≠ B.lb ∧ B.ib ≠ B.lb ∧ ∀ L ∈ M.lines, L.g ≠ B.lb := by
    have h1 := apart
    simp only [footM, List.nodup_cons, List.mem_cons, not_or, List.mem_map, not_exists, not_and] at h1
    exact ⟨h1.1.2.2.1, h1.2.1.2.1, h1.2.2.1.1, fun L hL => h1.2.2.2.1 L hL⟩
  obtain ⟨f0, f1, f2, f3⟩ := hfar
  have hL : L ∈ M.lines := by rw [hM]; simp
  have f4 : L'.g ≠ B.lb := by
    rcases hg with h | h
    · rw [h]; exact f3 L hL
    · exact (h B.lb (by simp [footM])).symm
  have ho : Only [B.lb] w1 w' := by rw [hw]; exact (Only.refl _ _).putObj (Or.inl (by simp)) _
  have mem : ∀ {p : LineA → Prop}, (∀ x ∈ M.lines, p x) → p L' → ∀ x ∈ pre ++ L' :: post, p x := by
    intro p h1 h2 x hx
    rw [hM] at h1
    rcases List.mem_append.1 hx with hx | hx
    · exact h1 x (List.mem_append_left _ hx)
    · rcases List.mem_cons.1 hx with rfl | hx
      · exact h2
      · exact h1 x (List.mem_append_right _ (List.mem_cons_of_mem _ hx))
  have hmem : ∀ x ∈ pre ++ post, x ∈ M.lines := by
    intro x hx
    rw [hM]
    rcases List.mem_append.1 hx with hx | hx
    · exact List.mem_append_left _ hx
    · exact List.mem_append_right _ (List.mem_cons_of_mem _ hx)
  exact {
    blk := ho.blk blk (by simpa using f0)
    pos := pos
    big := big
    len := len
    view := view.only ho (by simpa using f1)
    image := image.only ho (by simpa using f2)
    map := by rw [hw]; exact putObj_at map
    rows := by
      intro x hx
      rcases List.mem_append.1 hx with hx | hx
      · exact (rows x (List.mem_append_left _ hx)).only ho (by simpa using f3 x (hmem x (List.mem_append_left _ hx)))
      · rcases List.mem_cons.1 hx with rfl | hx
        · exact row.only ho (by simpa using f4)
        · exact (rows x (List.mem_append_right _ hx)).only ho (by simpa using f3 x (hmem x (List.mem_append_right _ hx)))
    ok := mem ok ok'
    keys := by have := keys; rw [hM] at this; exact pairwise_mid (R := fun a b => a ≠ b) (fun x : LineA => x.adr) ha.symm this
    born := by have := born; rw [hM] at this; exact pairwise_mid (R := fun a b => a ≠ b) (fun x : LineA => x.born) hb.symm this
    old := mem (p := fun x => x.born < M.clock) old (by rw [hb]; exact old L hL)
    apart := by
      have e1 : footM m B M = (m :: B.vb :: B.ib :: B.lb :: pre.map (·.g)) ++ L.g :: post.map (·.g) := by simp only [footM, hM, List.map_append, List.map_cons, List.cons_append]
      have e2 : footM m B { M with lines := pre ++ L' :: post } = (m :: B.vb :: B.ib :: B.lb :: pre.map (·.g)) ++ L'.g :: post.map (·.g) := by simp only [footM, List.map_append, List.map_cons, List.cons_append]
      rw [e2]
      rcases hg with h | h
      · rw [h, ← e1]; exact apart
      · rw [e1] at apart h; exact nodup_mid apart h }

end Go.Proofs.Ytbkaemajjaiklaa
