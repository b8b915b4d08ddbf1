/- A memory of words: flushes of a line. -/
import Derived.Test.YtbkaemajjaiklaaPmC
namespace Go.Proofs.Ytbkaemajjaiklaa
open Go.RowKit
set_option linter.unusedVariables false
set_option linter.unusedSimpArgs false

theorem line_isAgg : ∀ w, (isAgg 167).run Try.prog w = .ok true w := fun w => by
  unfold isAgg
  simp [run_underlying Try.underlying167]
/-- what all ways come to is shown once -/
structure Key (X : Prop) : Prop where
  out : X
theorem share {X G : Prop} (main : Key X → G) (key : X) : G := main ⟨key⟩
theorem find_line {M : MemS} {pre post : List LineA} {L : LineA} (hM : M.lines = pre ++ L :: post) (hk : M.lines.Pairwise fun a b => a.adr ≠ b.adr) :
    Instr.findNow (.int .u64) (.int .u64 (L.adr : Int)) (M.lines.map lineE) 0 = some (some (pre.length, .agg (lineC L))) := by
  rw [hM] at hk ⊢
  rw [List.map_append, List.map_cons]
  have := findU_at (k := (L.adr : Int)) (e := lineE L) (post := post.map lineE) rfl (pre := pre.map lineE) (i := 0) (fun e he => by
    obtain ⟨L', hL', rfl⟩ := List.mem_map.1 he
    refine ⟨L'.adr, rfl, fun hc => ?_⟩
    have := (List.pairwise_append.1 hk).2.2 L' hL' L (List.mem_cons_self ..)
    omega)
  rw [this]
  simp [lineE]
theorem lineC_size {n : Nat} {L : LineA} (h : LineOK n L) : (lineC L).size = 66 := by simp [lineC, marksC, h.marks]
theorem lineC_one (L : LineA) : (lineC L).all (·.oneCell') = true := by
  rw [Array.all_eq_true_iff_forall_mem]
  intro v hv
  simp only [lineC, List.mem_toArray, List.mem_cons, marksC, List.mem_map] at hv
  rcases hv with rfl | ⟨k, _, rfl⟩ <;> rfl
theorem lineC_mark {L : LineA} {c : Nat} (k : Nat) : (lineC L).setIfInBounds (c + 1) (.int .i64 (k : Int)) = lineC { L with ks := L.ks.set c k } := by
  unfold lineC marksC
  rw [List.setIfInBounds_toArray, List.set_cons_succ, List.map_set]
theorem loadCells_blk {P : Program} {w : World} {g : Nat} {t : TypeId} {cs : Array Value} {n : Nat} (h : Blk w g t cs) (hn : cs.size = n) : (loadCellsFrom ⟨g, 0, none⟩ 0 n #[]).run P w = .ok cs w := by
  subst hn
  have := run_loadCells_list (P := P) w ⟨g, 0, none⟩ cs.toList (fun j v hv => by
    have hadd : (⟨g, 0, none⟩ : Addr).add j = ⟨g, j, none⟩ := by unfold Addr.add; split <;> simp_all
    rw [hadd, h.cell]
    simpa using hv)
  simpa [loadCells] using this
theorem modify_at {α : Type} (f : α → α) (x : α) (post : List α) : ∀ pre : List α, (pre ++ x :: post).modify pre.length f = pre ++ f x :: post
  | [] => by simp
  | p :: pre => by simp [modify_at f x post pre]
theorem modify_lines {pre post : List LineA} {L L' : LineA} (ha : L'.adr = L.adr) (hb : L'.born = L.born) :
    (((pre ++ L :: post).map lineE).toArray.modify pre.length fun e => { e with key := .int .u64 (L.adr : Int), val := .agg (lineC L') }) = ((pre ++ L' :: post).map lineE).toArray := by
  apply Array.ext'
  simp only [Array.toList_modify]
  rw [List.map_append, List.map_append, List.map_cons, List.map_cons]
  have hl : pre.length = (pre.map lineE).length := by simp
  rw [hl, modify_at]
  simp [lineE, ha, hb]

theorem pairwise_mid {α β : Type} {R : β → β → Prop} (f : α → β) {pre post : List α} {x y : α} (h : f x = f y) (hp : (pre ++ x :: post).Pairwise fun a b => R (f a) (f b)) : (pre ++ y :: post).Pairwise fun a b => R (f a) (f b) := by
  rw [List.pairwise_append, List.pairwise_cons] at hp ⊢
  refine ⟨hp.1, ⟨fun b hb => by rw [← h]; exact hp.2.1.1 b hb, hp.2.1.2⟩, fun a ha b hb => ?_⟩
  rcases List.mem_cons.1 hb with rfl | hb
  · rw [← h]; exact hp.2.2 a ha x (List.mem_cons_self ..)
  · exact hp.2.2 a ha b (List.mem_cons_of_mem _ hb)
theorem MemIs.lb_far {w : World} {m : Nat} {B : MB} {M : MemS} (h : MemIs w m B M) : m ≠ B.lb ∧ B.vb ≠ B.lb ∧ B.ib ≠ B.lb ∧ ∀ L ∈ M.lines, L.g ≠ B.lb := by
  have h1 := h.apart
  simp only [footM, List.nodup_cons, List.mem_cons, not_or, List.mem_map, not_exists, not_and] at h1
  exact ⟨h1.1.2.2.1, h1.2.1.2.1, h1.2.2.1.1, fun L hL => h1.2.2.2.1 L hL⟩
/-- a line turned in place: the same row's block, place, stamp -/
theorem MemIs.reline {w w' : World} {m : Nat} {B : MB} {M : MemS} {pre post : List LineA} {L L' : LineA} (h : MemIs w m B M) (hM : M.lines = pre ++ L :: post) (ha : L'.adr = L.adr) (hg : L'.g = L.g) (hb : L'.born = L.born)
    (hw : w' = w.putObj B.lb (.map ((pre ++ L' :: post).map lineE).toArray M.clock)) (hr : RowP w L → RowP w L') (hok : LineOK M.view.length L') : MemIs w' m B { M with lines := pre ++ L' :: post } := by
  obtain ⟨f0, f1, f2, f3⟩ := h.lb_far
  have ho : Only [B.lb] w w' := by rw [hw]; exact (Only.refl _ _).putObj (Or.inl (by simp)) _
  have hL : L ∈ M.lines := by rw [hM]; simp
  have mem : ∀ {p : LineA → Prop}, (∀ x ∈ M.lines, p x) → p L' → ∀ x ∈ pre ++ L' :: post, p x := by
    intro p h1 h2 x hx
    rw [hM] at h1
    rcases List.mem_append.1 hx with hx | hx
    · exact h1 x (List.mem_append_left _ hx)
    · rcases List.mem_cons.1 hx with rfl | hx
      · exact h2
      · exact h1 x (List.mem_append_right _ (List.mem_cons_of_mem _ hx))
  have hfoot : footM m B { M with lines := pre ++ L' :: post } = footM m B M := by
    simp only [footM, hM, List.map_append, List.map_cons, hg]
  exact { h with
    blk := ho.blk h.blk (by simpa using f0)
    view := h.view.only ho (by simpa using f1)
    image := h.image.only ho (by simpa using f2)
    map := by rw [hw]; exact putObj_at h.map
    rows := mem (p := fun x => RowP w' x) (fun x hx => (h.rows x hx).only ho (by simpa using f3 x hx)) ((hr (h.rows L hL)).only ho (by simpa [hg] using f3 L hL))
    ok := mem h.ok hok
    keys := by have := h.keys; rw [hM] at this; exact pairwise_mid (R := fun a b => a ≠ b) (fun x : LineA => x.adr) ha.symm this
    born := by have := h.born; rw [hM] at this; exact pairwise_mid (R := fun a b => a ≠ b) (fun x : LineA => x.born) hb.symm this
    old := mem (p := fun x => x.born < M.clock) h.old (by rw [hb]; exact h.old L hL)
    apart := by rw [hfoot]; exact h.apart }

end Go.Proofs.Ytbkaemajjaiklaa
