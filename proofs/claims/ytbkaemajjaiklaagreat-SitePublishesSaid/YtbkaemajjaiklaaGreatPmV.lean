/- A memory of words: a store comes to a line's row: in place, or in a new one. -/
import Derived.ArgAppend
import Derived.Test.YtbkaemajjaiklaaGreatPmU
import Derived.Deep.Cut
import Derived.Lib.MinMax
import Derived.Maps.RangeRun
import Derived.Laws.Externs

namespace Go.Proofs.YtbkaemajjaiklaaGreat
open Go.RowKit
set_option linter.unusedVariables false
set_option linter.unusedSimpArgs false

theorem set_two {α : Type} (l : List α) (o n : Nat) (a b : α) (h : o + n + 1 < l.length) : (((l.set (o + n) a).set (o + n + 1) b).drop o).take (n + 2) = (l.drop o).take n ++ [a, b] := by
  have hl : ((l.drop o).take n).length = n := by simp; omega
  apply List.ext_getElem?
  intro i
  by_cases h1 : i < n
  · rw [List.getElem?_append_left (by omega), List.getElem?_take, List.getElem?_take, if_pos (by omega), if_pos h1, List.getElem?_drop, List.getElem?_drop, List.getElem?_set_ne (by omega), List.getElem?_set_ne (by omega)]
  · rw [List.getElem?_append_right (by omega), hl, List.getElem?_take]
    by_cases h2 : i < n + 2
    · rw [if_pos h2, List.getElem?_drop]
      by_cases h3 : i = n
      · subst h3
        rw [List.getElem?_set_ne (by omega), List.getElem?_set_self (by omega)]
        simp
      · have h4 : i = n + 1 := by omega
        subst h4
        rw [show o + (n + 1) = o + n + 1 by omega, List.getElem?_set_self (by simp; omega)]
        simp
    · rw [if_neg h2, List.getElem?_eq_none (by simp; omega)]
theorem putC2_length (ps : List (Nat × Int)) : (putC2 ps).length = ps.length * 2 := by
  induction ps with
  | nil => rfl
  | cons p ps ih => simp [putC2] at ih ⊢; omega
theorem putC2_snoc (ps : List (Nat × Int)) (a : Nat) (x : Int) : putC2 (ps ++ [(a, x)]) = putC2 ps ++ [.int .u64 (a : Int), .int .u64 x] := by simp [putC2]
theorem RowP.cells {w : World} {L : LineA} (h : RowP w L) : ∀ j u, (putC2 L.ps)[j]? = some u → w.cell? ((⟨L.g, L.o, none⟩ : Addr).add j) = some u := by
  obtain ⟨cur, h1, h2, h3, h4⟩ := h
  rw [← h4]
  exact cells_of_blk h1 L.o _

theorem append_line (w : World) (ty : TypeId) (L : LineA) (hr : RowP w L) (ad : Addr) (m : Nat) (a : Nat) (x : Int) (hn : ∀ j u, [Value.int .u64 (a : Int), .int .u64 x][j]? = some u → w.cell? (ad.add j) = some u) (hlen : L.ps.length ≤ 1000000000) :
    ∃ g o cap w', (Builtin.append_ #[140, 140] ty #[.slice (some ⟨L.g, L.o, none⟩) L.ps.length L.cap, .slice (some ad) 1 m]).run Tryz.prog w = .ok (.slice (some ⟨g, o, none⟩) (L.ps.length + 1) cap) w' ∧
      RowP w' { L with g := g, o := o, cap := cap, ps := L.ps ++ [(a, x)] } ∧ Only [L.g] w w' ∧ (g = L.g ∨ w.heap.size ≤ g) := by
  have hinfo : (Tryz.prog.info? 184).map (fun i => (i.zero, i.size, i.bytes)) = some (some (.agg #[.int .u64 0, .int .u64 0]), 2, 16) := by kernel_rfl
  obtain ⟨i, hi, hz0, hz1, hz2⟩ := info_parts hinfo
  obtain ⟨cur, h1, h2, h3, h4⟩ := id hr
  by_cases hroom : L.ps.length + 1 ≤ L.cap
  · have hrun := run_append_room_cells (P := Tryz.prog) w 140 ty 184 i Tryz.underlying140 hi L.g L.o L.ps.length L.cap ad 1 m [.int .u64 (a : Int), .int .u64 x] (by simp [hz1]) hn (by simp [Value.oneCell']) hroom
      (fun j hj => by rw [h1.cell]; simp at hj; rw [hz1]; simp; omega) (fun j hj => h1.frozen _)
    refine ⟨L.g, L.o, L.cap, _, hrun, ?_, ?_, Or.inl rfl⟩
    · rw [hz1]
      refine ⟨(cur.setIfInBounds (L.o + L.ps.length * 2) (.int .u64 (a : Int))).setIfInBounds (L.o + L.ps.length * 2 + 1) (.int .u64 x), (h1.set_ _ _).set_ _ _, by simp; exact hroom, by simpa using h3, ?_⟩
      simp only [Array.toList_setIfInBounds, List.length_append, List.length_cons, List.length_nil]
      rw [show (L.ps.length + (0 + 1)) * 2 = L.ps.length * 2 + 2 by omega, set_two _ _ _ _ _ (by simp; omega), h4, putC2_snoc]
    · exact ((Only.refl _ _).setCell (Or.inl (by simp)) _).setCell (Or.inl (by simp)) _
  · obtain ⟨v', w', hrun, hown, hgr⟩ := run_append_arg_grows (P := Tryz.prog) w 140 ty 184 i (.agg #[.int .u64 0, .int .u64 0]) 2 16 Tryz.underlying140 hi hz0 hz1 hz2 rfl (by decide) ⟨L.g, L.o, none⟩ L.ps.length L.cap (putC2 L.ps) (putC2_length _) hr.cells ad 1 m [.int .u64 (a : Int), .int .u64 x] rfl hn (by omega) (by unfold maxLen; omega) (by omega)
    rcases hown.2 with ⟨_, h0⟩ | ⟨g, cap, cur', hv, hg, hh, hcap, hmx, hx⟩
    · omega
    · subst hv
      refine ⟨g, 0, cap, w', hrun, ?_, Only.of_grown hgr (fun k hk => by cases hk), Or.inr hg⟩
      refine ⟨cur', hh, by simpa using hcap, by simp [hx.1], ?_⟩
      rw [List.drop_zero, putC2_snoc, List.length_append]
      exact hx.2

end Go.Proofs.YtbkaemajjaiklaaGreat

/- A memory of words: a line turned whose row may be a new one; append by its run equation. -/
namespace Go.Proofs.YtbkaemajjaiklaaGreat
open Go.RowKit
set_option linter.unusedVariables false
set_option linter.unusedSimpArgs false

section
variable {P : Program}
theorem wp_append_runI (w : World) {o : Oper} {a : Act} {K : Act → World → Prop} {Q : Exit → Act → World → Prop} (d s : Operand) (t t' : TypeId)
    (ho : o.op = .call { callee := .builtin .append, args := #[d, s], argTypes := #[t, t'] }) (v u : Value) (hd : a.eval d = v) (hs : a.eval s = u) {v' : Value} {w' : World}
    (hr : (Builtin.append_ #[t, t'] o.type #[v, u]).run P w = .ok v' w') (h : K (a.put o.dst v') w') : o.wp P a w K Q := by
  unfold Oper.wp execOp
  simp only [ho, resolve, invoke, builtin, Sem.run_bind, Sem.run_pure, Result.andThen_ok, List.map_toArray, List.map_cons, List.map_nil, hd, hs, hr]
  exact h
theorem wpList_append_runI (w : World) {ops : Array Oper} {rest : List Oper} {o : Oper} {a : Act} {Q : Exit → Act → World → Prop} (hgd : o.guard = none) (d s : Operand) (t t' : TypeId)
    (ho : o.op = .call { callee := .builtin .append, args := #[d, s], argTypes := #[t, t'] }) (v u : Value) (hd : a.eval d = v) (hs : a.eval s = u) {v' : Value} {w' : World}
    (hr : (Builtin.append_ #[t, t'] o.type #[v, u]).run P w = .ok v' w') (h : wpList P ops Q rest (a.put o.dst v') w') : wpList P ops Q (o :: rest) a w :=
  wpList_plain hgd fun _ hK => wp_append_runI w d s t t' ho v u hd hs hr (hK _ _ h)
end

theorem nodup_mid {α : Type} {pre post : List α} {x y : α} (h : (pre ++ x :: post).Nodup) (hy : ∀ z ∈ pre ++ x :: post, z ≠ y) : (pre ++ y :: post).Nodup := by
  rw [List.nodup_append, List.nodup_cons] at h ⊢
  refine ⟨h.1, ⟨fun hm => hy y (by simp [hm]) rfl, h.2.1.2⟩, fun a ha b hb => ?_⟩
  rcases List.mem_cons.1 hb with rfl | hb
  · exact hy a (by simp [ha])
  · exact h.2.2 a ha b (List.mem_cons_of_mem _ hb)
/-- a line turned: its row may be a new one; all else stands in w1, and the map's block is turned behind -/
theorem MemIs.relineG {w1 w' : World} {m : Nat} {B : MB} {M : MemS} {pre post : List LineA} {L L' : LineA}
    (blk : Blk w1 m 133 (memC B M.view.length M.st)) (pos : 0 < M.view.length) (big : M.view.length ≤ 131072) (len : M.image.length = M.view.length) (view : WordsAt w1 B.vb M.view) (image : WordsAt w1 B.ib M.image)
    (map : w1.heap[B.lb]? = some (.map (M.lines.map lineE).toArray M.clock)) (rows : ∀ x ∈ pre ++ post, RowP w1 x) (row : RowP w1 L') (ok : ∀ x ∈ M.lines, LineOK M.view.length x) (ok' : LineOK M.view.length L')
    (keys : M.lines.Pairwise fun a b => a.adr ≠ b.adr) (born : M.lines.Pairwise fun a b => a.born ≠ b.born) (old : ∀ x ∈ M.lines, x.born < M.clock) (apart : (footM m B M).Nodup)
    (hM : M.lines = pre ++ L :: post) (ha : L'.adr = L.adr) (hb : L'.born = L.born) (hg : L'.g = L.g ∨ ∀ k ∈ footM m B M, k ≠ L'.g)
    (hw : w' = w1.putObj B.lb (.map ((pre ++ L' :: post).map lineE).toArray M.clock)) : MemIs w' m B { M with lines := pre ++ L' :: post } := by
  have hfar : m ≠ B.lb ∧ B.vb ≠ B.lb ∧ B.ib ≠ B.lb ∧ ∀ L ∈ M.lines, L.g ≠ B.lb := by
    have h1 := apart
    simp only [footM, List.nodup_cons, List.mem_cons, not_or, List.mem_map, not_exists, not_and] at h1
    exact ⟨h1.1.2.2.1, h1.2.1.2.1, h1.2.2.1.1, fun L hL => h1.2.2.2.1 L hL⟩
  obtain ⟨f0, f1, f2, f3⟩ := hfar
  have hL : L ∈ M.lines := by rw [hM]; simp
  have f4 : L'.g ≠ B.lb := by
    rcases hg with h | h
    · rw [h]; exact f3 L hL
    · exact (h B.lb (by simp [footM])).symm
  have ho : Only [B.lb] w1 w' := by rw [hw]; exact (Only.refl _ _).putObj (Or.inl (by simp)) _
  have mem : ∀ {p : LineA → Prop}, (∀ x ∈ M.lines, p x) → p L' → ∀ x ∈ pre ++ L' :: post, p x := by
    intro p h1 h2 x hx
    rw [hM] at h1
    rcases List.mem_append.1 hx with hx | hx
    · exact h1 x (List.mem_append_left _ hx)
    · rcases List.mem_cons.1 hx with rfl | hx
      · exact h2
      · exact h1 x (List.mem_append_right _ (List.mem_cons_of_mem _ hx))
  have hmem : ∀ x ∈ pre ++ post, x ∈ M.lines := by
    intro x hx
    rw [hM]
    rcases List.mem_append.1 hx with hx | hx
    · exact List.mem_append_left _ hx
    · exact List.mem_append_right _ (List.mem_cons_of_mem _ hx)
  exact {
    blk := ho.blk blk (by simpa using f0)
    pos := pos
    big := big
    len := len
    view := view.only ho (by simpa using f1)
    image := image.only ho (by simpa using f2)
    map := by rw [hw]; exact putObj_at map
    rows := by
      intro x hx
      rcases List.mem_append.1 hx with hx | hx
      · exact (rows x (List.mem_append_left _ hx)).only ho (by simpa using f3 x (hmem x (List.mem_append_left _ hx)))
      · rcases List.mem_cons.1 hx with rfl | hx
        · exact row.only ho (by simpa using f4)
        · exact (rows x (List.mem_append_right _ hx)).only ho (by simpa using f3 x (hmem x (List.mem_append_right _ hx)))
    ok := mem ok ok'
    keys := by have := keys; rw [hM] at this; exact pairwise_mid (R := fun a b => a ≠ b) (fun x : LineA => x.adr) ha.symm this
    born := by have := born; rw [hM] at this; exact pairwise_mid (R := fun a b => a ≠ b) (fun x : LineA => x.born) hb.symm this
    old := mem (p := fun x => x.born < M.clock) old (by rw [hb]; exact old L hL)
    apart := by
      have e1 : footM m B M = (m :: B.vb :: B.ib :: B.lb :: pre.map (·.g)) ++ L.g :: post.map (·.g) := by simp only [footM, hM, List.map_append, List.map_cons, List.cons_append]
      have e2 : footM m B { M with lines := pre ++ L' :: post } = (m :: B.vb :: B.ib :: B.lb :: pre.map (·.g)) ++ L'.g :: post.map (·.g) := by simp only [footM, List.map_append, List.map_cons, List.cons_append]
      rw [e2]
      rcases hg with h | h
      · rw [h, ← e1]; exact apart
      · rw [e1] at apart h; exact nodup_mid apart h }

end Go.Proofs.YtbkaemajjaiklaaGreat

/- A memory of words: stores to a line that is there. -/
namespace Go.Proofs.YtbkaemajjaiklaaGreat
open Go.RowKit
set_option linter.unusedVariables false
set_option linter.unusedSimpArgs false

theorem MemIs.vb_far {w : World} {m : Nat} {B : MB} {M : MemS} (h : MemIs w m B M) : m ≠ B.vb ∧ B.ib ≠ B.vb ∧ B.lb ≠ B.vb ∧ ∀ L ∈ M.lines, L.g ≠ B.vb := by
  have h1 := h.apart
  simp only [footM, List.nodup_cons, List.mem_cons, not_or, List.mem_map, not_exists, not_and] at h1
  exact ⟨h1.1.1, fun e => h1.2.1.1 e.symm, fun e => h1.2.1.2.1 e.symm, fun L hL => h1.2.1.2.2 L hL⟩
/-- a word of the view -/
theorem MemIs.word {w : World} {m : Nat} {B : MB} {M : MemS} (h : MemIs w m B M) (k : Nat) (x : Int) : MemIs (w.setCell ⟨B.vb, k, none⟩ (.int .u64 x)) m B { M with view := M.view.set k x } := by
  obtain ⟨f0, f1, f2, f3⟩ := h.vb_far
  have ho : Only [B.vb] w (w.setCell ⟨B.vb, k, none⟩ (.int .u64 x)) := (Only.refl _ _).setCell (Or.inl (by simp)) _
  have hl : (M.view.set k x).length = M.view.length := List.length_set
  exact {
    blk := by rw [hl]; exact ho.blk h.blk (by simpa using f0)
    pos := by rw [hl]; exact h.pos
    big := by rw [hl]; exact h.big
    len := by rw [hl]; exact h.len
    view := h.view.set_ k x
    image := h.image.only ho (by simpa using f1)
    map := (ho.block _ (h.foot_lt _ (by simp [footM])) (by simpa using f2)).trans h.map
    rows := fun L hL => (h.rows L hL).only ho (by simpa using f3 L hL)
    ok := fun L hL => by rw [hl]; exact h.ok L hL
    keys := h.keys
    born := h.born
    old := h.old
    apart := h.apart }

set_option maxRecDepth 100000 in
set_option maxHeartbeats 1000000 in
theorem Store_some (m : Nat) (B : MB) (M : MemS) (k : Nat) (x : Int) (hk : k < M.view.length) (pre post : List LineA) (L : LineA) (hM : M.lines = pre ++ L :: post) (hadr : L.adr = 8 * k - 8 * k % 64) (hlen : L.ps.length ≤ 1000000000) (w : World) (h : MemIs w m B M) :
    Calls Tryz.prog 112 #[ptrV m, .int .u64 (8 * (k : Int)), .int .u64 x] w fun e w' =>
      e = .returned (.int .i64 0) ∧ ∃ s g o cap, s.a = M.st.a ∧ s.b = (M.st.b + 1) % 18446744073709551616 ∧ s.c = M.st.c ∧ s.d = M.st.d ∧
        MemIs w' m B { M with st := s, view := M.view.set k x, lines := pre ++ { L with g := g, o := o, cap := cap, ps := L.ps ++ [(8 * k, x)] } :: post } ∧ Only [m, B.vb, B.lb, L.g] w w' ∧ (g = L.g ∨ w.heap.size ≤ g) := by
  have hbig := h.big
  have hL : L ∈ M.lines := by rw [hM]; simp
  have hok := h.ok L hL
  have x0 : w.cell? ⟨m, 0, none⟩ = some (.slice (some ⟨B.vb, 0, none⟩) M.view.length B.vc) := h.blk.cell 0
  have x4 : w.cell? ⟨m, 4, none⟩ = some (.int .u64 M.st.b) := h.blk.cell 4
  have x4f := h.blk.frozen 4
  have xv : w.cell? ⟨B.vb, k, none⟩ = some (.int .u64 (M.view[k]'hk)) := h.view.cell (List.getElem?_eq_getElem hk)
  have xvf := h.view.frozen k
  have ne : B.vb ≠ m := fun e => h.vb_far.1 e.symm
  have i1 : (8 * (k : Int)) / 8 = k := by omega
  have i3 : (0 : Int) ≤ k := by omega
  have i4 : (k : Int) < (M.view.length : Int) := by omega
  have hz := hid (show atE M.view.length (8 * (k : Int)) = 0 from if_pos ⟨by omega, by omega⟩)
  have z378 := line_zero
  obtain ⟨N, hN⟩ : ∃ N, N = 66 := ⟨_, rfl⟩
  have s378 : ∀ w, (sizeOf 143).run Tryz.prog w = .ok N w := by rw [hN]; exact line_sizeOf
  have a378 := line_isAgg
  have n378 : lineZ.size = N := lineZ_size.trans hN.symm
  have n2 : (lineC L).size = N := (lineC_size hok).trans hN.symm
  have HN := hid hN
  have HM := hid hM
  have HA := hid hadr
  have H := hid h
  clear h hM hadr hN
  go_enter Tryz.func112, Tryz.ntmps112
  go_wp2_with fail
  refine (at_z m B M.view.length M.st H.out.pos hbig (8 * (k : Int)) (by omega) (by omega) _ H.out.blk).mono ?_
  rintro e w1 ⟨rfl, rfl⟩
  rw [hz.out]
  go_wp2
  obtain ⟨W1, hW1⟩ : ∃ W1, W1 = (w.setCell ⟨m, 4, none⟩ (.int .u64 (IntKind.u64.wrap (M.st.b + 1)))).setCell ⟨B.vb, k, none⟩ (.int .u64 x) := ⟨_, rfl⟩
  rw [← hW1]
  have H1 : Hid (MemIs W1 m B { M with st := ⟨M.st.a, IntKind.u64.wrap (M.st.b + 1), M.st.c, M.st.d⟩, view := M.view.set k x }) := by
    rw [hW1]
    exact MemIs.word (M := { M with st := ⟨M.st.a, IntKind.u64.wrap (M.st.b + 1), M.st.c, M.st.d⟩ }) (H.out.counts ((Only.refl _ _).setCell (Or.inl (by simp)) _) (H.out.blk.set_ 4 _)) k x
  have HO1 := hid (show Only [m, B.vb, B.lb, L.g] w W1 by rw [hW1]; exact ((Only.refl _ _).setCell (Or.inl (by simp)) _).setCell (Or.inl (by simp)) _)
  clear hW1
  have y2 : W1.drew.cell? ⟨m, 2, none⟩ = some (.map (some B.lb)) := H1.out.blk.drew.cell 2
  have y2' : (W1.alloc (.cells lineZ 143)).drew.cell? ⟨m, 2, none⟩ = some (.map (some B.lb)) := (H1.out.blk.drew.alloc _).cell 2
  have e : (L.adr : Int) = 8 * (k : Int) - 8 * (k : Int) % 64 := by rw [HA.out]; omega
  have hlk0 : ∀ W : World, W.heap[B.lb]? = some (.map (M.lines.map lineE).toArray M.clock) → (Instr.lookup 129 (.map (some B.lb)) (.int .u64 (8 * (k : Int) - 8 * (k : Int) % 64)) false).run Tryz.prog W = .ok (.agg (lineC L)) W := by
    intro W hW
    have := run_lookU_some (P := Tryz.prog) W 129 24 143 Tryz.underlying129 Tryz.underlying24 B.lb _ _ hW (L.adr : Int) pre.length (.agg (lineC L)) false (by simpa using find_line HM.out H.out.keys)
    rw [e] at this; exact this
  have hlk := hlk0 W1.drew H1.out.map
  have hlk' := hlk0 (W1.alloc (.cells lineZ 143)).drew (by show (W1.alloc _).heap[B.lb]? = _; rw [Below.heap_alloc W1 _ _ (H1.out.foot_lt _ (by simp [footM]))]; exact H1.out.map)
  have hst : (storeCells ⟨W1.heap.size, 0, none⟩ (lineC L).toList 0).run Tryz.prog (W1.alloc (.cells lineZ 143)).drew = .ok () (W1.alloc (.cells (lineC L) 143)).drew :=
    run_storeCells_new (P := Tryz.prog) W1.drew 143 lineZ (lineC L) (by rw [line_size, lineC_size hok]) (by rw [lineC_size hok]; rfl) (lineC_one L)
  clear x0 x4 x4f xv xvf hlk0 e
  refine share (X := ?X) (fun key => ?_) ?_
  rotate_left
  · go_region_with (first
      | (go_at_call 104; refine (begin_z (8 * (k : Int)) (by omega) (by omega) _).mono ?_; rintro e w2 ⟨rfl, rfl⟩))
    all_goals
      try go_simp
      try simp only [Act.put, List.setIfInBounds_toArray, List.set_cons_zero, List.set_cons_succ]
      exact key.out
  clear y2 y2' hlk hlk' hst
  have b2 := (Blk.new W1 143 (lineC L)).drew
  have h2 := H1.out.only (((Only.refl [] W1).alloc (.cells (lineC L) 143)).drew) (fun k _ hk => by cases hk)
  have o2 : Only [m, B.vb, B.lb, L.g] w (W1.alloc (.cells (lineC L) 143)).drew := (HO1.out.alloc _).drew
  have n3 : ∀ k ∈ footM m B M, k ≠ W1.heap.size := fun k hk e => by have := H1.out.foot_lt k hk; omega
  have o3 : w.heap.size ≤ W1.heap.size := HO1.out.size
  obtain ⟨X, hX⟩ : ∃ X, X = W1.heap.size := ⟨_, rfl⟩
  obtain ⟨W2, hW2⟩ : ∃ W2, W2 = (W1.alloc (.cells (lineC L) 143)).drew := ⟨_, rfl⟩
  rw [← hW2, ← hX]
  rw [← hW2] at h2 o2
  rw [← hW2, ← hX] at b2
  rw [← hX] at n3 o3
  have H2 := hid h2
  have O2 := hid o2
  have N3 := hid n3
  have B2 := hid b2
  clear hW2 hX h2 o2 n3 H1 HO1
  have z0 : W2.cell? ⟨X, 0, none⟩ = some (.slice (some ⟨L.g, L.o, none⟩) L.ps.length L.cap) := B2.out.cell 0
  have zf := B2.out.frozen 0
  clear b2
  have hrow2 : RowP (W2.alloc (.cells #[.int .u64 (8 * (k : Int)), .int .u64 x] 184)) L := (H2.out.rows L (by rw [HM.out]; simp)).only ((Only.refl [] W2).alloc _) (fun h => by cases h)
  have hnew : ∀ j u, [Value.int .u64 ((8 * k : Nat) : Int), .int .u64 x][j]? = some u → (W2.alloc (.cells #[.int .u64 (8 * (k : Int)), .int .u64 x] 184)).cell? ((⟨W2.heap.size, 0, none⟩ : Addr).add j) = some u := by
    intro j u hj
    have hadd : (⟨W2.heap.size, 0, none⟩ : Addr).add j = ⟨W2.heap.size, j, none⟩ := by unfold Addr.add; split <;> simp_all
    rw [hadd, (Blk.new W2 184 #[.int .u64 (8 * (k : Int)), .int .u64 x]).cell j, ← hj]
    simp
  obtain ⟨g, o, cap, w5, hrun, hrow5, ho5, hg5⟩ := append_line (W2.alloc (.cells #[.int .u64 (8 * (k : Int)), .int .u64 x] 184)) 140 L hrow2 ⟨W2.heap.size, 0, none⟩ 1 (8 * k) x hnew hlen
  have lg : L.g ∈ footM m B M := by simp only [footM, List.mem_cons, List.mem_map]; exact Or.inr (Or.inr (Or.inr (Or.inr ⟨L, by rw [HM.out]; simp, rfl⟩)))
  have hXg : X ≠ L.g := (N3.out _ lg).symm
  have b5 : Blk w5 X 143 (lineC L) := ho5.blk (B2.out.alloc _) (by simpa using hXg)
  have z5 : w5.cell? ⟨X, 0, none⟩ = some (.slice (some ⟨L.g, L.o, none⟩) L.ps.length L.cap) := b5.cell 0
  have zf5 := b5.frozen 0
  have HRUN := hid hrun
  have B5 := hid b5
  have R5 := hid hrow5
  have O5 := hid ho5
  have G5 := hid hg5
  clear hrow2 hnew hrun hrow5 ho5 hg5 b5 lg
  go_wp2_with (at_builtin; refine wpList_append_runI _ rfl (.tmp 40) (.tmp 44) 140 140 rfl _ _ (by simp [Act.eval]) (by simp [Act.eval]) HRUN.out ?_)
  clear z0 zf z5 zf5
  obtain ⟨L', hL'⟩ : ∃ L' : LineA, L' = { L with g := g, o := o, cap := cap, ps := L.ps ++ [(8 * k, x)] } := ⟨_, rfl⟩
  have e6 : (lineC L).setIfInBounds 0 (.slice (some ⟨g, o, none⟩) (L.ps.length + 1) cap) = lineC L' := by
    rw [hL']
    simp [lineC]
  have ok' : LineOK M.view.length L' := by
    rw [hL']
    refine ⟨hok.adr, by simp, fun p hp => ?_, hok.marks, fun q hq => by have := hok.most q hq; simp; omega⟩
    rcases List.mem_append.1 hp with hp | hp
    · exact hok.puts p hp
    · simp at hp; subst hp
      refine ⟨by simp, by simp; omega, ?_⟩
      have := HA.out
      simp; omega
  obtain ⟨W6, hW6⟩ : ∃ W6, W6 = w5.setCell ⟨X, 0, none⟩ (.slice (some ⟨g, o, none⟩) (L.ps.length + 1) cap) := ⟨_, rfl⟩
  rw [← hW6]
  have B6 : Hid (Blk W6 X 143 (lineC L')) := by rw [hW6, ← e6]; exact B5.out.set_ 0 _
  have O56 : Only [X] w5 W6 := by rw [hW6]; exact (Only.refl _ _).setCell (Or.inl (by simp)) _
  have O26 : Only [L.g, X] W2 W6 := (((Only.refl [L.g, X] W2).alloc _).trans O5.out (fun y hy => Or.inl (by simp at hy; simp [hy]))).trans O56 (fun y hy => Or.inl (by simp at hy; simp [hy]))
  have hnd := H2.out.apart
  have hfoot : footM m B { M with st := ⟨M.st.a, IntKind.u64.wrap (M.st.b + 1), M.st.c, M.st.d⟩, view := M.view.set k x } = footM m B M := rfl
  rw [hfoot] at hnd
  have hgne : (∀ y, y = m ∨ y = B.vb ∨ y = B.ib ∨ y = B.lb → y ≠ L.g) ∧ ∀ y ∈ pre ++ post, y.g ≠ L.g := by
    have e1 : footM m B M = (m :: B.vb :: B.ib :: B.lb :: pre.map (·.g)) ++ L.g :: post.map (·.g) := by simp only [footM, HM.out, List.map_append, List.map_cons, List.cons_append]
    rw [e1, List.nodup_append, List.nodup_cons] at hnd
    refine ⟨fun y hy => hnd.2.2 y (by rcases hy with rfl | rfl | rfl | rfl <;> simp) L.g (List.mem_cons_self ..), fun y hy => ?_⟩
    rcases List.mem_append.1 hy with hy | hy
    · exact hnd.2.2 y.g (by simp only [List.mem_cons, List.mem_map]; exact Or.inr (Or.inr (Or.inr (Or.inr ⟨y, hy, rfl⟩)))) L.g (List.mem_cons_self ..)
    · exact fun hc => (List.pairwise_cons.1 hnd.2.1).1 y.g (List.mem_map.2 ⟨y, hy, rfl⟩) hc.symm
  have far : ∀ y, y ∈ footM m B M → y ≠ L.g → y ∉ [L.g, X] := fun y hy hne hm => by
    have := N3.out y hy
    simp at hm
    rcases hm with h | h
    · exact hne h
    · exact this h
  have hblk : Blk W6.drew m 133 (memC B (M.view.set k x).length ⟨M.st.a, IntKind.u64.wrap (M.st.b + 1), M.st.c, M.st.d⟩) := (O26.blk H2.out.blk (far m (by simp [footM]) (hgne.1 m (by simp)))).drew
  have hmap : W6.drew.heap[B.lb]? = some (.map (M.lines.map lineE).toArray M.clock) := (O26.block _ (H2.out.foot_lt _ (by simp [footM])) (far B.lb (by simp [footM]) (hgne.1 B.lb (by simp)))).trans H2.out.map
  have y2 : W6.drew.cell? ⟨m, 2, none⟩ = some (.map (some B.lb)) := hblk.cell 2
  have hld : (loadCellsFrom ⟨X, 0, none⟩ 0 N #[]).run Tryz.prog W6.drew = .ok (lineC L') W6.drew := loadCells_blk B6.out.drew ((lineC_size ok').trans HN.out.symm)
  have la : L'.adr = L.adr := by rw [hL']
  have lb : L'.born = L.born := by rw [hL']
  have e : (L.adr : Int) = 8 * (k : Int) - 8 * (k : Int) % 64 := by rw [HA.out]; omega
  have hup : (Instr.mapUpdate 129 (.map (some B.lb)) (.int .u64 (8 * (k : Int) - 8 * (k : Int) % 64)) (.agg (lineC L'))).run Tryz.prog W6.drew =
      .ok () (W6.drew.putObj B.lb (.map ((pre ++ L' :: post).map lineE).toArray M.clock)) := by
    have := run_updU_old (P := Tryz.prog) W6.drew 129 24 143 Tryz.underlying129 Tryz.underlying24 B.lb _ _ hmap (L.adr : Int) (.agg (lineC L')) pre.length (.agg (lineC L)) (by simpa using find_line HM.out H2.out.keys) (by simp [HM.out, lineE])
    rw [e] at this
    rw [this, HM.out]
    congr 3
    have := modify_lines (pre := pre) (post := post) (L := L) (L' := L') la lb
    rw [e] at this
    exact this
  have fin : MemIs (W6.drew.putObj B.lb (.map ((pre ++ L' :: post).map lineE).toArray M.clock)) m B { M with st := ⟨M.st.a, IntKind.u64.wrap (M.st.b + 1), M.st.c, M.st.d⟩, view := M.view.set k x, lines := pre ++ L' :: post } :=
    MemIs.relineG (w1 := W6.drew) (M := { M with st := ⟨M.st.a, IntKind.u64.wrap (M.st.b + 1), M.st.c, M.st.d⟩, view := M.view.set k x }) (L := L) (L' := L') hblk H2.out.pos H2.out.big H2.out.len
      (H2.out.view.only (O26.drew) (far B.vb (by simp [footM]) (hgne.1 B.vb (by simp)))) (H2.out.image.only (O26.drew) (far B.ib (by simp [footM]) (hgne.1 B.ib (by simp)))) hmap
      (fun y hy => (H2.out.rows y (by rw [show M.lines = pre ++ L :: post from HM.out]; rcases List.mem_append.1 hy with h | h; exact List.mem_append_left _ h; exact List.mem_append_right _ (List.mem_cons_of_mem _ h))).only (O26.drew) (far y.g (by simp only [footM, List.mem_cons, List.mem_map]; exact Or.inr (Or.inr (Or.inr (Or.inr ⟨y, by rw [HM.out]; rcases List.mem_append.1 hy with h | h; exact List.mem_append_left _ h; exact List.mem_append_right _ (List.mem_cons_of_mem _ h), rfl⟩)))) (hgne.2 y hy)))
      (by
        have h1 : RowP w5 L' := by rw [hL']; exact R5.out
        refine (h1.only O56 ?_).only ((Only.refl [] W6).drew) (fun h => by cases h)
        rw [hL']
        simp only [List.mem_singleton]
        rcases G5.out with h | h
        · rw [h]; exact hXg.symm
        · simp at h
          have := B2.out.lt
          omega)
      (fun y hy => by simpa using H2.out.ok y hy) (by simpa using ok') H2.out.keys H2.out.born H2.out.old H2.out.apart HM.out la lb
      (by
        rw [hL']
        rcases G5.out with h | h
        · exact Or.inl h
        · right
          intro y hy
          show y ≠ g
          simp at h
          have := H2.out.foot_lt y hy
          omega) rfl
  have FIN := hid fin
  have O6 : Hid (Only [m, B.vb, B.lb, L.g] w W6) := O2.out.trans O26 (fun y hy => by
    simp at hy
    rcases hy with rfl | rfl
    · exact Or.inl (by simp)
    · exact Or.inr o3)
  have G6 : Hid (g = L.g ∨ w.heap.size ≤ g) := by
    rcases G5.out with h | h
    · exact Or.inl h
    · refine Or.inr ?_
      simp at h
      have := O2.out.size
      omega
  have HL' := hid hL'
  clear hW6 O56 O26 hnd hfoot hgne far hblk hmap e fin e6 ok' la lb hL' hXg
  refine share (X := ?Y) (fun key => ?_) ?_
  rotate_left
  · go_region_with (first
      | (go_at_call 104; refine (begin_z (8 * (k : Int)) (by omega) (by omega) _).mono ?_; rintro e w2 ⟨rfl, rfl⟩))
    all_goals
      try go_simp
      try simp only [Act.put, List.setIfInBounds_toArray, List.set_cons_zero, List.set_cons_succ]
      exact key.out
  go_wp2
  go_ret
  refine ⟨rfl, ⟨M.st.a, IntKind.u64.wrap (M.st.b + 1), M.st.c, M.st.d⟩, g, o, cap, rfl, rfl, rfl, rfl, ?_, (O6.out.drew).putObj (Or.inl (by simp)) _, G6.out⟩
  have h := FIN.out
  rw [HL'.out] at h
  simpa only [List.map_append, List.map_cons, HL'.out] using h

end Go.Proofs.YtbkaemajjaiklaaGreat

/- A memory of words: stores to a line that is not there. -/
namespace Go.Proofs.YtbkaemajjaiklaaGreat
open Go.RowKit
set_option linter.unusedVariables false
set_option linter.unusedSimpArgs false

def ks0 : List Nat := List.replicate 65 0
theorem append_none (w : World) (ty : TypeId) (ad : Addr) (m : Nat) (L : LineA) (a : Nat) (x : Int) (hn : ∀ j u, [Value.int .u64 (a : Int), .int .u64 x][j]? = some u → w.cell? (ad.add j) = some u) :
    ∃ g cap w', (Builtin.append_ #[140, 140] ty #[.slice none 0 0, .slice (some ad) 1 m]).run Tryz.prog w = .ok (.slice (some ⟨g, 0, none⟩) 1 cap) w' ∧
      RowP w' { L with g := g, o := 0, cap := cap, ps := [(a, x)] } ∧ Only [] w w' ∧ w.heap.size ≤ g := by
  have hinfo : (Tryz.prog.info? 184).map (fun i => (i.zero, i.size, i.bytes)) = some (some (.agg #[.int .u64 0, .int .u64 0]), 2, 16) := by kernel_rfl
  obtain ⟨i, hi, hz0, hz1, hz2⟩ := info_parts hinfo
  have hrun := run_append_nil (P := Tryz.prog) (w := w) 140 ty 184 i (.agg #[.int .u64 0, .int .u64 0]) Tryz.underlying140 hi hz0 ad 1 m [.int .u64 (a : Int), .int .u64 x] (by simp [hz1]) hn (by omega) (by omega) (by omega)
  have hge := grownCap_ge w 1 0 184
  refine ⟨_, _, _, hrun, ⟨_, Blk.new _ _ _, hge, ?_, ?_⟩, ((Only.refl _ _).drew).alloc _, by simp [World.drew]⟩
  · simp [Builtin.zeroCells, Value.cells]; omega
  · simp [putC2]
/-- a new line -/
theorem MemIs.pushL {w1 w' : World} {m : Nat} {B : MB} {M : MemS} {L' : LineA} (h : MemIs w1 m B M) (row : RowP w1 L') (ok' : LineOK M.view.length L') (hk : ∀ L ∈ M.lines, L.adr ≠ L'.adr) (hb : L'.born = M.clock) (hg : ∀ k ∈ footM m B M, k ≠ L'.g)
    (hw : w' = w1.putObj B.lb (.map ((M.lines ++ [L']).map lineE).toArray (M.clock + 1))) : MemIs w' m B { M with lines := M.lines ++ [L'], clock := M.clock + 1 } := by
  obtain ⟨f0, f1, f2, f3⟩ := h.lb_far
  have ho : Only [B.lb] w1 w' := by rw [hw]; exact (Only.refl _ _).putObj (Or.inl (by simp)) _
  have mem : ∀ {p : LineA → Prop}, (∀ x ∈ M.lines, p x) → p L' → ∀ x ∈ M.lines ++ [L'], p x := by
    intro p h1 h2 x hx
    rcases List.mem_append.1 hx with hx | hx
    · exact h1 x hx
    · rw [List.mem_singleton] at hx; subst hx; exact h2
  exact { h with
    blk := ho.blk h.blk (by simpa using f0)
    view := h.view.only ho (by simpa using f1)
    image := h.image.only ho (by simpa using f2)
    map := by rw [hw]; exact putObj_at h.map
    rows := mem (p := fun x => RowP w' x) (fun x hx => (h.rows x hx).only ho (by simpa using f3 x hx)) (row.only ho (by simpa using (hg B.lb (by simp [footM])).symm))
    ok := mem h.ok ok'
    keys := by
      rw [List.pairwise_append]
      exact ⟨h.keys, by simp, fun a ha b hb => by rw [List.mem_singleton] at hb; subst hb; exact hk a ha⟩
    born := by
      rw [List.pairwise_append]
      exact ⟨h.born, by simp, fun a ha b hb' => by rw [List.mem_singleton] at hb'; subst hb'; have := h.old a ha; rw [hb]; exact Nat.ne_of_lt this⟩
    old := mem (p := fun x => x.born < M.clock + 1) (fun x hx => Nat.lt_succ_of_lt (h.old x hx)) (by rw [hb]; exact Nat.lt_succ_self _)
    apart := by
      have e1 : footM m B { M with lines := M.lines ++ [L'], clock := M.clock + 1 } = footM m B M ++ [L'.g] := by simp only [footM, List.map_append, List.map_cons, List.map_nil, List.cons_append]
      rw [e1, List.nodup_append]
      exact ⟨h.apart, by simp, fun a ha b hb => by rw [List.mem_singleton] at hb; subst hb; exact hg a ha⟩ }

set_option maxRecDepth 100000 in
set_option maxHeartbeats 1000000 in
theorem Store_none (m : Nat) (B : MB) (M : MemS) (k : Nat) (x : Int) (hk : k < M.view.length) (hno : ∀ L ∈ M.lines, L.adr ≠ 8 * k - 8 * k % 64) (w : World) (h : MemIs w m B M) :
    Calls Tryz.prog 112 #[ptrV m, .int .u64 (8 * (k : Int)), .int .u64 x] w fun e w' =>
      e = .returned (.int .i64 0) ∧ ∃ (s : St4) (g cap : Nat), s.a = M.st.a ∧ s.b = (M.st.b + 1) % 18446744073709551616 ∧ s.c = M.st.c ∧ s.d = M.st.d ∧
        MemIs w' m B { M with st := s, view := M.view.set k x, lines := M.lines ++ [⟨8 * k - 8 * k % 64, g, 0, cap, [(8 * k, x)], ks0, M.clock⟩], clock := M.clock + 1 } ∧ Only [m, B.vb, B.lb] w w' ∧ w.heap.size ≤ g := by
  have hbig := h.big
  have x0 : w.cell? ⟨m, 0, none⟩ = some (.slice (some ⟨B.vb, 0, none⟩) M.view.length B.vc) := h.blk.cell 0
  have x4 : w.cell? ⟨m, 4, none⟩ = some (.int .u64 M.st.b) := h.blk.cell 4
  have x4f := h.blk.frozen 4
  have xv : w.cell? ⟨B.vb, k, none⟩ = some (.int .u64 (M.view[k]'hk)) := h.view.cell (List.getElem?_eq_getElem hk)
  have xvf := h.view.frozen k
  have ne : B.vb ≠ m := fun e => h.vb_far.1 e.symm
  have i1 : (8 * (k : Int)) / 8 = k := by omega
  have i3 : (0 : Int) ≤ k := by omega
  have i4 : (k : Int) < (M.view.length : Int) := by omega
  have hz := hid (show atE M.view.length (8 * (k : Int)) = 0 from if_pos ⟨by omega, by omega⟩)
  have z378 := line_zero
  obtain ⟨N, hN⟩ : ∃ N, N = 66 := ⟨_, rfl⟩
  have s378 : ∀ w, (sizeOf 143).run Tryz.prog w = .ok N w := by rw [hN]; exact line_sizeOf
  have a378 := line_isAgg
  have n378 : lineZ.size = N := lineZ_size.trans hN.symm
  have HN := hid hN
  have H := hid h
  clear h hN
  go_enter Tryz.func112, Tryz.ntmps112
  go_wp2_with fail
  refine (at_z m B M.view.length M.st H.out.pos hbig (8 * (k : Int)) (by omega) (by omega) _ H.out.blk).mono ?_
  rintro e w1 ⟨rfl, rfl⟩
  rw [hz.out]
  go_wp2
  obtain ⟨W1, hW1⟩ : ∃ W1, W1 = (w.setCell ⟨m, 4, none⟩ (.int .u64 (IntKind.u64.wrap (M.st.b + 1)))).setCell ⟨B.vb, k, none⟩ (.int .u64 x) := ⟨_, rfl⟩
  rw [← hW1]
  have H1 : Hid (MemIs W1 m B { M with st := ⟨M.st.a, IntKind.u64.wrap (M.st.b + 1), M.st.c, M.st.d⟩, view := M.view.set k x }) := by
    rw [hW1]
    exact MemIs.word (M := { M with st := ⟨M.st.a, IntKind.u64.wrap (M.st.b + 1), M.st.c, M.st.d⟩ }) (H.out.counts ((Only.refl _ _).setCell (Or.inl (by simp)) _) (H.out.blk.set_ 4 _)) k x
  have HO1 := hid (show Only [m, B.vb, B.lb] w W1 by rw [hW1]; exact ((Only.refl _ _).setCell (Or.inl (by simp)) _).setCell (Or.inl (by simp)) _)
  clear hW1
  have y2 : W1.drew.cell? ⟨m, 2, none⟩ = some (.map (some B.lb)) := H1.out.blk.drew.cell 2
  have y2' : (W1.alloc (.cells lineZ 143)).drew.cell? ⟨m, 2, none⟩ = some (.map (some B.lb)) := (H1.out.blk.drew.alloc _).cell 2
  have hf := find_none hno
  have hlk0 : ∀ W : World, W.heap[B.lb]? = some (.map (M.lines.map lineE).toArray M.clock) → (Instr.lookup 129 (.map (some B.lb)) (.int .u64 (8 * (k : Int) - 8 * (k : Int) % 64)) false).run Tryz.prog W = .ok (.agg lineZ) W := by
    intro W hW
    have := run_lookU_none (P := Tryz.prog) W 129 24 143 Tryz.underlying129 Tryz.underlying24 B.lb _ _ hW ((8 * k - 8 * k % 64 : Nat) : Int) (.agg lineZ) false (by kernel_rfl) (by simpa using hf)
    have e : ((8 * k - 8 * k % 64 : Nat) : Int) = 8 * (k : Int) - 8 * (k : Int) % 64 := by omega
    rw [e] at this; exact this
  have hlk := hlk0 W1.drew H1.out.map
  have hlk' := hlk0 (W1.alloc (.cells lineZ 143)).drew (by show (W1.alloc _).heap[B.lb]? = _; rw [Below.heap_alloc W1 _ _ (H1.out.foot_lt _ (by simp [footM]))]; exact H1.out.map)
  have hst : (storeCells ⟨W1.heap.size, 0, none⟩ lineZ.toList 0).run Tryz.prog (W1.alloc (.cells lineZ 143)).drew = .ok () (W1.alloc (.cells lineZ 143)).drew := run_storeCells_new (P := Tryz.prog) W1.drew 143 lineZ lineZ line_size rfl (by decide +kernel)
  clear x0 x4 x4f xv xvf hlk0 hf
  refine share (X := ?X) (fun key => ?_) ?_
  rotate_left
  · go_region_with (first
      | (go_at_call 104; refine (begin_z (8 * (k : Int)) (by omega) (by omega) _).mono ?_; rintro e w2 ⟨rfl, rfl⟩))
    all_goals
      try go_simp
      try simp only [Act.put, List.setIfInBounds_toArray, List.set_cons_zero, List.set_cons_succ]
      exact key.out
  clear y2 y2' hlk hlk' hst
  have b2 := (Blk.new W1 143 lineZ).drew
  have h2 := H1.out.only (((Only.refl [] W1).alloc (.cells lineZ 143)).drew) (fun k _ hk => by cases hk)
  have o2 : Only [m, B.vb, B.lb] w (W1.alloc (.cells lineZ 143)).drew := (HO1.out.alloc _).drew
  have n3 : ∀ k ∈ footM m B M, k ≠ W1.heap.size := fun k hk e => by have := H1.out.foot_lt k hk; omega
  have o3 : w.heap.size ≤ W1.heap.size := HO1.out.size
  obtain ⟨X, hX⟩ : ∃ X, X = W1.heap.size := ⟨_, rfl⟩
  obtain ⟨W2, hW2⟩ : ∃ W2, W2 = (W1.alloc (.cells lineZ 143)).drew := ⟨_, rfl⟩
  rw [← hW2, ← hX]
  rw [← hW2] at h2 o2
  rw [← hW2, ← hX] at b2
  rw [← hX] at n3 o3
  have H2 := hid h2
  have O2 := hid o2
  have N3 := hid n3
  have B2 := hid b2
  clear hW2 hX h2 o2 n3 H1 HO1
  have z0 : W2.cell? ⟨X, 0, none⟩ = some (.slice none 0 0) := B2.out.cell 0
  have zf := B2.out.frozen 0
  clear b2
  have hnew : ∀ j u, [Value.int .u64 ((8 * k : Nat) : Int), .int .u64 x][j]? = some u → (W2.alloc (.cells #[.int .u64 (8 * (k : Int)), .int .u64 x] 184)).cell? ((⟨W2.heap.size, 0, none⟩ : Addr).add j) = some u := by
    intro j u hj
    have hadd : (⟨W2.heap.size, 0, none⟩ : Addr).add j = ⟨W2.heap.size, j, none⟩ := by unfold Addr.add; split <;> simp_all
    rw [hadd, (Blk.new W2 184 #[.int .u64 (8 * (k : Int)), .int .u64 x]).cell j, ← hj]
    simp
  obtain ⟨g, cap, w5, hrun, hrow5, ho5, hg5⟩ := append_none (W2.alloc (.cells #[.int .u64 (8 * (k : Int)), .int .u64 x] 184)) 140 ⟨W2.heap.size, 0, none⟩ 1 ⟨8 * k - 8 * k % 64, 0, 0, 0, [], ks0, M.clock⟩ (8 * k) x hnew
  have b5 : Blk w5 X 143 lineZ := ho5.blk (B2.out.alloc _) (by simp)
  have z5 : w5.cell? ⟨X, 0, none⟩ = some (.slice none 0 0) := b5.cell 0
  have zf5 := b5.frozen 0
  have HRUN := hid hrun
  have B5 := hid b5
  have R5 := hid hrow5
  have O5 := hid ho5
  have G5 := hid hg5
  clear hnew hrun hrow5 ho5 hg5 b5
  go_wp2_with (at_builtin; refine wpList_append_runI _ rfl (.tmp 40) (.tmp 44) 140 140 rfl _ _ (by simp [Act.eval]) (by simp [Act.eval]) HRUN.out ?_)
  clear z0 zf z5 zf5
  obtain ⟨L', hL'⟩ : ∃ L' : LineA, L' = ⟨8 * k - 8 * k % 64, g, 0, cap, [(8 * k, x)], ks0, M.clock⟩ := ⟨_, rfl⟩
  have e6 : lineZ.setIfInBounds 0 (.slice (some ⟨g, 0, none⟩) 1 cap) = lineC L' := by
    rw [hL']
    simp [lineC, lineZ, marksC, ks0]
  have ok' : LineOK M.view.length L' := by
    rw [hL']
    refine ⟨by simp; omega, by simp, fun p hp => ?_, by simp [ks0], fun q hq => by have := List.eq_of_mem_replicate hq; omega⟩
    simp at hp; subst hp
    exact ⟨by simp, by simp; omega, rfl⟩
  obtain ⟨W6, hW6⟩ : ∃ W6, W6 = w5.setCell ⟨X, 0, none⟩ (.slice (some ⟨g, 0, none⟩) 1 cap) := ⟨_, rfl⟩
  rw [← hW6]
  have B6 : Hid (Blk W6 X 143 (lineC L')) := by rw [hW6, ← e6]; exact B5.out.set_ 0 _
  have O56 : Only [X] w5 W6 := by rw [hW6]; exact (Only.refl _ _).setCell (Or.inl (by simp)) _
  have O26 : Only [X] W2 W6 := (((Only.refl [X] W2).alloc _).trans O5.out (fun y hy => by cases hy)).trans O56 (fun y hy => Or.inl hy)
  have far : ∀ y, y ∈ footM m B M → y ∉ [X] := fun y hy hm => N3.out y hy (by simpa using hm)
  have h6 : MemIs W6.drew m B { M with st := ⟨M.st.a, IntKind.u64.wrap (M.st.b + 1), M.st.c, M.st.d⟩, view := M.view.set k x } := H2.out.only O26.drew far
  have y2 : W6.drew.cell? ⟨m, 2, none⟩ = some (.map (some B.lb)) := h6.blk.cell 2
  have hld : (loadCellsFrom ⟨X, 0, none⟩ 0 N #[]).run Tryz.prog W6.drew = .ok (lineC L') W6.drew := loadCells_blk B6.out.drew ((lineC_size ok').trans HN.out.symm)
  have hup : (Instr.mapUpdate 129 (.map (some B.lb)) (.int .u64 (8 * (k : Int) - 8 * (k : Int) % 64)) (.agg (lineC L'))).run Tryz.prog W6.drew =
      .ok () (W6.drew.putObj B.lb (.map ((M.lines ++ [L']).map lineE).toArray (M.clock + 1))) := by
    have e : ((8 * k - 8 * k % 64 : Nat) : Int) = 8 * (k : Int) - 8 * (k : Int) % 64 := by omega
    have := run_updU_new (P := Tryz.prog) W6.drew 129 24 143 Tryz.underlying129 Tryz.underlying24 B.lb _ _ h6.map ((8 * k - 8 * k % 64 : Nat) : Int) (.agg (lineC L')) (by simpa using find_none hno)
    rw [e] at this
    rw [this]
    congr 3
    rw [List.push_toArray, List.map_append, List.map_cons, List.map_nil]
    congr 2
    simp only [lineE, hL', e]
  have rowX : X ≠ g := fun hc => by have h1 := G5.out; have h2 := B2.out.lt; simp at h1; omega
  have fin := MemIs.pushL (L' := L') h6
    (by
      have h1 : RowP w5 L' := by rw [hL']; exact R5.out
      exact (h1.only O56 (by rw [hL']; simpa using rowX.symm)).only ((Only.refl [] W6).drew) (fun h => by cases h))
    (by simpa using ok') (fun L hL => by rw [hL']; exact hno L hL) (by rw [hL']) (by
      intro y hy
      rw [hL']
      show y ≠ g
      have h1 := G5.out
      have h2 := H2.out.foot_lt y hy
      simp at h1
      omega) rfl
  have FIN := hid fin
  have O6 : Hid (Only [m, B.vb, B.lb] w W6) := O2.out.trans O26 (fun y hy => by
    simp at hy
    subst hy
    exact Or.inr o3)
  have G6 : Hid (w.heap.size ≤ g) := by
    have h1 := G5.out
    simp at h1
    have := O2.out.size
    exact Nat.le_trans this (by omega)
  have HL' := hid hL'
  clear hW6 O56 O26 far h6 fin e6 ok' hL' rowX
  refine share (X := ?Y) (fun key => ?_) ?_
  rotate_left
  · go_region_with (first
      | (go_at_call 104; refine (begin_z (8 * (k : Int)) (by omega) (by omega) _).mono ?_; rintro e w2 ⟨rfl, rfl⟩))
    all_goals
      try go_simp
      try simp only [Act.put, List.setIfInBounds_toArray, List.set_cons_zero, List.set_cons_succ]
      exact key.out
  go_wp2
  go_ret
  refine ⟨rfl, ⟨M.st.a, IntKind.u64.wrap (M.st.b + 1), M.st.c, M.st.d⟩, rfl, rfl, rfl, rfl, g, ⟨cap, ?_⟩, (O6.out.drew).putObj (Or.inl (by simp)) _, G6.out⟩
  have h := FIN.out
  rw [HL'.out] at h
  simp only [List.map_append, List.map_cons, List.map_nil, HL'.out] at h ⊢
  exact h

end Go.Proofs.YtbkaemajjaiklaaGreat

/- A memory of words: some of a line's stores last. -/
namespace Go.Proofs.YtbkaemajjaiklaaGreat
open Go.RowKit
set_option linter.unusedVariables false
set_option linter.unusedSimpArgs false

def applyPuts (im : List Int) (ps : List (Nat × Int)) : List Int := ps.foldl (fun im p => im.set (p.1 / 8) p.2) im
theorem applyPuts_length (im : List Int) (ps : List (Nat × Int)) : (applyPuts im ps).length = im.length := by
  induction ps generalizing im with
  | nil => rfl
  | cons p ps ih => exact (ih _).trans List.length_set
theorem applyPuts_snoc (im : List Int) (ps : List (Nat × Int)) (p : Nat × Int) : applyPuts im (ps ++ [p]) = (applyPuts im ps).set (p.1 / 8) p.2 := by simp [applyPuts]
def cutL (L : LineA) (k : Nat) : LineA := { L with o := L.o + k * 2, cap := L.ps.length - k, ps := L.ps.drop k, ks := L.ks.map (· - k) }
def lastM (M : MemS) (pre : List LineA) (L : LineA) (post : List LineA) (k : Nat) : MemS :=
  { M with image := applyPuts M.image (L.ps.take k), lines := pre ++ (if k = L.ps.length then [] else [cutL L k]) ++ post }

def lineX (Pt : Option Addr) (r : Nat) (ks : List Nat) : Array Value := (Value.slice Pt r r :: marksC ks).toArray
theorem lineX_of (L : LineA) (Pt : Option Addr) (r : Nat) : (lineC L).setIfInBounds 0 (.slice Pt r r) = lineX Pt r L.ks := by simp [lineC, lineX]
theorem lineX_mark {Pt : Option Addr} {r : Nat} {ks : List Nat} {c : Nat} (k : Nat) : (lineX Pt r ks).setIfInBounds (c + 1) (.int .i64 (k : Int)) = lineX Pt r (ks.set c k) := by
  unfold lineX marksC
  rw [List.setIfInBounds_toArray, List.set_cons_succ, List.map_set]
def mixK (ks : List Nat) (k j : Nat) : List Nat := (ks.take j).map (· - k) ++ ks.drop j
theorem mixK_get {ks : List Nat} {k j a : Nat} (h : ks[j]? = some a) : (mixK ks k j)[j]? = some a := by
  have hl : j < ks.length := (List.getElem?_eq_some_iff.1 h).1
  unfold mixK
  rw [List.getElem?_append_right (by simp; omega)]
  simp [Nat.min_eq_left (Nat.le_of_lt hl), h]
theorem mixK_set {ks : List Nat} {k j a : Nat} (h : ks[j]? = some a) : (mixK ks k j).set j (a - k) = mixK ks k (j + 1) := by
  obtain ⟨hl, he⟩ := List.getElem?_eq_some_iff.1 h
  unfold mixK
  rw [List.set_append_right _ _ (by simp; omega), List.drop_eq_getElem_cons hl, List.take_succ_eq_append_getElem hl]
  simp [Nat.min_eq_left (Nat.le_of_lt hl), he]
theorem mixK_all {ks : List Nat} {k j : Nat} (h : ks.length ≤ j) : mixK ks k j = ks.map (· - k) := by
  unfold mixK
  rw [List.take_of_length_le h, List.drop_eq_nil_of_le h, List.append_nil]
/-- other words have lasted -/
theorem MemIs.img {w w' : World} {m X : Nat} {B : MB} {M : MemS} (h : MemIs w m B M) (ho : Only [B.ib, X] w w') (hX : ∀ k ∈ footM m B M, k ≠ X) {im : List Int} (hi : WordsAt w' B.ib im) (hl : im.length = M.view.length) : MemIs w' m B { M with image := im } := by
  have h1 := h.apart
  simp only [footM, List.nodup_cons, List.mem_cons, not_or, List.mem_map, not_exists, not_and] at h1
  have g : ∀ k ∈ footM m B M, k ≠ B.ib → k ∉ [B.ib, X] := fun k hk hne hm => by
    simp at hm
    rcases hm with e | e
    · exact hne e
    · exact hX k hk e
  have hLf : ∀ L ∈ M.lines, L.g ∈ footM m B M := fun L hL => by simp only [footM, List.mem_cons, List.mem_map]; exact Or.inr (Or.inr (Or.inr (Or.inr ⟨L, hL, rfl⟩)))
  exact { h with
    blk := ho.blk h.blk (g m (by simp [footM]) h1.1.2.1)
    len := hl
    view := h.view.only ho (g B.vb (by simp [footM]) h1.2.1.1)
    image := hi
    map := (ho.block _ (h.foot_lt _ (by simp [footM])) (g B.lb (by simp [footM]) (fun e => h1.2.2.1.1 e.symm))).trans h.map
    rows := fun L hL => (h.rows L hL).only ho (g L.g (hLf L hL) (h1.2.2.1.2 L hL)) }
/-- a line let go -/
theorem MemIs.dropL {w w' : World} {m : Nat} {B : MB} {M : MemS} {pre post : List LineA} {L : LineA} (h : MemIs w m B M) (hM : M.lines = pre ++ L :: post)
    (hw : w' = w.putObj B.lb (.map ((pre ++ post).map lineE).toArray M.clock)) : MemIs w' m B { M with lines := pre ++ post } := by
  obtain ⟨f0, f1, f2, f3⟩ := h.lb_far
  have ho : Only [B.lb] w w' := by rw [hw]; exact (Only.refl _ _).putObj (Or.inl (by simp)) _
  have hs : List.Sublist (pre ++ post) M.lines := by rw [hM]; exact List.Sublist.append_left (List.sublist_cons_self ..) _
  have mem : ∀ x ∈ pre ++ post, x ∈ M.lines := fun x hx => hs.subset hx
  exact { h with
    blk := ho.blk h.blk (by simpa using f0)
    view := h.view.only ho (by simpa using f1)
    image := h.image.only ho (by simpa using f2)
    map := by rw [hw]; exact putObj_at h.map
    rows := fun x hx => (h.rows x (mem x hx)).only ho (by simpa using f3 x (mem x hx))
    ok := fun x hx => h.ok x (mem x hx)
    keys := h.keys.sublist hs
    born := h.born.sublist hs
    old := fun x hx => h.old x (mem x hx)
    apart := h.apart.sublist (by
      simp only [footM]
      exact ((((hs.map _).cons_cons _).cons_cons _).cons_cons _).cons_cons _) }
theorem putC2_drop : ∀ (ps : List (Nat × Int)) (k : Nat), putC2 (ps.drop k) = (putC2 ps).drop (k * 2)
  | [], k => by simp [putC2]
  | p :: ps, 0 => by simp
  | p :: ps, k + 1 => by
    have e : putC2 (p :: ps) = .int .u64 (p.1 : Int) :: .int .u64 p.2 :: putC2 ps := rfl
    rw [e, List.drop_succ_cons, putC2_drop ps k, show (k + 1) * 2 = k * 2 + 1 + 1 by omega, List.drop_succ_cons, List.drop_succ_cons]
theorem RowP.cut {w : World} {L : LineA} (h : RowP w L) (k : Nat) (hk : k ≤ L.ps.length) : RowP w (cutL L k) := by
  obtain ⟨cur, h1, h2, h3, h4⟩ := h
  refine ⟨cur, h1, by simp [cutL], by simp only [cutL]; omega, ?_⟩
  have e : putC2 (L.ps.drop k) = (putC2 L.ps).drop (k * 2) := putC2_drop L.ps k
  simp only [cutL]
  rw [e, ← h4, List.drop_take, List.drop_drop]
  congr 1
  simp; omega
theorem LineOK.cut {n : Nat} {L : LineA} (h : LineOK n L) (k : Nat) (hk : k < L.ps.length) : LineOK n (cutL L k) := by
  refine ⟨h.adr, fun hc => ?_, fun p hp => h.puts p (List.mem_of_mem_drop hp), by simp [cutL, h.marks], fun q hq => ?_⟩
  · have := congrArg List.length hc
    simp [cutL] at this
    omega
  · simp only [cutL, List.mem_map] at hq
    obtain ⟨y, hy, rfl⟩ := hq
    have := h.most y hy
    simp [cutL]; omega
theorem lineX_cut {L : LineA} {k : Nat} : lineX (some ⟨L.g, L.o + k * 2, none⟩) (L.ps.length - k) (L.ks.map (· - k)) = lineC (cutL L k) := by simp [lineX, lineC, cutL]
theorem erase_mid {α : Type} (x : α) (post : List α) : ∀ pre : List α, (pre ++ x :: post).eraseIdx pre.length = pre ++ post
  | [] => by simp
  | p :: pre => by simp [erase_mid x post pre]
theorem add_off (g o j : Nat) : (⟨g, o, none⟩ : Addr).add j = ⟨g, o + j, none⟩ := by unfold Addr.add; split <;> simp_all
theorem putC2_get : ∀ {ps : List (Nat × Int)} {k : Nat} (h : k < ps.length), (putC2 ps)[k * 2]? = some (.int .u64 (ps[k].1 : Int)) ∧ (putC2 ps)[k * 2 + 1]? = some (.int .u64 ps[k].2)
  | p :: ps, 0, h => by simp [putC2]
  | p :: ps, k + 1, h => by
    have := putC2_get (ps := ps) (k := k) (by simpa using h)
    have e : putC2 (p :: ps) = .int .u64 (p.1 : Int) :: .int .u64 p.2 :: putC2 ps := rfl
    rw [e, show (k + 1) * 2 = k * 2 + 1 + 1 by omega]
    simpa using this

set_option maxRecDepth 100000 in
set_option maxHeartbeats 2000000 in
theorem last_some (m : Nat) (B : MB) (M : MemS) (n0 n : Nat) (pre post : List LineA) (L : LineA) (hM : M.lines = pre ++ L :: post) (hlen : L.ps.length ≤ 1000000000) (hn0 : (n0 : Int) < 9223372036854775808) (hn : n = min n0 L.ps.length) (w : World) (h : MemIs w m B M) :
    Calls Tryz.prog 81 #[ptrV m, .int .u64 (L.adr : Int), .int .i64 (n0 : Int)] w fun e w' =>
      e = .returned (.int .i64 (n : Int)) ∧ MemIs w' m B (lastM M pre L post n) ∧ Only [B.ib, B.lb] w w' := by
  have hL : L ∈ M.lines := by rw [hM]; simp
  have hok := h.ok L hL
  have x2 : w.cell? ⟨m, 2, none⟩ = some (.map (some B.lb)) := h.blk.cell 2
  have a378 := line_isAgg
  obtain ⟨N, hN⟩ : ∃ N, N = 66 := ⟨_, rfl⟩
  have z378 := line_zero
  have s378 : ∀ w, (sizeOf 143).run Tryz.prog w = .ok N w := by rw [hN]; exact line_sizeOf
  have n378 : lineZ.size = N := lineZ_size.trans hN.symm
  have n2 : (lineC L).size = N := (lineC_size hok).trans hN.symm
  have hlk : (Instr.lookup 129 (.map (some B.lb)) (.int .u64 (L.adr : Int)) false).run Tryz.prog w = .ok (.agg (lineC L)) w :=
    run_lookU_some (P := Tryz.prog) w 129 24 143 Tryz.underlying129 Tryz.underlying24 B.lb _ _ h.map (L.adr : Int) pre.length (.agg (lineC L)) false (by simpa using find_line hM h.keys)
  have hst : (storeCells ⟨w.heap.size, 0, none⟩ (lineC L).toList 0).run Tryz.prog (w.alloc (.cells lineZ 143)) = .ok () (w.alloc (.cells (lineC L) 143)) :=
    run_storeCells_new (P := Tryz.prog) w 143 lineZ (lineC L) (by rw [line_size, lineC_size hok]) (by rw [lineC_size hok]; rfl) (lineC_one L)
  have b2 := Blk.new w 143 (lineC L)
  have H2 := hid (h.only ((Only.refl [] w).alloc (.cells (lineC L) 143)) (fun k _ hk => by cases hk))
  have O2 := hid (show Only [] w (w.alloc (.cells (lineC L) 143)) from (Only.refl [] w).alloc _)
  have N3 := hid (show ∀ k ∈ footM m B M, k ≠ w.heap.size from fun k hk e => by have := h.foot_lt k hk; omega)
  obtain ⟨ln, hln⟩ : ∃ ln, ln = L.ps.length := ⟨_, rfl⟩
  have HLN := hid hln
  have HN := hid hN
  have HM := hid hM
  have HMIN := hid hn
  have z0 : (w.alloc (.cells (lineC L) 143)).cell? ⟨w.heap.size, 0, none⟩ = some (.slice (some ⟨L.g, L.o, none⟩) ln L.cap) := by rw [hln]; exact b2.cell 0
  rw [← hln] at hlen
  have B2 := hid b2
  have hmin : min (n0 : Int) (ln : Int) = (n : Int) := by omega
  obtain ⟨cur, hc1, hc2, hc3, hc4⟩ := id (h.rows L hL)
  rw [← hln] at hc2
  have i1 : (0 : Int) ≤ (n : Int) := by omega
  have i2 : (n : Int) ≤ (L.cap : Int) := by omega
  have i2' : n ≤ L.cap := by omega
  have i3 : n ≤ ln := by omega
  have i4 : (n : Int) ≤ (ln : Int) := by omega
  have i5 : (ln : Int) ≤ (L.cap : Int) := by omega
  have i6 : (0 : Int) ≤ (ln : Int) := by omega
  have i7 : ln ≤ L.cap := by omega
  clear hc1 hc2 hc3 hc4
  clear h hM hN hln hn b2 hok hL
  go_enter Tryz.func81, Tryz.ntmps81
  go_wp2
  obtain ⟨X, hX⟩ : ∃ X, X = w.heap.size := ⟨_, rfl⟩
  obtain ⟨W2, hW2⟩ : ∃ W2, W2 = w.alloc (.cells (lineC L) 143) := ⟨_, rfl⟩
  rw [← hX] at z0
  rw [← hW2] at z0
  have N3' : Hid (∀ k ∈ footM m B M, k ≠ X) := by rw [hX]; exact N3
  have H2' : Hid (MemIs W2 m B M) := by rw [hW2]; exact H2
  have O2' : Hid (Only [] w W2) := by rw [hW2]; exact O2
  have B2' : Hid (Blk W2 X 143 (lineC L)) := by rw [hW2, hX]; exact B2
  have HX := hid hX
  rw [← hX, ← hW2]
  clear hW2 hX B2 N3 H2 O2 z0 hlk hst x2
  have lg : L.g ≠ B.ib := by
    have h1 := H2'.out.apart
    have e1 : footM m B M = (m :: B.vb :: B.ib :: B.lb :: pre.map (·.g)) ++ L.g :: post.map (·.g) := by simp only [footM, HM.out, List.map_append, List.map_cons, List.cons_append]
    rw [e1, List.nodup_append] at h1
    exact fun hc => h1.2.2 B.ib (by simp) L.g (List.mem_cons_self ..) hc.symm
  have mib : m ≠ B.ib ∧ B.ib ≠ B.lb := by
    have h1 := H2'.out.apart
    simp only [footM, List.nodup_cons, List.mem_cons, not_or] at h1
    exact ⟨h1.1.2.1, h1.2.2.1.1⟩
  have hLm : L ∈ M.lines := by rw [HM.out]; simp
  have OK := hid (H2'.out.ok L hLm)
  obtain ⟨ic, hic⟩ : ∃ ic, ic = B.ic := ⟨_, rfl⟩
  obtain ⟨vl, hvl⟩ : ∃ vl, vl = M.view.length := ⟨_, rfl⟩
  have HVL := hid hvl
  have LG := hid lg
  have MIB := hid mib
  have LM := hid hLm
  have HMN := hid hmin
  clear lg mib hLm hic hvl hmin
  go_loopw [27] (fun i wr => ∃ k : Nat, k ≤ n ∧ i = .int .i64 k ∧ Hid (WordsAt wr B.ib (applyPuts M.image (L.ps.take k))) ∧ Hid (Only [B.ib] W2 wr)) (fun i _ => (n - (intOf i).toNat))
  case atStart => exact ⟨0, by omega, rfl, H2'.out.image, Only.refl _ _⟩
  case round =>
    obtain ⟨k, hk, rfl, hIm, hO⟩ := hrel
    by_cases hlt : k < n
    · have hkl : k < L.ps.length := by have := HLN.out; omega
      obtain ⟨q, v, hp⟩ : ∃ q v, L.ps[k] = (8 * q, v) ∧ q < vl := by
        have h1 := OK.out.puts L.ps[k] (List.getElem_mem hkl)
        refine ⟨L.ps[k].1 / 8, L.ps[k].2, ?_, by rw [HVL.out]; exact h1.2.1⟩
        refine Prod.ext ?_ rfl
        show _ = 8 * _
        omega
      obtain ⟨hp, hq⟩ := hp
      have hT := hid (show applyPuts M.image (L.ps.take (k + 1)) = (applyPuts M.image (L.ps.take k)).set q v by rw [List.take_succ_eq_append_getElem hkl, applyPuts_snoc, hp]; simp)
      have hrow : RowP wr L := (H2'.out.rows L LM.out).only hO.out (by simpa using LG.out)
      have y0 : wr.cell? ⟨L.g, L.o + k * 2, none⟩ = some (.int .u64 (8 * (q : Int))) := by
        have := hrow.cells (k * 2) (.int .u64 ((8 * q : Nat) : Int)) (by have := putC2_get hkl; rw [hp] at this; exact this.1)
        rwa [add_off] at this
      have y1 : wr.cell? ⟨L.g, L.o + k * 2 + 1, none⟩ = some (.int .u64 v) := by
        have := hrow.cells (k * 2 + 1) (.int .u64 v) (by have := putC2_get hkl; rw [hp] at this; exact this.2)
        rwa [add_off, ← Nat.add_assoc] at this
      have hb : Blk (wr.alloc (.cells #[.int .u64 (8 * (q : Int)), .int .u64 v] 184)) m 133 (memC B M.view.length M.st) := (hO.out.blk H2'.out.blk (by simpa using MIB.out.1)).alloc _
      have y2 : (wr.alloc (.cells #[.int .u64 (8 * (q : Int)), .int .u64 v] 184)).cell? ⟨m, 1, none⟩ = some (.slice (some ⟨B.ib, 0, none⟩) vl B.ic) := by rw [HVL.out]; exact hb.cell 1
      have hIm' : WordsAt (wr.alloc (.cells #[.int .u64 (8 * (q : Int)), .int .u64 v] 184)) B.ib (applyPuts M.image (L.ps.take k)) := hIm.out.only ((Only.refl [] wr).alloc _) (fun h => by cases h)
      have hql : q < (applyPuts M.image (L.ps.take k)).length := by rw [applyPuts_length, H2'.out.len, ← HVL.out]; exact hq
      obtain ⟨z, hz⟩ : ∃ z, (applyPuts M.image (L.ps.take k))[q]? = some z := ⟨_, List.getElem?_eq_getElem hql⟩
      have y3 := hIm'.cell hz
      have y4 := hIm'.frozen q
      have j1 : (8 * (q : Int)) / 8 = q := by omega
      have j2 : (0 : Int) ≤ q := by omega
      have j6 : IntKind.u64.wrap (q : Int) = q := IntWalk.u64_in _ (by have := HVL.out; have := H2'.out.big; omega)
      have j3 : (q : Int) < (vl : Int) := by omega
      have j4 : (0 : Int) ≤ k := by omega
      have j5 : (k : Int) < (n : Int) := by omega
      have HP := hid hp
      clear hrow hb hIm' hp hql hz
      go_wp2
      go_region
      go_wp2
      have hIm2 : Hid (WordsAt ((wr.alloc (.cells #[.int .u64 (8 * (q : Int)), .int .u64 v] 184)).setCell ⟨B.ib, q, none⟩ (.int .u64 v)).drew B.ib (applyPuts M.image (L.ps.take (k + 1)))) := by
        rw [hT.out]
        exact ((hIm.out.only ((Only.refl [] wr).alloc _) (fun h => by cases h)).set_ q v).only ((Only.refl [] _).drew) (fun h => by cases h)
      have hO2 : Hid (Only [B.ib] W2 ((wr.alloc (.cells #[.int .u64 (8 * (q : Int)), .int .u64 v] 184)).setCell ⟨B.ib, q, none⟩ (.int .u64 v)).drew) := ((hO.out.alloc _).setCell (Or.inl (by simp)) _).drew
      clear hIm hO
      go_roundw
      case rel => exact ⟨k + 1, by omega, by go_num, hIm2, hO2⟩
      case measure => simp [intOf]; omega
    · obtain rfl : k = n := by omega
      have b3 : Blk wr X 143 (lineC L) := hO.out.blk B2'.out (by simpa using (N3'.out B.ib (by simp [footM])).symm)
      have z0 : wr.cell? ⟨X, 0, none⟩ = some (.slice (some ⟨L.g, L.o, none⟩) ln L.cap) := by rw [HLN.out]; exact b3.cell 0
      have zf := b3.frozen 0
      have B3 := hid b3
      have HLT : Hid (k ≤ ln) := i3
      have HIM := hid (show Only [B.ib] W2 wr from hO.out)
      clear b3 hk hlt hO
      go_upto_region 8 with (fail)
      repeat go_step
      generalize hPt : (if ln = k then some ({ block := L.g, off := L.o } : Addr) else some { block := L.g, off := L.o + k * 2 }) = Pt
      have HPT := hid hPt
      clear hPt
      obtain ⟨r, hr⟩ : ∃ r, r = ln - k := ⟨_, rfl⟩
      rw [← hr]
      obtain ⟨W3, hW3⟩ : ∃ W3, W3 = wr.setCell ⟨X, 0, none⟩ (.slice Pt r r) := ⟨_, rfl⟩
      rw [← hW3]
      have B4 : Hid (Blk W3 X 143 (lineX Pt r L.ks)) := by rw [hW3, ← lineX_of]; exact B3.out.set_ 0 _
      have O3 : Hid (Only [B.ib, X] W2 W3) := by
        rw [hW3]
        exact (HIM.out.mono (fun x hx => by simp at hx; simp [hx])).setCell (Or.inl (by simp)) _
      have I3 : Hid (WordsAt W3 B.ib (applyPuts M.image (L.ps.take k))) := by
        rw [hW3]
        exact hIm.out.only ((Only.refl [X] wr).setCell (Or.inl (by simp)) _) (by simpa using (N3'.out B.ib (by simp [footM])))
      have HR := hid hr
      have KL := hid OK.out.marks
      clear hW3 hr z0 zf HIM hIm B3
      clear wr
      go_loopw [53] (fun i wr => ∃ j : Nat, j ≤ 65 ∧ i = .int .i64 j ∧ Hid (Blk wr X 143 (lineX Pt r (mixK L.ks k j))) ∧ Hid (Only [X] W3 wr)) (fun i _ => (65 - (intOf i).toNat))
      case atStart => exact ⟨0, by omega, rfl, by simpa [mixK] using B4, Only.refl _ _⟩
      case round =>
        obtain ⟨j, hj, rfl, hB, hO⟩ := hrel
        by_cases hlt : j < 65
        · obtain ⟨a, ha⟩ : ∃ a, L.ks[j]? = some a := ⟨_, List.getElem?_eq_getElem (by rw [KL.out]; exact hlt)⟩
          have hal : a ≤ ln := by rw [HLN.out]; exact OK.out.most a (List.mem_of_getElem? ha)
          have y0 : wr.cell? ⟨X, 1 + j, none⟩ = some (.int .i64 (a : Int)) := by
            rw [hB.out.cell, Nat.add_comm]
            simp [lineX, marksC, mixK_get ha]
          have y1 := hB.out.frozen (1 + j)
          have hw : IntKind.i64.wrap ((a : Int) - (k : Int)) = (a : Int) - (k : Int) := IntWalk.i64_in _ (by omega)
          have hmx : max ((a : Int) - (k : Int)) 0 = ((a - k : Nat) : Int) := by omega
          have j1 : (0 : Int) ≤ j := by omega
          have j2 : (j : Int) < 65 := by omega
          have HA := hid ha
          clear ha
          obtain ⟨wq, hwq⟩ : ∃ wq, wq = wr.setCell ⟨X, 1 + j, none⟩ (.int .i64 ((a - k : Nat) : Int)) := ⟨_, rfl⟩
          have hB2 : Hid (Blk wq X 143 (lineX Pt r (mixK L.ks k (j + 1)))) := by
            rw [hwq, Nat.add_comm, ← mixK_set HA.out, ← lineX_mark]; exact hB.out.set_ (j + 1) _
          have hO2 : Hid (Only [X] W3 wq) := by rw [hwq]; exact hO.out.setCell (Or.inl (by simp)) _
          have HWQ := hid hwq
          clear hwq hB hO
          go_wp2
          go_roundw
          case rel => exact ⟨j + 1, by omega, by go_num, by have := hB2; rwa [HWQ.out] at this, by have := hO2; rwa [HWQ.out] at this⟩
          case measure => simp [intOf]; omega
        · obtain rfl : j = 65 := by omega
          rw [mixK_all (by rw [KL.out]; exact Nat.le_refl _)] at hB
          have z0 : wr.cell? ⟨X, 0, none⟩ = some (.slice Pt r r) := hB.out.cell 0
          have h5 : Hid (MemIs wr m B { M with image := applyPuts M.image (L.ps.take k) }) := by
            have h4 := H2'.out.img O3.out N3'.out I3.out (by rw [applyPuts_length]; exact H2'.out.len)
            exact h4.only hO.out (fun y hy hm => N3'.out y hy (by simpa using hm))
          have O5 : Hid (Only [B.ib, B.lb] w wr) := by
            have h1 : Only [B.ib, X] W2 wr := O3.out.trans hO.out (fun y hy => Or.inl (by simp at hy; simp [hy]))
            refine (O2'.out.mono (g := [B.ib, B.lb]) (fun y hy => by cases hy)).trans h1 (fun y hy => ?_)
            simp at hy
            rcases hy with rfl | rfl
            · exact Or.inl (by simp)
            · exact Or.inr (by rw [HX.out]; exact Nat.le_refl _)
          have HB := hid hB
          have yd : ∀ W : World, W = wr ∨ W = wr.drew → W.cell? ⟨m, 2, none⟩ = some (.map (some B.lb)) := fun W hW => by
            rcases hW with rfl | rfl
            · exact h5.out.blk.cell 2
            · exact h5.out.blk.drew.cell 2
          clear hlt hj hB hO I3 O3
          by_cases hfull : r = 0
          · have y2 := yd wr (Or.inl rfl)
            have hdel : (Builtin.delete_ #[129, 24] 0 #[.map (some B.lb), .int .u64 (L.adr : Int)]).run Tryz.prog wr = .ok (.tuple #[]) (wr.putObj B.lb (.map ((pre ++ post).map lineE).toArray M.clock)) := by
              have := run_delU (P := Tryz.prog) wr 129 24 143 24 0 Tryz.underlying129 Tryz.underlying24 B.lb _ _ h5.out.map (L.adr : Int) pre.length (.agg (lineC L)) (by simpa using find_line HM.out H2'.out.keys)
              rw [this]
              congr 3
              apply Array.ext'
              rw [Array.toList_eraseIdxIfInBounds]
              simp only [HM.out, List.map_append, List.map_cons]
              rw [show pre.length = (pre.map lineE).length by simp, erase_mid]
            have HF := hid hfull
            clear yd
            go_wp2
            go_ret
            refine ⟨rfl, ?_, O5.out.putObj (Or.inl (by simp)) _⟩
            have h6 := MemIs.dropL h5.out HM.out rfl
            have e : lastM M pre L post k = { M with image := applyPuts M.image (L.ps.take k), lines := pre ++ post } := by
              unfold lastM
              rw [if_pos (by have := HF.out; have := HR.out; have := HLN.out; have := HLT.out; omega)]
              simp
            rw [e]
            simpa only [List.map_append] using h6
          · have e2 : Pt = some ⟨L.g, L.o + k * 2, none⟩ := by rw [← HPT.out, if_neg (by have := HR.out; omega)]
            have hkl : k < L.ps.length := by have := HR.out; have := HLN.out; omega
            have e3 : lineX Pt r (L.ks.map (· - k)) = lineC (cutL L k) := by rw [e2, HR.out, HLN.out]; exact lineX_cut
            rw [e3] at HB
            have y2 := yd wr.drew (Or.inr rfl)
            have ok' := OK.out.cut k hkl
            have hld : (loadCellsFrom ⟨X, 0, none⟩ 0 N #[]).run Tryz.prog wr.drew = .ok (lineC (cutL L k)) wr.drew := loadCells_blk HB.out.drew ((lineC_size ok').trans HN.out.symm)
            have hup : (Instr.mapUpdate 129 (.map (some B.lb)) (.int .u64 (L.adr : Int)) (.agg (lineC (cutL L k)))).run Tryz.prog wr.drew =
                .ok () (wr.drew.putObj B.lb (.map ((pre ++ cutL L k :: post).map lineE).toArray M.clock)) := by
              have := run_updU_old (P := Tryz.prog) wr.drew 129 24 143 Tryz.underlying129 Tryz.underlying24 B.lb _ _ h5.out.map (L.adr : Int) (.agg (lineC (cutL L k))) pre.length (.agg (lineC L)) (by simpa using find_line HM.out H2'.out.keys) (by simp [HM.out, lineE])
              rw [this, HM.out]
              congr 3
              exact modify_lines (pre := pre) (post := post) (L := L) (L' := cutL L k) rfl rfl
            have fin : MemIs (wr.drew.putObj B.lb (.map ((pre ++ cutL L k :: post).map lineE).toArray M.clock)) m B { M with image := applyPuts M.image (L.ps.take k), lines := pre ++ cutL L k :: post } :=
              MemIs.reline (L := L) (L' := cutL L k) (h5.out.only ((Only.refl [] wr).drew) (fun k _ hk => by cases hk)) HM.out rfl rfl rfl rfl (fun h => h.cut k (by omega)) ok'
            have FIN := hid fin
            have HF := hid hfull
            have HKL := hid hkl
            have HPT2 := hid e2
            clear yd fin ok' e2 e3 hkl HPT
            have hbe : ((r : Int) == 0) = false := by simpa using hfull
            clear n378 n2 z378 hfull
            go_upto_region 16 with (fail)
            go_region_with fail
            all_goals
              try go_simp
              try simp only [Act.put, List.setIfInBounds_toArray, List.set_cons_zero, List.set_cons_succ]
              go_wp2
              go_ret
              refine ⟨rfl, ?_, (O5.out.drew).putObj (Or.inl (by simp)) _⟩
              have e : lastM M pre L post k = { M with image := applyPuts M.image (L.ps.take k), lines := pre ++ cutL L k :: post } := by
                unfold lastM
                rw [if_neg (by have := HKL.out; omega)]
                simp
              rw [e]
              simpa only [List.map_append, List.map_cons] using FIN.out

end Go.Proofs.YtbkaemajjaiklaaGreat

/- A memory of words: a map's copy. -/
namespace Go.Proofs.YtbkaemajjaiklaaGreat
open Go.RowKit
set_option linter.unusedVariables false
set_option linter.unusedSimpArgs false

set_option maxRecDepth 100000 in
theorem CloneLines_z (r : Nat) (es : Array MapEntry) (clock : Nat) (w : World) (hb : w.heap[r]? = some (.map es clock)) :
    Calls Tryz.prog 133 #[.map (some r)] w fun e w' => e = .returned (.map (some w.heap.size)) ∧ w' = w.alloc (.map es clock) := by
  have hcl : (callFunc 148 #[.iface 129 (.map (some r))]).run Tryz.prog w = .ok (.value (.iface 129 (.map (some w.heap.size)))) (w.alloc (.map es clock)) := by
    rw [run_callFunc_extern Tryz.func148 (by kernel_rfl) (by kernel_rfl) (by kernel_rfl) (e := Extern.MapsClone.clone) (by kernel_rfl)]
    have e : Extern.MapsClone.clone #[.iface 129 (.map (some r))] = (getObj r >>= fun o => match o with
      | .map entries clock => (newObj (.map entries clock) >>= fun n => pure (.iface 129 (.map (some n))))
      | _ => stuck "maps.clone: a map expected") := rfl
    rw [e]
    simp [MapKept.run_getObj_map hb, Result.andThen]
  have heq : (binOp BinOp.eql 129 (Value.map (some r)) (Value.map none)).run Tryz.prog w = .ok (.bool false) w := by kernel_rfl
  have hta : ∀ k w', (Instr.typeAssert (.iface 129 (.map (some k))) 20 129 false).run Tryz.prog w' = Result.ok (.map (some k)) w' := fun k w' => by simp [Instr.typeAssert, run_underlying Tryz.underlying129]
  clear hb
  go_enter Tryz.func133, Tryz.ntmps133
  go_wp2
  go_ret
  try exact ⟨rfl, rfl⟩

end Go.Proofs.YtbkaemajjaiklaaGreat

/- A memory of words: what a fence comes to. Plain. -/
namespace Go.Proofs.YtbkaemajjaiklaaGreat
open Go.RowKit
set_option linter.unusedVariables false
set_option linter.unusedSimpArgs false

/-- what a word is behind stores -/
def lastPut (ps : List (Nat × Int)) (i : Nat) (b : Int) : Int := ps.foldl (fun b p => if p.1 / 8 = i then p.2 else b) b
theorem lastPut_id {ps : List (Nat × Int)} {i : Nat} (h : ∀ p ∈ ps, p.1 / 8 ≠ i) (b : Int) : lastPut ps i b = b := by
  induction ps generalizing b with
  | nil => rfl
  | cons p ps ih =>
    show lastPut ps i (if p.1 / 8 = i then p.2 else b) = b
    rw [if_neg (h p (List.mem_cons_self ..))]
    exact ih (fun q hq => h q (List.mem_cons_of_mem _ hq)) b
theorem applyPuts_get (ps : List (Nat × Int)) (im : List Int) (i : Nat) : (applyPuts im ps)[i]? = im[i]?.map (lastPut ps i) := by
  induction ps generalizing im with
  | nil => cases h : im[i]? <;> simp [applyPuts, lastPut, h]
  | cons p ps ih =>
    show (applyPuts (im.set (p.1 / 8) p.2) ps)[i]? = _
    rw [ih, List.getElem?_set]
    by_cases h : p.1 / 8 = i
    · subst h
      by_cases hl : p.1 / 8 < im.length
      · simp [hl, lastPut]
      · simp [hl]
    · rw [if_neg h]
      cases im[i]? <;> simp [lastPut, h]
/-- how much of a line a client marked -/
def markOf (L : LineA) (c : Nat) : Nat := (L.ks[c]?).getD 0
def cutO (L : LineA) (k : Nat) : List LineA := if k = L.ps.length then [] else [cutL L k]
def imgOf (im : List Int) (k : LineA → Nat) (Ls : List LineA) : List Int := im.mapIdx fun i b => Ls.foldl (fun b L => lastPut (L.ps.take (k L)) i b) b
/-- the lines of which S holds have lasted, each as far as k says -/
def partM (M : MemS) (k : LineA → Nat) (S : LineA → Bool) : MemS :=
  { M with image := imgOf M.image k (M.lines.filter S), lines := M.lines.flatMap fun L => if S L then cutO L (k L) else [L] }
theorem fold_id {k : LineA → Nat} {i : Nat} : ∀ {Ls : List LineA}, (∀ L ∈ Ls, ∀ p ∈ L.ps, p.1 / 8 ≠ i) → ∀ b, Ls.foldl (fun b L => lastPut (L.ps.take (k L)) i b) b = b
  | [], _, b => rfl
  | L :: Ls, h, b => by
    rw [List.foldl_cons, lastPut_id (fun p hp => h L (List.mem_cons_self ..) p (List.mem_of_mem_take hp))]
    exact fold_id (fun L' h' => h L' (List.mem_cons_of_mem _ h')) b
theorem mem_filter' {S : LineA → Bool} {Ls : List LineA} {L : LineA} (h : L ∈ Ls.filter S) : L ∈ Ls := (List.mem_filter.1 h).1
theorem part_step {M : MemS} {n : Nat} {k : LineA → Nat} {S S' : LineA → Bool} {pre post : List LineA} {L : LineA} (hM : M.lines = pre ++ L :: post) (hok : ∀ x ∈ M.lines, LineOK n x) (hkeys : M.lines.Pairwise fun a b => a.adr ≠ b.adr)
    (hS : S L = false) (hS' : S' L = true) (hother : ∀ x ∈ pre ++ post, S' x = S x) (hk : k L ≤ L.ps.length) :
    lastM (partM M k S) (pre.flatMap fun L => if S L then cutO L (k L) else [L]) L (post.flatMap fun L => if S L then cutO L (k L) else [L]) (k L) = partM M k S' := by
  have e1 : ∀ Ls : List LineA, (∀ x ∈ Ls, S' x = S x) → (Ls.flatMap fun L => if S' L then cutO L (k L) else [L]) = Ls.flatMap fun L => if S L then cutO L (k L) else [L] := by
    intro Ls h
    induction Ls with
    | nil => rfl
    | cons x xs ih => simp only [List.flatMap_cons, h x (List.mem_cons_self ..), ih fun y hy => h y (List.mem_cons_of_mem _ hy)]
  have e2 : ∀ Ls : List LineA, (∀ x ∈ Ls, S' x = S x) → Ls.filter S' = Ls.filter S := fun Ls h => List.filter_congr fun x hx => h x hx
  have hpre : ∀ x ∈ pre, S' x = S x := fun x hx => hother x (List.mem_append_left _ hx)
  have hpost : ∀ x ∈ post, S' x = S x := fun x hx => hother x (List.mem_append_right _ hx)
  have hL : (if k L = L.ps.length then ([] : List LineA) else [cutL L (k L)]) = cutO L (k L) := rfl
  unfold lastM partM
  rw [hM]
  simp only [List.flatMap_append, List.flatMap_cons, List.filter_append, hS', if_true, List.filter_cons, hS, e1 pre hpre, e1 post hpost, e2 pre hpre, e2 post hpost, hL, Bool.false_eq_true, if_false, MemS.mk.injEq, true_and, and_true, List.append_assoc]
  apply List.ext_getElem?
  intro i
  rw [applyPuts_get]
  simp only [imgOf, List.getElem?_mapIdx, List.foldl_append, List.foldl_cons]
  cases M.image[i]? with
  | none => rfl
  | some b =>
    simp only [Option.map_some, Option.some.injEq]
    generalize (pre.filter S).foldl (fun b L => lastPut (L.ps.take (k L)) i b) b = b'
    by_cases hi : ∃ p ∈ L.ps, p.1 / 8 = i
    · obtain ⟨p, hp, rfl⟩ := hi
      have hid : ∀ x ∈ post.filter S, ∀ q ∈ x.ps, q.1 / 8 ≠ p.1 / 8 := by
        intro x hx q hq hc
        have hx' := mem_filter' hx
        have h1 := (hok L (by rw [hM]; simp)).puts p hp
        have h2 := (hok x (by rw [hM]; simp [hx'])).puts q hq
        have h3 : L.adr ≠ x.adr := by
          rw [hM, List.pairwise_append] at hkeys
          exact (List.pairwise_cons.1 hkeys.2.1).1 x hx'
        have h4 : q.1 = p.1 := by omega
        rw [h4] at h2
        omega
      rw [fold_id hid, fold_id hid]
    · have h1 : ∀ b, lastPut (L.ps.take (k L)) i b = b := lastPut_id fun p hp hc => hi ⟨p, List.mem_of_mem_take hp, hc⟩
      rw [h1, h1]
theorem part_none (M : MemS) (k : LineA → Nat) : partM M k (fun _ => false) = M := by
  unfold partM
  have e : M.lines.filter (fun _ => false) = [] := by simp
  rw [e]
  have e2 : imgOf M.image k [] = M.image := by
    apply List.ext_getElem?
    intro i
    simp [imgOf, List.getElem?_mapIdx]
  rw [e2]
  cases M
  simp [List.flatMap_singleton]
theorem part_foot {m : Nat} {B : MB} {M : MemS} {k : LineA → Nat} {S : LineA → Bool} : ∀ x ∈ footM m B (partM M k S), x ∈ footM m B M := by
  intro x hx
  simp only [footM, List.mem_cons, List.mem_map, partM, List.mem_flatMap] at hx ⊢
  rcases hx with h | h | h | h | ⟨L', ⟨L, hL, hL'⟩, rfl⟩
  · exact Or.inl h
  · exact Or.inr (Or.inl h)
  · exact Or.inr (Or.inr (Or.inl h))
  · exact Or.inr (Or.inr (Or.inr (Or.inl h)))
  · refine Or.inr (Or.inr (Or.inr (Or.inr ⟨L, hL, ?_⟩)))
    split at hL'
    · unfold cutO at hL'
      split at hL'
      · cases hL'
      · rw [List.mem_singleton] at hL'; subst hL'; rfl
    · rw [List.mem_singleton] at hL'; subst hL'; rfl

end Go.Proofs.YtbkaemajjaiklaaGreat

/- A memory of words: a fence. -/
namespace Go.Proofs.YtbkaemajjaiklaaGreat
open Go.RowKit
set_option linter.unusedVariables false
set_option linter.unusedSimpArgs false

def seenIn (seen : Array Nat) (L : LineA) : Bool := seen.contains L.born
theorem seenIn_push {M : MemS} {pre post : List LineA} {L : LineA} (hM : M.lines = pre ++ L :: post) (hb : M.lines.Pairwise fun a b => a.born ≠ b.born) (seen : Array Nat) :
    seenIn (seen.push L.born) L = true ∧ ∀ x ∈ pre ++ post, seenIn (seen.push L.born) x = seenIn seen x := by
  refine ⟨by simp [seenIn], fun x hx => ?_⟩
  unfold seenIn
  rw [contains_push]
  have hne : x.born ≠ L.born := by
    rw [hM, List.pairwise_append, List.pairwise_cons] at hb
    rcases List.mem_append.1 hx with h | h
    · exact hb.2.2 x h L (List.mem_cons_self ..)
    · exact (hb.2.1.1 x h).symm
  simp [hne]

theorem part_all {M : MemS} {k : LineA → Nat} {S : LineA → Bool} (h : ∀ L ∈ M.lines, S L = true) : partM M k S = partM M k (fun _ => true) := by
  have e : ∀ Ls : List LineA, (∀ L ∈ Ls, S L = true) → (Ls.flatMap fun L => if S L then cutO L (k L) else [L]) = Ls.flatMap fun L => if (fun _ => true) L then cutO L (k L) else [L] := by
    intro Ls h
    induction Ls with
    | nil => rfl
    | cons x xs ih =>
      rw [List.flatMap_cons, List.flatMap_cons, ih fun y hy => h y (List.mem_cons_of_mem _ hy), h x (List.mem_cons_self ..)]
  unfold partM
  rw [List.filter_congr (q := fun _ => true) h, e _ h]

set_option maxRecDepth 100000 in
set_option maxHeartbeats 2000000 in
theorem Fence_z (m : Nat) (B : MB) (M : MemS) (c : Nat) (hc : c ≤ 64) (hlen : ∀ L ∈ M.lines, L.ps.length ≤ 1000000000) (w : World) (h : MemIs w m B M) :
    Calls Tryz.prog 114 #[ptrV m, .int .i64 (c : Int)] w fun e w' =>
      e = .returned (.int .i64 0) ∧ ∃ s : St4, s.a = M.st.a ∧ s.b = M.st.b ∧ s.c = M.st.c ∧ s.d = (M.st.d + 1) % 18446744073709551616 ∧
        MemIs w' m B (partM { M with st := s } (markOf · c) (fun _ => true)) ∧ Only [m, B.ib, B.lb] w w' := by
  have x6 : w.cell? ⟨m, 6, none⟩ = some (.int .u64 M.st.d) := h.blk.cell 6
  have x6f := h.blk.frozen 6
  have hcz := hid (show clientE (c : Int) = 0 from if_pos ⟨by omega, by omega⟩)
  have z378 := line_zero
  have a378 := line_isAgg
  obtain ⟨N, hN⟩ : ∃ N, N = 66 := ⟨_, rfl⟩
  have s378 : ∀ w, (sizeOf 143).run Tryz.prog w = .ok N w := by rw [hN]; exact line_sizeOf
  have n378 : lineZ.size = N := lineZ_size.trans hN.symm
  have HN := hid hN
  have HLEN := hid hlen
  have H := hid h
  clear h hN hlen
  go_enter Tryz.func114, Tryz.ntmps114
  go_wp2_with fail
  refine (there_z m B M.view.length M.st H.out.pos _ H.out.blk).mono ?_
  rintro e w1 ⟨rfl, rfl⟩
  go_wp2_with fail
  refine (client_z (c : Int) _).mono ?_
  rintro e w1 ⟨rfl, rfl⟩
  rw [hcz.out]
  go_upto_region 7 with (fail)
  obtain ⟨W1, hW1⟩ : ∃ W1, W1 = w.setCell ⟨m, 6, none⟩ (.int .u64 (IntKind.u64.wrap (M.st.d + 1))) := ⟨_, rfl⟩
  rw [← hW1]
  obtain ⟨M1, hM1⟩ : ∃ M1, M1 = { M with st := ⟨M.st.a, M.st.b, M.st.c, IntKind.u64.wrap (M.st.d + 1)⟩ } := ⟨_, rfl⟩
  have H1 : Hid (MemIs W1 m B M1) := by
    rw [hW1, hM1]; exact H.out.counts ((Only.refl _ _).setCell (Or.inl (by simp)) _) (H.out.blk.set_ 6 _)
  have O1 : Hid (Only [m, B.ib, B.lb] w W1) := by rw [hW1]; exact (Only.refl _ _).setCell (Or.inl (by simp)) _
  have HM1 := hid hM1
  have HL : Hid (M.lines = M1.lines) := by rw [hM1]; exact rfl
  clear hM1 hW1 x6 x6f
  have y2 : W1.cell? ⟨m, 2, none⟩ = some (.map (some B.lb)) := H1.out.blk.cell 2
  go_wp2_with fail
  refine (CloneLines_z B.lb _ _ _ H1.out.map).mono ?_
  rintro e w2 ⟨rfl, rfl⟩
  have hrg := run_range_map (P := Tryz.prog) (W1.alloc (.map (M1.lines.map lineE).toArray M1.clock)) 129 24 143 W1.heap.size (M1.lines.map lineE).toArray M1.clock Tryz.underlying129 (heap_alloc_new _ _)
  go_wp2
  obtain ⟨bm, hbm⟩ : ∃ bm, bm = W1.heap.size := ⟨_, rfl⟩
  obtain ⟨r, hr⟩ : ∃ r, r = W1.heap.size + 1 := ⟨_, rfl⟩
  obtain ⟨es, hes⟩ : ∃ es, es = (M1.lines.map lineE).toArray := ⟨_, rfl⟩
  obtain ⟨ck, hck⟩ : ∃ ck, ck = M1.clock := ⟨_, rfl⟩
  obtain ⟨W2, hW2⟩ : ∃ W2, W2 = (W1.alloc (.map es ck)).alloc (.mapIter (some bm) ck #[] ck) := ⟨_, rfl⟩
  have O12 : Only [] W1 W2 := by rw [hW2]; exact ((Only.refl _ _).alloc _).alloc _
  have H2 := hid (H1.out.only O12 (fun k _ hk => by cases hk))
  have O2 : Hid (Only [m, B.ib, B.lb] w W2) := O1.out.trans O12 (fun x hx => by cases hx)
  have hsz : (W1.alloc (.map es ck)).heap.size = W1.heap.size + 1 := Array.size_push ..
  have I2 := hid (show W2.heap[r]? = some (.mapIter (some bm) ck #[] ck) by rw [hW2, hr, ← hsz]; exact heap_alloc_new _ _)
  have K2 := hid (show W2.heap[bm]? = some (.map es ck) by
    rw [hW2, hbm]
    exact (Below.heap_alloc _ _ _ (by rw [hsz]; omega)).trans (heap_alloc_new _ _))
  have FB : Hid (∀ k ∈ footM m B M1, k ≠ bm ∧ k ≠ r) := fun k hk => by
    have := H1.out.foot_lt k hk
    omega
  have BR : Hid (bm ≠ r ∧ w.heap.size ≤ bm ∧ w.heap.size ≤ r) := by
    have := O1.out.size
    refine ⟨by omega, by omega, by omega⟩
  have OLD : Hid (∀ x ∈ es.toList, x.born < ck) := fun x hx => by
    rw [hes] at hx
    simp only [List.mem_map] at hx
    obtain ⟨L, hL, rfl⟩ := hx
    rw [hck]; exact H1.out.old L hL
  have ND : Hid ((es.toList.map (·.born)).Nodup) := by
    rw [hes]
    show ((M1.lines.map lineE).map (·.born)).Nodup
    rw [List.map_map]
    exact List.pairwise_map.2 H1.out.born
  rw [← hr, ← hbm, ← hes, ← hck, ← hW2]
  have HES := hid hes
  have HCK := hid hck
  clear hsz hW2 hbm hr hes hck y2 hrg O12 H1 O1
  go_loopw [] (fun wr => ∃ seen : Array Nat, Hid (wr.heap[r]? = some (.mapIter (some bm) ck seen ck)) ∧ Hid (wr.heap[bm]? = some (.map es ck)) ∧ Hid (MemIs wr m B (partM M1 (markOf · c) (seenIn seen))) ∧ Hid (Only [m, B.ib, B.lb] w wr)) (fun wr => (leftOf es (wr.iterSeen r)).size)
  case atStart =>
    refine ⟨#[], I2, K2, ?_, O2⟩
    have e : seenIn #[] = fun _ => false := by funext L; simp [seenIn]
    rw [e, part_none]
    exact H2
  case round =>
    obtain ⟨seen, hI, hK, hP, hO⟩ := hrel
    rcases run_next_at (P := Tryz.prog) wr 0 r bm ck ck seen es ck hI.out hK.out OLD.out (Nat.le_refl _) with ⟨h0, hrun⟩ | ⟨e, he, w1, hw1, hrun⟩
    · have H0 := hid h0
      clear h0
      go_wp2
      go_ret
      have hall : partM M1 (markOf · c) (seenIn seen) = partM M1 (markOf · c) (fun _ => true) := by
        have h1 : ∀ L ∈ M1.lines, seenIn seen L = true := fun L hL => by
          have := all_seen es seen H0.out (lineE L) (by rw [HES.out]; exact List.mem_map.2 ⟨L, hL, rfl⟩)
          exact this
        exact part_all h1
      rw [hall] at hP
      refine ⟨rfl, ⟨M.st.a, M.st.b, M.st.c, IntKind.u64.wrap (M.st.d + 1)⟩, rfl, rfl, rfl, rfl, ?_, hO.out⟩
      have := hP.out
      rw [HM1.out] at this
      exact this
    · obtain ⟨L, hL, rfl⟩ : ∃ L ∈ M1.lines, e = lineE L := by
        have := (mem_left he).1
        rw [HES.out] at this
        simp only [List.mem_map] at this
        obtain ⟨L, hL, rfl⟩ := this
        exact ⟨L, hL, rfl⟩
      have hns : Hid (seenIn seen L = false) := (mem_left he).2
      have hsh := hid (left_shrinks es seen (lineE L) he)
      have hit := hid hI.out
      obtain ⟨W3, hW3⟩ : ∃ W3, W3 = w1.putObj r (.mapIter (some bm) ck (seen.push (lineE L).born) ck) := ⟨_, rfl⟩
      replace hrun : (Instr.next (.pointer (some ⟨r, 0, none⟩)) false 0).run Tryz.prog wr = .ok (.tuple #[.bool true, (lineE L).key, (lineE L).val]) W3 := by rw [hW3]; exact hrun
      have hon1 : Only [r] wr w1 := by rcases hw1 with rfl | rfl; exact Only.refl _ _; exact (Only.refl _ _).drew
      have hon : Only [r] wr W3 := by rw [hW3]; exact Only.putObj hon1 (Or.inl (by simp)) _
      have hI3 : Hid (W3.heap[r]? = some (.mapIter (some bm) ck (seen.push L.born) ck)) := by
        rw [hW3]
        exact putObj_at (w := w1) (o := .mapIter (some bm) ck seen ck) (by rcases hw1 with rfl | rfl <;> exact hI.out)
      have hK3 : Hid (W3.heap[bm]? = some (.map es ck)) := (hon.block _ (Array.getElem?_eq_some_iff.1 hK.out).1 (by simpa using BR.out.1)).trans hK.out
      have hP3 := hid (hP.out.only hon (fun k hk hm => (FB.out k (part_foot k hk)).2 (by simpa using hm)))
      have hO3 : Hid (Only [m, B.ib, B.lb] w W3) := hO.out.trans hon (fun x hx => Or.inr (by simp at hx; subst hx; exact BR.out.2.2))
      have hent := run_entry_at (P := Tryz.prog) W3 r bm ck seen es ck (lineE L) hI3.out hK3.out (mem_left he).1 ND.out
      have HLM := hid hL
      simp only [lineE] at hrun hent
      clear hw1 hW3 hon hon1 hI hK hP hO he hL
      have okL := H2.out.ok L HLM.out
      have hst : (storeCells ⟨W3.heap.size, 0, none⟩ (lineC L).toList 0).run Tryz.prog (W3.alloc (.cells lineZ 143)) = .ok () (W3.alloc (.cells (lineC L) 143)) :=
        run_storeCells_new (P := Tryz.prog) W3 143 lineZ (lineC L) (by rw [line_size, lineC_size okL]) (by rw [lineC_size okL]; rfl) (lineC_one L)
      have n2 : (lineC L).size = N := (lineC_size okL).trans HN.out.symm
      obtain ⟨k, hk⟩ : ∃ k, L.ks[c]? = some k := ⟨_, List.getElem?_eq_getElem (by rw [okL.marks]; omega)⟩
      have hkm : markOf L c = k := by simp [markOf, hk]
      have hkl : k ≤ L.ps.length := okL.most k (List.mem_of_getElem? hk)
      have hll : L.ps.length ≤ 1000000000 := HLEN.out L (by rw [HL.out]; exact HLM.out)
      have y0 : (W3.alloc (.cells (lineC L) 143)).cell? ⟨W3.heap.size, 1 + c, none⟩ = some (.int .i64 (k : Int)) := by
        rw [(Blk.new W3 143 (lineC L)).cell, Nat.add_comm]
        simp [lineC, marksC, hk]
      have j1 : (0 : Int) ≤ (c : Int) := by omega
      have j2 : (c : Int) < 65 := by omega
      obtain ⟨pre, post, hpp⟩ := List.append_of_mem HLM.out
      have hpl : (partM M1 (markOf · c) (seenIn seen)).lines = (pre.flatMap fun L => if seenIn seen L then cutO L (markOf L c) else [L]) ++ L :: (post.flatMap fun L => if seenIn seen L then cutO L (markOf L c) else [L]) := by
        show M1.lines.flatMap _ = _
        rw [hpp]
        simp [List.flatMap_append, List.flatMap_cons, hns.out]
      have hP4 := hid (hP3.out.only ((Only.refl [] W3).alloc (.cells (lineC L) 143)) (fun k _ hk => by cases hk))
      have HKM := hid hkm
      have HKL := hid hkl
      have HLL := hid hll
      have HPL := hid hpl
      have HPP := hid hpp
      clear hk hkm hkl hll hpl hpp okL
      go_wp2_with fail
      refine (last_some m B (partM M1 (markOf · c) (seenIn seen)) k k _ _ L HPL.out HLL.out (by have := HKL.out; have := HLL.out; omega) (Nat.min_eq_left HKL.out).symm _ hP4.out).mono ?_
      rintro e w5 ⟨rfl, hP5, hO5⟩
      have hstep := part_step (S := seenIn seen) (S' := seenIn (seen.push L.born)) (k := (markOf · c)) HPP.out H2.out.ok H2.out.keys hns.out (seenIn_push HPP.out H2.out.born seen).1 (seenIn_push HPP.out H2.out.born seen).2 (by show markOf L c ≤ _; rw [HKM.out]; exact HKL.out)
      simp only [HKM.out] at hstep
      rw [hstep] at hP5
      have hO6 : Only [B.ib, B.lb] W3 w5 := ((Only.refl [B.ib, B.lb] W3).alloc (.cells (lineC L) 143)).trans hO5 (fun x hx => Or.inl hx)
      have fb1 := FB.out B.ib (by simp [footM])
      have fb2 := FB.out B.lb (by simp [footM])
      have hI5 : Hid (w5.heap[r]? = some (.mapIter (some bm) ck (seen.push L.born) ck)) :=
        (hO6.block _ (Array.getElem?_eq_some_iff.1 hI3.out).1 (by simp; exact ⟨fun e => fb1.2 e.symm, fun e => fb2.2 e.symm⟩)).trans hI3.out
      have hK5 : Hid (w5.heap[bm]? = some (.map es ck)) :=
        (hO6.block _ (Array.getElem?_eq_some_iff.1 hK3.out).1 (by simp; exact ⟨fun e => fb1.1 e.symm, fun e => fb2.1 e.symm⟩)).trans hK3.out
      have HP5 := hid hP5
      have hO7 : Hid (Only [m, B.ib, B.lb] w w5) := hO3.out.trans hO6 (fun x hx => Or.inl (by simp at hx; simp [hx]))
      clear hstep hP5 hO6 fb1 fb2 hO5 hst hrun hent y0
      go_wp2
      go_roundw
      case rel => exact ⟨seen.push L.born, hI5, hK5, HP5, hO7⟩
      case measure =>
        have h1 : w5.iterSeen r = seen.push L.born := by unfold World.iterSeen; rw [hI5.out]
        have h2 : wr.iterSeen r = seen := by unfold World.iterSeen; rw [hit.out]
        rw [h1, h2]
        exact hsh.out

end Go.Proofs.YtbkaemajjaiklaaGreat
