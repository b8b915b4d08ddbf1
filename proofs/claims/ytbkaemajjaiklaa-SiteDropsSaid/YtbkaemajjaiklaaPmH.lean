/- A memory of words: stores to a line that is there. -/
import Derived.Test.YtbkaemajjaiklaaPmG
namespace Go.Proofs.Ytbkaemajjaiklaa
open Go.RowKit
set_option linter.unusedVariables false
set_option linter.unusedSimpArgs false

theorem MemIs.vb_far {w : World} {m : Nat} {B : MB} {M : MemS} (h : MemIs w m B M) : m ≠ B.vb ∧ B.ib ≠ B.vb ∧ B.lb ≠ B.vb ∧ ∀ L ∈ M.lines, L.g ≠ B.vb := by
  have h1 := h.apart
  simp only [footM, List.nodup_cons, List.mem_cons, not_or, List.mem_map, not_exists, not_and] at h1
  exact ⟨h1.1.1, fun e => h1.2.1.1 e.symm, fun e => h1.2.1.2.1 e.symm, fun L hL => h1.2.1.2.2 L hL⟩
/-- a word of the view -/
theorem MemIs.word {w : World} {m : Nat} {B : MB} {M : MemS} (h : MemIs w m B M) (k : Nat) (x : Int) : MemIs (w.setCell ⟨B.vb, k, none⟩ (.int .u64 x)) m B { M with view := M.view.set k x } := by
  obtain ⟨f0, f1, f2, f3⟩ := h.vb_far
  have ho : Only [B.vb] w (w.setCell ⟨B.vb, k, none⟩ (.int .u64 x)) := (Only.refl _ _).setCell (Or.inl (by simp)) _
  have hl : (M.view.set k x).length = M.view.length := List.length_set
  exact {
    blk := by rw [hl]; exact ho.blk h.blk (by simpa using f0)
    pos := by rw [hl]; exact h.pos
    big := by rw [hl]; exact h.big
    len := by rw [hl]; exact h.len
    view := h.view.set_ k x
    image := h.image.only ho (by simpa using f1)
    map := (ho.block _ (h.foot_lt _ (by simp [footM])) (by simpa using f2)).trans h.map
    rows := fun L hL => (h.rows L hL).only ho (by simpa using f3 L hL)
    ok := fun L hL => by rw [hl]; exact h.ok L hL
    keys := h.keys
    born := h.born
    old := h.old
    apart := h.apart }

set_option maxRecDepth 100000 in
set_option maxHeartbeats 1000000 in
theorem Store_some (m : Nat) (B : MB) (M : MemS) (k : Nat) (x : Int) (hk : k < M.view.length) (pre post : List LineA) (L : LineA) (hM : M.lines = pre ++ L :: post) (hadr : L.adr = 8 * k - 8 * k % 64) (hlen : L.ps.length ≤ 1000000000) (w : World) (h : MemIs w m B M) :
    Calls Try.prog 65 #[ptrV m, .int .u64 (8 * (k : Int)), .int .u64 x] w fun e w' =>
      e = .returned (.int .i64 0) ∧ ∃ s g o cap, s.a = M.st.a ∧ s.b = (M.st.b + 1) % 18446744073709551616 ∧ s.c = M.st.c ∧ s.d = M.st.d ∧
        MemIs w' m B { M with st := s, view := M.view.set k x, lines := pre ++ { L with g := g, o := o, cap := cap, ps := L.ps ++ [(8 * k, x)] } :: post } ∧ Only [m, B.vb, B.lb, L.g] w w' ∧ (g = L.g ∨ w.heap.size ≤ g) := by
  have hbig := h.big
  have hL : L ∈ M.lines := by rw [hM]; simp
  have hok := h.ok L hL
  have x0 : w.cell? ⟨m, 0, none⟩ = some (.slice (some ⟨B.vb, 0, none⟩) M.view.length B.vc) := h.blk.cell 0
  have x4 : w.cell? ⟨m, 4, none⟩ = some (.int .u64 M.st.b) := h.blk.cell 4
  have x4f := h.blk.frozen 4
  have xv : w.cell? ⟨B.vb, k, none⟩ = some (.int .u64 (M.view[k]'hk)) := h.view.cell (List.getElem?_eq_getElem hk)
  have xvf := h.view.frozen k
  have ne : B.vb ≠ m := fun e => h.vb_far.1 e.symm
  have i1 : (8 * (k : Int)) / 8 = k := by omega
  have i3 : (0 : Int) ≤ k := by omega
  have i4 : (k : Int) < (M.view.length : Int) := by omega
  have hz := hid (show atE M.view.length (8 * (k : Int)) = 0 from if_pos ⟨by omega, by omega⟩)
  have z378 := line_zero
  obtain ⟨N, hN⟩ : ∃ N, N = 66 := ⟨_, rfl⟩
  have s378 : ∀ w, (sizeOf 167).run Try.prog w = .ok N w := by rw [hN]; exact line_sizeOf
  have a378 := line_isAgg
  have n378 : lineZ.size = N := lineZ_size.trans hN.symm
  have n2 : (lineC L).size = N := (lineC_size hok).trans hN.symm
  have HN := hid hN
  have HM := hid hM
  have HA := hid hadr
  have H := hid h
  clear h hM hadr hN
  go_enter Try.func65, Try.ntmps65
  go_wp2_with fail
  refine (at_z m B M.view.length M.st H.out.pos hbig (8 * (k : Int)) (by omega) (by omega) _ H.out.blk).mono ?_
  rintro e w1 ⟨rfl, rfl⟩
  rw [hz.out]
  go_wp2
  obtain ⟨W1, hW1⟩ : ∃ W1, W1 = (w.setCell ⟨m, 4, none⟩ (.int .u64 (IntKind.u64.wrap (M.st.b + 1)))).setCell ⟨B.vb, k, none⟩ (.int .u64 x) := ⟨_, rfl⟩
  rw [← hW1]
  have H1 : Hid (MemIs W1 m B { M with st := ⟨M.st.a, IntKind.u64.wrap (M.st.b + 1), M.st.c, M.st.d⟩, view := M.view.set k x }) := by
    rw [hW1]
    exact MemIs.word (M := { M with st := ⟨M.st.a, IntKind.u64.wrap (M.st.b + 1), M.st.c, M.st.d⟩ }) (H.out.counts ((Only.refl _ _).setCell (Or.inl (by simp)) _) (H.out.blk.set_ 4 _)) k x
  have HO1 := hid (show Only [m, B.vb, B.lb, L.g] w W1 by rw [hW1]; exact ((Only.refl _ _).setCell (Or.inl (by simp)) _).setCell (Or.inl (by simp)) _)
  clear hW1
  have y2 : W1.drew.cell? ⟨m, 2, none⟩ = some (.map (some B.lb)) := H1.out.blk.drew.cell 2
  have y2' : (W1.alloc (.cells lineZ 167)).drew.cell? ⟨m, 2, none⟩ = some (.map (some B.lb)) := (H1.out.blk.drew.alloc _).cell 2
  have e : (L.adr : Int) = 8 * (k : Int) - 8 * (k : Int) % 64 := by rw [HA.out]; omega
  have hlk0 : ∀ W : World, W.heap[B.lb]? = some (.map (M.lines.map lineE).toArray M.clock) → (Instr.lookup 128 (.map (some B.lb)) (.int .u64 (8 * (k : Int) - 8 * (k : Int) % 64)) false).run Try.prog W = .ok (.agg (lineC L)) W := by
    intro W hW
    have := run_lookU_some (P := Try.prog) W 128 47 167 Try.underlying128 Try.underlying47 B.lb _ _ hW (L.adr : Int) pre.length (.agg (lineC L)) false (by simpa using find_line HM.out H.out.keys)
    rw [e] at this; exact this
  have hlk := hlk0 W1.drew H1.out.map
  have hlk' := hlk0 (W1.alloc (.cells lineZ 167)).drew (by show (W1.alloc _).heap[B.lb]? = _; rw [Below.heap_alloc W1 _ _ (H1.out.foot_lt _ (by simp [footM]))]; exact H1.out.map)
  have hst : (storeCells ⟨W1.heap.size, 0, none⟩ (lineC L).toList 0).run Try.prog (W1.alloc (.cells lineZ 167)).drew = .ok () (W1.alloc (.cells (lineC L) 167)).drew :=
    run_storeCells_new (P := Try.prog) W1.drew 167 lineZ (lineC L) (by rw [line_size, lineC_size hok]) (by rw [lineC_size hok]; rfl) (lineC_one L)
  clear x0 x4 x4f xv xvf hlk0 e
  refine share (X := ?X) (fun key => ?_) ?_
  rotate_left
  · go_region_with (first
      | (go_at_call 96; refine (begin_z (8 * (k : Int)) (by omega) (by omega) _).mono ?_; rintro e w2 ⟨rfl, rfl⟩))
    all_goals
      try go_simp
      try simp only [Act.put, List.setIfInBounds_toArray, List.set_cons_zero, List.set_cons_succ]
      exact key.out
  clear y2 y2' hlk hlk' hst
  have b2 := (Blk.new W1 167 (lineC L)).drew
  have h2 := H1.out.only (((Only.refl [] W1).alloc (.cells (lineC L) 167)).drew) (fun k _ hk => by cases hk)
  have o2 : Only [m, B.vb, B.lb, L.g] w (W1.alloc (.cells (lineC L) 167)).drew := (HO1.out.alloc _).drew
  have n3 : ∀ k ∈ footM m B M, k ≠ W1.heap.size := fun k hk e => by have := H1.out.foot_lt k hk; omega
  have o3 : w.heap.size ≤ W1.heap.size := HO1.out.size
  obtain ⟨X, hX⟩ : ∃ X, X = W1.heap.size := ⟨_, rfl⟩
  obtain ⟨W2, hW2⟩ : ∃ W2, W2 = (W1.alloc (.cells (lineC L) 167)).drew := ⟨_, rfl⟩
  rw [← hW2, ← hX]
  rw [← hW2] at h2 o2
  rw [← hW2, ← hX] at b2
  rw [← hX] at n3 o3
  have H2 := hid h2
  have O2 := hid o2
  have N3 := hid n3
  have B2 := hid b2
  clear hW2 hX h2 o2 n3 H1 HO1
  have z0 : W2.cell? ⟨X, 0, none⟩ = some (.slice (some ⟨L.g, L.o, none⟩) L.ps.length L.cap) := B2.out.cell 0
  have zf := B2.out.frozen 0
  clear b2
  have hrow2 : RowP (W2.alloc (.cells #[.int .u64 (8 * (k : Int)), .int .u64 x] 170)) L := (H2.out.rows L (by rw [HM.out]; simp)).only ((Only.refl [] W2).alloc _) (fun h => by cases h)
  have hnew : ∀ j u, [Value.int .u64 ((8 * k : Nat) : Int), .int .u64 x][j]? = some u → (W2.alloc (.cells #[.int .u64 (8 * (k : Int)), .int .u64 x] 170)).cell? ((⟨W2.heap.size, 0, none⟩ : Addr).add j) = some u := by
    intro j u hj
    have hadd : (⟨W2.heap.size, 0, none⟩ : Addr).add j = ⟨W2.heap.size, j, none⟩ := by unfold Addr.add; split <;> simp_all
    rw [hadd, (Blk.new W2 170 #[.int .u64 (8 * (k : Int)), .int .u64 x]).cell j, ← hj]
    simp
  obtain ⟨g, o, cap, w5, hrun, hrow5, ho5, hg5⟩ := append_line (W2.alloc (.cells #[.int .u64 (8 * (k : Int)), .int .u64 x] 170)) 164 L hrow2 ⟨W2.heap.size, 0, none⟩ 1 (8 * k) x hnew hlen
  have lg : L.g ∈ footM m B M := by simp only [footM, List.mem_cons, List.mem_map]; exact Or.inr (Or.inr (Or.inr (Or.inr ⟨L, by rw [HM.out]; simp, rfl⟩)))
  have hXg : X ≠ L.g := (N3.out _ lg).symm
  have b5 : Blk w5 X 167 (lineC L) := ho5.blk (B2.out.alloc _) (by simpa using hXg)
  have z5 : w5.cell? ⟨X, 0, none⟩ = some (.slice (some ⟨L.g, L.o, none⟩) L.ps.length L.cap) := b5.cell 0
  have zf5 := b5.frozen 0
  have HRUN := hid hrun
  have B5 := hid b5
  have R5 := hid hrow5
  have O5 := hid ho5
  have G5 := hid hg5
  clear hrow2 hnew hrun hrow5 ho5 hg5 b5 lg
  go_wp2_with (at_builtin; refine wpList_append_runI _ rfl (.tmp 40) (.tmp 44) 164 164 rfl _ _ (by simp [Act.eval]) (by simp [Act.eval]) HRUN.out ?_)
  clear z0 zf z5 zf5
  obtain ⟨L', hL'⟩ : ∃ L' : LineA, L' = { L with g := g, o := o, cap := cap, ps := L.ps ++ [(8 * k, x)] } := ⟨_, rfl⟩
  have e6 : (lineC L).setIfInBounds 0 (.slice (some ⟨g, o, none⟩) (L.ps.length + 1) cap) = lineC L' := by
    rw [hL']
    simp [lineC]
  have ok' : LineOK M.view.length L' := by
    rw [hL']
    refine ⟨hok.adr, by simp, fun p hp => ?_, hok.marks, fun q hq => by have := hok.most q hq; simp; omega⟩
    rcases List.mem_append.1 hp with hp | hp
    · exact hok.puts p hp
    · simp at hp; subst hp
      refine ⟨by simp, by simp; omega, ?_⟩
      have := HA.out
      simp; omega
  obtain ⟨W6, hW6⟩ : ∃ W6, W6 = w5.setCell ⟨X, 0, none⟩ (.slice (some ⟨g, o, none⟩) (L.ps.length + 1) cap) := ⟨_, rfl⟩
  rw [← hW6]
  have B6 : Hid (Blk W6 X 167 (lineC L')) := by rw [hW6, ← e6]; exact B5.out.set_ 0 _
  have O56 : Only [X] w5 W6 := by rw [hW6]; exact (Only.refl _ _).setCell (Or.inl (by simp)) _
  have O26 : Only [L.g, X] W2 W6 := (((Only.refl [L.g, X] W2).alloc _).trans O5.out (fun y hy => Or.inl (by simp at hy; simp [hy]))).trans O56 (fun y hy => Or.inl (by simp at hy; simp [hy]))
  have hnd := H2.out.apart
  have hfoot : footM m B { M with st := ⟨M.st.a, IntKind.u64.wrap (M.st.b + 1), M.st.c, M.st.d⟩, view := M.view.set k x } = footM m B M := rfl
  rw [hfoot] at hnd
  have hgne : (∀ y, y = m ∨ y = B.vb ∨ y = B.ib ∨ y = B.lb → y ≠ L.g) ∧ ∀ y ∈ pre ++ post, y.g ≠ L.g := by
    have e1 : footM m B M = (m :: B.vb :: B.ib :: B.lb :: pre.map (·.g)) ++ L.g :: post.map (·.g) := by simp only [footM, HM.out, List.map_append, List.map_cons, List.cons_append]
    rw [e1, List.nodup_append, List.nodup_cons] at hnd
    refine ⟨fun y hy => hnd.2.2 y (by rcases hy with rfl | rfl | rfl | rfl <;> simp) L.g (List.mem_cons_self ..), fun y hy => ?_⟩
    rcases List.mem_append.1 hy with hy | hy
    · exact hnd.2.2 y.g (by simp only [List.mem_cons, List.mem_map]; exact Or.inr (Or.inr (Or.inr (Or.inr ⟨y, hy, rfl⟩)))) L.g (List.mem_cons_self ..)
    · exact fun hc => (List.pairwise_cons.1 hnd.2.1).1 y.g (List.mem_map.2 ⟨y, hy, rfl⟩) hc.symm
  have far : ∀ y, y ∈ footM m B M → y ≠ L.g → y ∉ [L.g, X] := fun y hy hne hm => by
    have := N3.out y hy
    simp at hm
    rcases hm with h | h
    · exact hne h
    · exact this h
  have hblk : Blk W6.drew m 133 (memC B (M.view.set k x).length ⟨M.st.a, IntKind.u64.wrap (M.st.b + 1), M.st.c, M.st.d⟩) := (O26.blk H2.out.blk (far m (by simp [footM]) (hgne.1 m (by simp)))).drew
  have hmap : W6.drew.heap[B.lb]? = some (.map (M.lines.map lineE).toArray M.clock) := (O26.block _ (H2.out.foot_lt _ (by simp [footM])) (far B.lb (by simp [footM]) (hgne.1 B.lb (by simp)))).trans H2.out.map
  have y2 : W6.drew.cell? ⟨m, 2, none⟩ = some (.map (some B.lb)) := hblk.cell 2
  have hld : (loadCellsFrom ⟨X, 0, none⟩ 0 N #[]).run Try.prog W6.drew = .ok (lineC L') W6.drew := loadCells_blk B6.out.drew ((lineC_size ok').trans HN.out.symm)
  have la : L'.adr = L.adr := by rw [hL']
  have lb : L'.born = L.born := by rw [hL']
  have e : (L.adr : Int) = 8 * (k : Int) - 8 * (k : Int) % 64 := by rw [HA.out]; omega
  have hup : (Instr.mapUpdate 128 (.map (some B.lb)) (.int .u64 (8 * (k : Int) - 8 * (k : Int) % 64)) (.agg (lineC L'))).run Try.prog W6.drew =
      .ok () (W6.drew.putObj B.lb (.map ((pre ++ L' :: post).map lineE).toArray M.clock)) := by
    have := run_updU_old (P := Try.prog) W6.drew 128 47 167 Try.underlying128 Try.underlying47 B.lb _ _ hmap (L.adr : Int) (.agg (lineC L')) pre.length (.agg (lineC L)) (by simpa using find_line HM.out H2.out.keys) (by simp [HM.out, lineE])
    rw [e] at this
    rw [this, HM.out]
    congr 3
    have := modify_lines (pre := pre) (post := post) (L := L) (L' := L') la lb
    rw [e] at this
    exact this
  have fin : MemIs (W6.drew.putObj B.lb (.map ((pre ++ L' :: post).map lineE).toArray M.clock)) m B { M with st := ⟨M.st.a, IntKind.u64.wrap (M.st.b + 1), M.st.c, M.st.d⟩, view := M.view.set k x, lines := pre ++ L' :: post } :=
    MemIs.relineG (w1 := W6.drew) (M := { M with st := ⟨M.st.a, IntKind.u64.wrap (M.st.b + 1), M.st.c, M.st.d⟩, view := M.view.set k x }) (L := L) (L' := L') hblk H2.out.pos H2.out.big H2.out.len
      (H2.out.view.only (O26.drew) (far B.vb (by simp [footM]) (hgne.1 B.vb (by simp)))) (H2.out.image.only (O26.drew) (far B.ib (by simp [footM]) (hgne.1 B.ib (by simp)))) hmap
      (fun y hy => (H2.out.rows y (by rw [show M.lines = pre ++ L :: post from HM.out]; rcases List.mem_append.1 hy with h | h; exact List.mem_append_left _ h; exact List.mem_append_right _ (List.mem_cons_of_mem _ h))).only (O26.drew) (far y.g (by simp only [footM, List.mem_cons, List.mem_map]; exact Or.inr (Or.inr (Or.inr (Or.inr ⟨y, by rw [HM.out]; rcases List.mem_append.1 hy with h | h; exact List.mem_append_left _ h; exact List.mem_append_right _ (List.mem_cons_of_mem _ h), rfl⟩)))) (hgne.2 y hy)))
      (by
        have h1 : RowP w5 L' := by rw [hL']; exact R5.out
        refine (h1.only O56 ?_).only ((Only.refl [] W6).drew) (fun h => by cases h)
        rw [hL']
        simp only [List.mem_singleton]
        rcases G5.out with h | h
        · rw [h]; exact hXg.symm
        · simp at h
          have := B2.out.lt
          omega)
      (fun y hy => by simpa using H2.out.ok y hy) (by simpa using ok') H2.out.keys H2.out.born H2.out.old H2.out.apart HM.out la lb
      (by
        rw [hL']
        rcases G5.out with h | h
        · exact Or.inl h
        · right
          intro y hy
          show y ≠ g
          simp at h
          have := H2.out.foot_lt y hy
          omega) rfl
  have FIN := hid fin
  have O6 : Hid (Only [m, B.vb, B.lb, L.g] w W6) := O2.out.trans O26 (fun y hy => by
    simp at hy
    rcases hy with rfl | rfl
    · exact Or.inl (by simp)
    · exact Or.inr o3)
  have G6 : Hid (g = L.g ∨ w.heap.size ≤ g) := by
    rcases G5.out with h | h
    · exact Or.inl h
    · refine Or.inr ?_
      simp at h
      have := O2.out.size
      omega
  have HL' := hid hL'
  clear hW6 O56 O26 hnd hfoot hgne far hblk hmap e fin e6 ok' la lb hL' hXg
  refine share (X := ?Y) (fun key => ?_) ?_
  rotate_left
  · go_region_with (first
      | (go_at_call 96; refine (begin_z (8 * (k : Int)) (by omega) (by omega) _).mono ?_; rintro e w2 ⟨rfl, rfl⟩))
    all_goals
      try go_simp
      try simp only [Act.put, List.setIfInBounds_toArray, List.set_cons_zero, List.set_cons_succ]
      exact key.out
  go_wp2
  go_ret
  refine ⟨rfl, ⟨M.st.a, IntKind.u64.wrap (M.st.b + 1), M.st.c, M.st.d⟩, g, o, cap, rfl, rfl, rfl, rfl, ?_, (O6.out.drew).putObj (Or.inl (by simp)) _, G6.out⟩
  have h := FIN.out
  rw [HL'.out] at h
  simpa only [List.map_append, List.map_cons, HL'.out] using h

end Go.Proofs.Ytbkaemajjaiklaa
