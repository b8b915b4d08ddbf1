/- A memory of words: flushes of a line that is there. -/
import Derived.Test.YtbkaemajjaiklaaGreatPmU
namespace Go.Proofs.YtbkaemajjaiklaaGreat
open Go.RowKit
set_option linter.unusedVariables false
set_option linter.unusedSimpArgs false

set_option maxRecDepth 100000 in
set_option maxHeartbeats 1000000 in
theorem Flush_some (m : Nat) (B : MB) (M : MemS) (c k : Nat) (hc : c ≤ 64) (hk : k < M.view.length) (pre post : List LineA) (L : LineA) (hM : M.lines = pre ++ L :: post) (hadr : L.adr = 8 * k - 8 * k % 64) (hlen : L.ps.length ≤ 1000000000) (w : World) (h : MemIs w m B M) :
    Calls Tryz.prog 113 #[ptrV m, .int .i64 (c : Int), .int .u64 (8 * (k : Int))] w fun e w' =>
      e = .returned (.int .i64 0) ∧ ∃ s, s.a = M.st.a ∧ s.b = M.st.b ∧ s.c = (M.st.c + 1) % 18446744073709551616 ∧ s.d = M.st.d ∧
        MemIs w' m B { M with st := s, lines := pre ++ { L with ks := L.ks.set c L.ps.length } :: post } ∧ Only [m, B.lb] w w' := by
  have hbig := h.big
  have hL : L ∈ M.lines := by rw [hM]; simp
  have hok := h.ok L hL
  have x2 : w.cell? ⟨m, 2, none⟩ = some (.map (some B.lb)) := h.blk.cell 2
  have x5 : w.cell? ⟨m, 5, none⟩ = some (.int .u64 M.st.c) := h.blk.cell 5
  have x5f := h.blk.frozen 5
  have hz := hid (show atE M.view.length (8 * (k : Int)) = 0 from if_pos ⟨by omega, by omega⟩)
  have hcz := hid (show clientE (c : Int) = 0 from if_pos ⟨by omega, by omega⟩)
  have z378 := line_zero
  obtain ⟨N, hN⟩ : ∃ N, N = 66 := ⟨_, rfl⟩
  have s378 : ∀ w, (sizeOf 143).run Tryz.prog w = .ok N w := by rw [hN]; exact line_sizeOf
  have a378 := line_isAgg
  have n378 : lineZ.size = N := lineZ_size.trans hN.symm
  have n2 : (lineC L).size = N := (lineC_size hok).trans hN.symm
  have HN := hid hN
  clear hN
  have hck : c < L.ks.length := by rw [hok.marks]; omega
  have HM := hid hM
  have HA := hid hadr
  have H := hid h
  clear h hM hadr
  go_enter Tryz.func113, Tryz.ntmps113
  go_wp2_with fail
  refine (there_z m B M.view.length M.st H.out.pos _ H.out.blk).mono ?_
  rintro e w1 ⟨rfl, rfl⟩
  go_wp2_with fail
  refine (client_z (c : Int) _).mono ?_
  rintro e w1 ⟨rfl, rfl⟩
  rw [hcz.out]
  go_wp2_with fail
  refine (at_z m B M.view.length M.st H.out.pos hbig (8 * (k : Int)) (by omega) (by omega) _ H.out.blk).mono ?_
  rintro e w1 ⟨rfl, rfl⟩
  rw [hz.out]
  go_wp2
  obtain ⟨W1, hW1⟩ : ∃ W1, W1 = w.setCell ⟨m, 5, none⟩ (.int .u64 (IntKind.u64.wrap (M.st.c + 1))) := ⟨_, rfl⟩
  rw [← hW1]
  have H1 : Hid (MemIs W1 m B { M with st := ⟨M.st.a, M.st.b, IntKind.u64.wrap (M.st.c + 1), M.st.d⟩ }) := by
    rw [hW1]; exact H.out.counts ((Only.refl _ _).setCell (Or.inl (by simp)) _) (H.out.blk.set_ 5 _)
  have HO1 := hid (show Only [m, B.lb] w W1 by rw [hW1]; exact (Only.refl _ _).setCell (Or.inl (by simp)) _)
  clear hW1
  have y2 : W1.drew.cell? ⟨m, 2, none⟩ = some (.map (some B.lb)) := H1.out.blk.drew.cell 2
  have y2' : (W1.alloc (.cells lineZ 143)).drew.cell? ⟨m, 2, none⟩ = some (.map (some B.lb)) := (H1.out.blk.drew.alloc _).cell 2
  have e : (L.adr : Int) = 8 * (k : Int) - 8 * (k : Int) % 64 := by rw [HA.out]; omega
  have hlk0 : ∀ W : World, W.heap[B.lb]? = some (.map (M.lines.map lineE).toArray M.clock) → (Instr.lookup 129 (.map (some B.lb)) (.int .u64 (8 * (k : Int) - 8 * (k : Int) % 64)) true).run Tryz.prog W = .ok (.tuple #[.agg (lineC L), .bool true]) W := by
    intro W hW
    have := run_lookU_some (P := Tryz.prog) W 129 24 143 Tryz.underlying129 Tryz.underlying24 B.lb _ _ hW (L.adr : Int) pre.length (.agg (lineC L)) true (by simpa using find_line HM.out H.out.keys)
    rw [e] at this; exact this
  have hlk := hlk0 W1.drew H1.out.map
  have hlk' := hlk0 (W1.alloc (.cells lineZ 143)).drew (by show (W1.alloc _).heap[B.lb]? = _; rw [Below.heap_alloc W1 _ _ (H1.out.foot_lt _ (by simp [footM]))]; exact H1.out.map)
  have hst : (storeCells ⟨W1.heap.size, 0, none⟩ (lineC L).toList 0).run Tryz.prog (W1.alloc (.cells lineZ 143)).drew = .ok () (W1.alloc (.cells (lineC L) 143)).drew :=
    run_storeCells_new (P := Tryz.prog) W1.drew 143 lineZ (lineC L) (by rw [line_size, lineC_size hok]) (by rw [lineC_size hok]; rfl) (lineC_one L)
  clear x2 x5 x5f hlk0 e
  refine share (X := ?X) (fun key => ?_) ?_
  rotate_left
  · go_region_with (first
      | (go_at_call 104; refine (begin_z (8 * (k : Int)) (by omega) (by omega) _).mono ?_; rintro e w2 ⟨rfl, rfl⟩))
    all_goals
      try go_simp
      try simp only [Act.put, List.setIfInBounds_toArray, List.set_cons_zero, List.set_cons_succ]
      exact key.out
  clear y2 y2' hlk hlk' hst
  have b2 := (Blk.new W1 143 (lineC L)).drew
  have h2 := H1.out.only (((Only.refl [] W1).alloc (.cells (lineC L) 143)).drew) (fun k _ hk => by cases hk)
  have o2 : Only [m, B.lb] w (W1.alloc (.cells (lineC L) 143)).drew := (HO1.out.alloc _).drew
  have n3 : ∀ k ∈ footM m B M, k ≠ W1.heap.size := fun k hk e => by have := H1.out.foot_lt k hk; omega
  have o3 : w.heap.size ≤ W1.heap.size := HO1.out.size
  obtain ⟨X, hX⟩ : ∃ X, X = W1.heap.size := ⟨_, rfl⟩
  obtain ⟨W2, hW2⟩ : ∃ W2, W2 = (W1.alloc (.cells (lineC L) 143)).drew := ⟨_, rfl⟩
  rw [← hW2, ← hX]
  rw [← hW2] at h2 o2
  rw [← hW2, ← hX] at b2
  rw [← hX] at n3 o3
  have H2 := hid h2
  have O2 := hid o2
  have N3 := hid n3
  have B2 := hid b2
  clear hW2 hX h2 o2 n3 H1 HO1
  have z0 : W2.cell? ⟨X, 0, none⟩ = some (.slice (some ⟨L.g, L.o, none⟩) L.ps.length L.cap) := B2.out.cell 0
  have zc : W2.cell? ⟨X, 1 + c, none⟩ = some (.int .i64 ((L.ks[c]'hck : Nat) : Int)) := by
    rw [B2.out.cell, Nat.add_comm]
    simp [lineC, marksC, hck]
  have zf := B2.out.frozen (1 + c)
  have i1 : (0 : Int) ≤ (c : Int) := by omega
  have i2 : (c : Int) < 65 := by omega
  clear b2
  go_wp2
  clear z0 zc zf
  have ok' : LineOK M.view.length { L with ks := L.ks.set c L.ps.length } := ⟨hok.adr, hok.some_, hok.puts, by simp [hok.marks], fun k hk => by
    rcases List.mem_or_eq_of_mem_set hk with h | h
    · exact hok.most k h
    · rw [h]; exact Nat.le_refl _⟩
  obtain ⟨W3, hW3⟩ : ∃ W3, W3 = W2.setCell ⟨X, 1 + c, none⟩ (.int .i64 (L.ps.length : Int)) := ⟨_, rfl⟩
  rw [← hW3]
  have B3 : Hid (Blk W3 X 143 (lineC { L with ks := L.ks.set c L.ps.length })) := by
    rw [hW3, Nat.add_comm, ← lineC_mark]; exact B2.out.set_ (c + 1) _
  have O23 : Only [X] W2 W3 := by rw [hW3]; exact (Only.refl _ _).setCell (Or.inl (by simp)) _
  have H3 := hid (H2.out.only O23 (fun k hk hm => N3.out k hk (by simpa using hm)))
  have O3 : Hid (Only [m, B.lb] w W3) := O2.out.trans O23 (fun x hx => Or.inr (by simp at hx; omega))
  clear hW3 O23 H2 O2 B2 N3
  have y2 : W3.drew.cell? ⟨m, 2, none⟩ = some (.map (some B.lb)) := H3.out.blk.drew.cell 2
  have n3 := lineC_size ok'
  have hld : (loadCellsFrom ⟨X, 0, none⟩ 0 N #[]).run Tryz.prog W3.drew = .ok (lineC { L with ks := L.ks.set c L.ps.length }) W3.drew := loadCells_blk B3.out.drew (n3.trans HN.out.symm)
  have e : (L.adr : Int) = 8 * (k : Int) - 8 * (k : Int) % 64 := by rw [HA.out]; omega
  have hup : (Instr.mapUpdate 129 (.map (some B.lb)) (.int .u64 (8 * (k : Int) - 8 * (k : Int) % 64)) (.agg (lineC { L with ks := L.ks.set c L.ps.length }))).run Tryz.prog W3.drew =
      .ok () (W3.drew.putObj B.lb (.map ((pre ++ { L with ks := L.ks.set c L.ps.length } :: post).map lineE).toArray M.clock)) := by
    have := run_updU_old (P := Tryz.prog) W3.drew 129 24 143 Tryz.underlying129 Tryz.underlying24 B.lb _ _ H3.out.map (L.adr : Int) (.agg (lineC { L with ks := L.ks.set c L.ps.length })) pre.length (.agg (lineC L)) (by simpa using find_line HM.out H3.out.keys) (by simp [HM.out, lineE])
    rw [e] at this
    rw [this, HM.out]
    congr 3
    have := modify_lines (pre := pre) (post := post) (L := L) (L' := { L with ks := L.ks.set c L.ps.length }) rfl rfl
    rw [e] at this
    exact this
  clear e n3
  refine share (X := ?Y) (fun key => ?_) ?_
  rotate_left
  · go_region_with (first
      | (go_at_call 104; refine (begin_z (8 * (k : Int)) (by omega) (by omega) _).mono ?_; rintro e w2 ⟨rfl, rfl⟩))
    all_goals
      try go_simp
      try simp only [Act.put, List.setIfInBounds_toArray, List.set_cons_zero, List.set_cons_succ]
      exact key.out
  go_wp2
  go_ret
  have hM3 := H3.out
  refine ⟨rfl, ⟨M.st.a, M.st.b, IntKind.u64.wrap (M.st.c + 1), M.st.d⟩, rfl, rfl, rfl, rfl, ?_, (O3.out.drew).putObj (Or.inl (by simp)) _⟩
  have h3d : MemIs W3.drew m B { M with st := ⟨M.st.a, M.st.b, IntKind.u64.wrap (M.st.c + 1), M.st.d⟩ } := hM3.only ((Only.refl [] W3).drew) (fun k _ hk => by cases hk)
  exact MemIs.reline (L := L) (L' := { L with ks := L.ks.set c L.ps.length }) h3d HM.out rfl rfl rfl (by simp only [List.map_append, List.map_cons]) (fun h => h) ok'

end Go.Proofs.YtbkaemajjaiklaaGreat
