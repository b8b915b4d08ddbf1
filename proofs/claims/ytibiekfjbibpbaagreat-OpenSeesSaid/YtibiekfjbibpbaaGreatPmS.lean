import Derived.Test.YtibiekfjbibpbaaGreatOpM
import Derived.ArgAppend
import Derived.Deep.Cut
import Derived.Lib.MinMax
import Derived.Maps.RangeRun
import Derived.Laws.Externs
/- A store to a memory that has no line there yet (cut from XPmU, XPmV for the squeezed tree). -/
namespace Go.Proofs.YtibiekfjbibpbaaGreat
open Go.RowKit
set_option linter.unusedVariables false
set_option linter.unusedSimpArgs false

theorem begin_z (a : Int) (ha : 0 ≤ a) (ha2 : a < 18446744073709551616) (w : World) : Calls Tryz.prog 118 #[.int .u64 a] w fun e w' => e = .returned (.int .u64 (a - a % 64)) ∧ w = w' := by
  go_enter Tryz.func118, Tryz.ntmps118
  go_wp2
  go_ret
  exact ⟨by congr 2, rfl⟩
theorem q7k.frozen {w : World} {b : Nat} {xs : List Int} (h : q7k w b xs) (i : Nat) : w.frozen? ⟨b, i, none⟩ = false := by
  obtain ⟨cur, h1, h2⟩ := h
  exact h1.frozen i
theorem q7k.set_ {w : World} {b : Nat} {xs : List Int} (h : q7k w b xs) (i : Nat) (x : Int) : q7k (w.setCell ⟨b, i, none⟩ (.int .u64 x)) b (xs.set i x) := by
  obtain ⟨cur, h1, h2⟩ := h
  refine ⟨_, h1.set_ i (.int .u64 x), fun j y hy => ?_⟩
  rw [List.getElem?_set] at hy
  rw [Array.getElem?_setIfInBounds]
  split at hy
  · rename_i e
    subst e
    split at hy
    · rename_i hl
      injection hy with hy; subst hy
      obtain ⟨z, hz⟩ : ∃ z, xs[i]? = some z := ⟨xs[i], List.getElem?_eq_getElem hl⟩
      have := (Array.getElem?_eq_some_iff.1 (h2 i z hz)).1
      simp [this]
    · cases hy
  · rename_i e
    rw [if_neg e]; exact h2 j y hy
def lineZ : Array Value := (Value.slice none 0 0 :: List.replicate 65 (.int .i64 0)).toArray
theorem line_info : (Tryz.prog.info? 222).map (fun i => (i.zero, i.size)) = some (some (.agg lineZ), 66) := by kernel_rfl
theorem line_zero : ∀ w, (zeroValue 222).run Tryz.prog w = .ok (.agg lineZ) w := (zero_of_info line_info).1
theorem line_size : (Tryz.prog.info? 222).map (·.size) = some 66 := (zero_of_info line_info).2
theorem sizeOf_info {P : Program} {t : TypeId} {n : Nat} (h : (P.info? t).map (·.size) = some n) : ∀ w, (sizeOf t).run P w = .ok n w := fun w => by
  cases hq : P.info? t with
  | none => rw [hq] at h; cases h
  | some i => rw [hq] at h; have h : some i.size = some n := h; injection h with h; simp [sizeOf, typeInfo, program, Sem.run, hq, h]
theorem line_sizeOf : ∀ w, (sizeOf 222).run Tryz.prog w = .ok 66 w := sizeOf_info line_size
theorem lineZ_size : lineZ.size = 66 := by rfl
/-- no line begins there -/
theorem find_none {M : MemS} {adr : Nat} (h : ∀ L ∈ M.lines, L.adr ≠ adr) : Instr.findNow (.int .u64) (.int .u64 (adr : Int)) (M.lines.map q7y) 0 = some none := by
  refine q5o fun e he => ?_
  obtain ⟨L, hL, rfl⟩ := List.mem_map.1 he
  exact ⟨L.adr, rfl, fun hc => h L hL (by omega)⟩
theorem line_isAgg : ∀ w, (isAgg 222).run Tryz.prog w = .ok true w := fun w => by
  unfold isAgg
  simp [run_underlying Tryz.underlying222]
theorem lineC_size {n : Nat} {L : z0q} (h : v9g n L) : (y0m L).size = 66 := by simp [y0m, v9q, h.marks]
theorem loadCells_blk {P : Program} {w : World} {g : Nat} {t : TypeId} {cs : Array Value} {n : Nat} (h : Blk w g t cs) (hn : cs.size = n) : (loadCellsFrom ⟨g, 0, none⟩ 0 n #[]).run P w = .ok cs w := by
  subst hn
  have := run_loadCells_list (P := P) w ⟨g, 0, none⟩ cs.toList (fun j v hv => by
    have hadd : (⟨g, 0, none⟩ : Addr).add j = ⟨g, j, none⟩ := by unfold Addr.add; split <;> simp_all
    rw [hadd, h.cell]
    simpa using hv)
  simpa [loadCells] using this
theorem q4f.lb_far {w : World} {m : Nat} {B : MB} {M : MemS} (h : q4f w m B M) : m ≠ B.lb ∧ B.vb ≠ B.lb ∧ B.ib ≠ B.lb ∧ ∀ L ∈ M.lines, L.g ≠ B.lb := by
  have h1 := h.apart
  simp only [q2g, List.nodup_cons, List.mem_cons, not_or, List.mem_map, not_exists, not_and] at h1
  exact ⟨h1.1.2.2.1, h1.2.1.2.1, h1.2.2.1.1, fun L hL => h1.2.2.2.1 L hL⟩
section
variable {P : Program}
theorem wp_append_runI (w : World) {o : Oper} {a : Act} {K : Act → World → Prop} {Q : Exit → Act → World → Prop} (d s : Operand) (t t' : TypeId)
    (ho : o.op = .call { callee := .builtin .append, args := #[d, s], argTypes := #[t, t'] }) (v u : Value) (hd : a.eval d = v) (hs : a.eval s = u) {v' : Value} {w' : World}
    (hr : (Builtin.append_ #[t, t'] o.type #[v, u]).run P w = .ok v' w') (h : K (a.put o.dst v') w') : o.wp P a w K Q := by
  unfold Oper.wp execOp
  simp only [ho, resolve, invoke, builtin, Sem.run_bind, Sem.run_pure, Result.andThen_ok, List.map_toArray, List.map_cons, List.map_nil, hd, hs, hr]
  exact h
theorem wpList_append_runI (w : World) {ops : Array Oper} {rest : List Oper} {o : Oper} {a : Act} {Q : Exit → Act → World → Prop} (hgd : o.guard = none) (d s : Operand) (t t' : TypeId)
    (ho : o.op = .call { callee := .builtin .append, args := #[d, s], argTypes := #[t, t'] }) (v u : Value) (hd : a.eval d = v) (hs : a.eval s = u) {v' : Value} {w' : World}
    (hr : (Builtin.append_ #[t, t'] o.type #[v, u]).run P w = .ok v' w') (h : wpList P ops Q rest (a.put o.dst v') w') : wpList P ops Q (o :: rest) a w :=
  wpList_plain hgd fun _ hK => wp_append_runI w d s t t' ho v u hd hs hr (hK _ _ h)
end

theorem q4f.vb_far {w : World} {m : Nat} {B : MB} {M : MemS} (h : q4f w m B M) : m ≠ B.vb ∧ B.ib ≠ B.vb ∧ B.lb ≠ B.vb ∧ ∀ L ∈ M.lines, L.g ≠ B.vb := by
  have h1 := h.apart
  simp only [q2g, List.nodup_cons, List.mem_cons, not_or, List.mem_map, not_exists, not_and] at h1
  exact ⟨h1.1.1, fun e => h1.2.1.1 e.symm, fun e => h1.2.1.2.1 e.symm, fun L hL => h1.2.1.2.2 L hL⟩
/-- a word of the view -/
theorem q4f.word {w : World} {m : Nat} {B : MB} {M : MemS} (h : q4f w m B M) (k : Nat) (x : Int) : q4f (w.setCell ⟨B.vb, k, none⟩ (.int .u64 x)) m B { M with view := M.view.set k x } := by
  obtain ⟨f0, f1, f2, f3⟩ := h.vb_far
  have ho : Only [B.vb] w (w.setCell ⟨B.vb, k, none⟩ (.int .u64 x)) := (Only.refl _ _).setCell (Or.inl (by simp)) _
  have hl : (M.view.set k x).length = M.view.length := List.length_set
  exact {
    blk := by rw [hl]; exact ho.blk h.blk (by simpa using f0)
    pos := by rw [hl]; exact h.pos
    big := by rw [hl]; exact h.big
    len := by rw [hl]; exact h.len
    view := h.view.set_ k x
    image := h.image.only ho (by simpa using f1)
    map := (ho.block _ (h.foot_lt _ (by simp [q2g])) (by simpa using f2)).trans h.map
    rows := fun L hL => (h.rows L hL).only ho (by simpa using f3 L hL)
    ok := fun L hL => by rw [hl]; exact h.ok L hL
    keys := h.keys
    born := h.born
    old := h.old
    apart := h.apart }
def ks0 : List Nat := List.replicate 65 0
theorem append_none (w : World) (ty : TypeId) (ad : Addr) (m : Nat) (L : z0q) (a : Nat) (x : Int) (hn : ∀ j u, [Value.int .u64 (a : Int), .int .u64 x][j]? = some u → w.cell? (ad.add j) = some u) :
    ∃ g cap w', (Builtin.append_ #[60, 60] ty #[.slice none 0 0, .slice (some ad) 1 m]).run Tryz.prog w = .ok (.slice (some ⟨g, 0, none⟩) 1 cap) w' ∧
      RowP w' { L with g := g, o := 0, cap := cap, ps := [(a, x)] } ∧ Only [] w w' ∧ w.heap.size ≤ g := by
  have hinfo : (Tryz.prog.info? 62).map (fun i => (i.zero, i.size, i.bytes)) = some (some (.agg #[.int .u64 0, .int .u64 0]), 2, 16) := by kernel_rfl
  obtain ⟨i, hi, hz0, hz1, hz2⟩ := info_parts hinfo
  have hrun := run_append_nil (P := Tryz.prog) (w := w) 60 ty 62 i (.agg #[.int .u64 0, .int .u64 0]) Tryz.underlying60 hi hz0 ad 1 m [.int .u64 (a : Int), .int .u64 x] (by simp [hz1]) hn (by omega) (by omega) (by omega)
  have hge := grownCap_ge w 1 0 62
  refine ⟨_, _, _, hrun, ⟨_, Blk.new _ _ _, hge, ?_, ?_⟩, ((Only.refl _ _).drew).alloc _, by simp [World.drew]⟩
  · simp [Builtin.zeroCells, Value.cells]; omega
  · simp [v9r]
/-- a new line -/
theorem q4f.pushL {w1 w' : World} {m : Nat} {B : MB} {M : MemS} {L' : z0q} (h : q4f w1 m B M) (row : RowP w1 L') (ok' : v9g M.view.length L') (hk : ∀ L ∈ M.lines, L.adr ≠ L'.adr) (hb : L'.born = M.clock) (hg : ∀ k ∈ q2g m B M, k ≠ L'.g)
    (hw : w' = w1.putObj B.lb (.map ((M.lines ++ [L']).map q7y).toArray (M.clock + 1))) : q4f w' m B { M with lines := M.lines ++ [L'], clock := M.clock + 1 } := by
  obtain ⟨f0, f1, f2, f3⟩ := h.lb_far
  have ho : Only [B.lb] w1 w' := by rw [hw]; exact (Only.refl _ _).putObj (Or.inl (by simp)) _
  have mem : ∀ {p : z0q → Prop}, (∀ x ∈ M.lines, p x) → p L' → ∀ x ∈ M.lines ++ [L'], p x := by
    intro p h1 h2 x hx
    rcases List.mem_append.1 hx with hx | hx
    · exact h1 x hx
    · rw [List.mem_singleton] at hx; subst hx; exact h2
  exact { h with
    blk := ho.blk h.blk (by simpa using f0)
    view := h.view.only ho (by simpa using f1)
    image := h.image.only ho (by simpa using f2)
    map := by rw [hw]; exact q9a h.map
    rows := mem (p := fun x => RowP w' x) (fun x hx => (h.rows x hx).only ho (by simpa using f3 x hx)) (row.only ho (by simpa using (hg B.lb (by simp [q2g])).symm))
    ok := mem h.ok ok'
    keys := by
      rw [List.pairwise_append]
      exact ⟨h.keys, by simp, fun a ha b hb => by rw [List.mem_singleton] at hb; subst hb; exact hk a ha⟩
    born := by
      rw [List.pairwise_append]
      exact ⟨h.born, by simp, fun a ha b hb' => by rw [List.mem_singleton] at hb'; subst hb'; have := h.old a ha; rw [hb]; exact Nat.ne_of_lt this⟩
    old := mem (p := fun x => x.born < M.clock + 1) (fun x hx => Nat.lt_succ_of_lt (h.old x hx)) (by rw [hb]; exact Nat.lt_succ_self _)
    apart := by
      have e1 : q2g m B { M with lines := M.lines ++ [L'], clock := M.clock + 1 } = q2g m B M ++ [L'.g] := by simp only [q2g, List.map_append, List.map_cons, List.map_nil, List.cons_append]
      rw [e1, List.nodup_append]
      exact ⟨h.apart, by simp, fun a ha b hb => by rw [List.mem_singleton] at hb; subst hb; exact hg a ha⟩ }
set_option maxRecDepth 100000 in
set_option maxHeartbeats 1000000 in
theorem Store_none (m : Nat) (B : MB) (M : MemS) (k : Nat) (x : Int) (hk : k < M.view.length) (hno : ∀ L ∈ M.lines, L.adr ≠ 8 * k - 8 * k % 64) (w : World) (h : q4f w m B M) :
    Calls Tryz.prog 36 #[ptrV m, .int .u64 (8 * (k : Int)), .int .u64 x] w fun e w' =>
      e = .returned (.int .i64 0) ∧ ∃ (s : St4) (g cap : Nat), s.a = M.st.a ∧ s.b = (M.st.b + 1) % 18446744073709551616 ∧ s.c = M.st.c ∧ s.d = M.st.d ∧
        q4f w' m B { M with st := s, view := M.view.set k x, lines := M.lines ++ [⟨8 * k - 8 * k % 64, g, 0, cap, [(8 * k, x)], ks0, M.clock⟩], clock := M.clock + 1 } ∧ Only [m, B.vb, B.lb] w w' ∧ w.heap.size ≤ g := by
  have hbig := h.big
  have x0 : w.cell? ⟨m, 0, none⟩ = some (.slice (some ⟨B.vb, 0, none⟩) M.view.length B.vc) := h.blk.cell 0
  have x4 : w.cell? ⟨m, 4, none⟩ = some (.int .u64 M.st.b) := h.blk.cell 4
  have x4f := h.blk.frozen 4
  have xv : w.cell? ⟨B.vb, k, none⟩ = some (.int .u64 (M.view[k]'hk)) := h.view.cell (List.getElem?_eq_getElem hk)
  have xvf := h.view.frozen k
  have ne : B.vb ≠ m := fun e => h.vb_far.1 e.symm
  have i1 : (8 * (k : Int)) / 8 = k := by omega
  have i3 : (0 : Int) ≤ k := by omega
  have i4 : (k : Int) < (M.view.length : Int) := by omega
  have hz := hid (show atE M.view.length (8 * (k : Int)) = 0 from if_pos ⟨by omega, by omega⟩)
  have z378 := line_zero
  obtain ⟨N, hN⟩ : ∃ N, N = 66 := ⟨_, rfl⟩
  have s378 : ∀ w, (sizeOf 222).run Tryz.prog w = .ok N w := by rw [hN]; exact line_sizeOf
  have a378 := line_isAgg
  have n378 : lineZ.size = N := lineZ_size.trans hN.symm
  have HN := hid hN
  have H := hid h
  clear h hN
  go_enter Tryz.func36, Tryz.ntmps36
  go_wp2_with fail
  refine (at_z m B M.view.length M.st H.out.pos hbig (8 * (k : Int)) (by omega) (by omega) _ H.out.blk).mono ?_
  rintro e w1 ⟨rfl, rfl⟩
  rw [hz.out]
  go_wp2
  obtain ⟨W1, hW1⟩ : ∃ W1, W1 = (w.setCell ⟨m, 4, none⟩ (.int .u64 (IntKind.u64.wrap (M.st.b + 1)))).setCell ⟨B.vb, k, none⟩ (.int .u64 x) := ⟨_, rfl⟩
  rw [← hW1]
  have H1 : Hid (q4f W1 m B { M with st := ⟨M.st.a, IntKind.u64.wrap (M.st.b + 1), M.st.c, M.st.d⟩, view := M.view.set k x }) := by
    rw [hW1]
    exact q4f.word (M := { M with st := ⟨M.st.a, IntKind.u64.wrap (M.st.b + 1), M.st.c, M.st.d⟩ }) (H.out.counts ((Only.refl _ _).setCell (Or.inl (by simp)) _) (H.out.blk.set_ 4 _)) k x
  have HO1 := hid (show Only [m, B.vb, B.lb] w W1 by rw [hW1]; exact ((Only.refl _ _).setCell (Or.inl (by simp)) _).setCell (Or.inl (by simp)) _)
  clear hW1
  have y2 : W1.drew.cell? ⟨m, 2, none⟩ = some (.map (some B.lb)) := H1.out.blk.drew.cell 2
  have y2' : (W1.alloc (.cells lineZ 222)).drew.cell? ⟨m, 2, none⟩ = some (.map (some B.lb)) := (H1.out.blk.drew.alloc _).cell 2
  have hf := find_none hno
  have hlk0 : ∀ W : World, W.heap[B.lb]? = some (.map (M.lines.map q7y).toArray M.clock) → (Instr.lookup 204 (.map (some B.lb)) (.int .u64 (8 * (k : Int) - 8 * (k : Int) % 64)) false).run Tryz.prog W = .ok (.agg lineZ) W := by
    intro W hW
    have := q8k (P := Tryz.prog) W 204 51 222 Tryz.underlying204 Tryz.underlying51 B.lb _ _ hW ((8 * k - 8 * k % 64 : Nat) : Int) (.agg lineZ) false (by kernel_rfl) (by simpa using hf)
    have e : ((8 * k - 8 * k % 64 : Nat) : Int) = 8 * (k : Int) - 8 * (k : Int) % 64 := by omega
    rw [e] at this; exact this
  have hlk := hlk0 W1.drew H1.out.map
  have hlk' := hlk0 (W1.alloc (.cells lineZ 222)).drew (by show (W1.alloc _).heap[B.lb]? = _; rw [Below.heap_alloc W1 _ _ (H1.out.foot_lt _ (by simp [q2g]))]; exact H1.out.map)
  have hst : (storeCells ⟨W1.heap.size, 0, none⟩ lineZ.toList 0).run Tryz.prog (W1.alloc (.cells lineZ 222)).drew = .ok () (W1.alloc (.cells lineZ 222)).drew := run_storeCells_new (P := Tryz.prog) W1.drew 222 lineZ lineZ line_size rfl (by decide +kernel)
  clear x0 x4 x4f xv xvf hlk0 hf
  refine z1q (X := ?X) (fun key => ?_) ?_
  rotate_left
  · go_region_with (first
      | (go_at_call 118; refine (begin_z (8 * (k : Int)) (by omega) (by omega) _).mono ?_; rintro e w2 ⟨rfl, rfl⟩))
    all_goals
      try go_simp
      try simp only [Act.put, List.setIfInBounds_toArray, List.set_cons_zero, List.set_cons_succ]
      exact key.out
  clear y2 y2' hlk hlk' hst
  have b2 := (Blk.new W1 222 lineZ).drew
  have h2 := H1.out.only (((Only.refl [] W1).alloc (.cells lineZ 222)).drew) (fun k _ hk => by cases hk)
  have o2 : Only [m, B.vb, B.lb] w (W1.alloc (.cells lineZ 222)).drew := (HO1.out.alloc _).drew
  have n3 : ∀ k ∈ q2g m B M, k ≠ W1.heap.size := fun k hk e => by have := H1.out.foot_lt k hk; omega
  have o3 : w.heap.size ≤ W1.heap.size := HO1.out.size
  obtain ⟨X, hX⟩ : ∃ X, X = W1.heap.size := ⟨_, rfl⟩
  obtain ⟨W2, hW2⟩ : ∃ W2, W2 = (W1.alloc (.cells lineZ 222)).drew := ⟨_, rfl⟩
  rw [← hW2, ← hX]
  rw [← hW2] at h2 o2
  rw [← hW2, ← hX] at b2
  rw [← hX] at n3 o3
  have H2 := hid h2
  have O2 := hid o2
  have N3 := hid n3
  have B2 := hid b2
  clear hW2 hX h2 o2 n3 H1 HO1
  have z0 : W2.cell? ⟨X, 0, none⟩ = some (.slice none 0 0) := B2.out.cell 0
  have zf := B2.out.frozen 0
  clear b2
  have hnew : ∀ j u, [Value.int .u64 ((8 * k : Nat) : Int), .int .u64 x][j]? = some u → (W2.alloc (.cells #[.int .u64 (8 * (k : Int)), .int .u64 x] 62)).cell? ((⟨W2.heap.size, 0, none⟩ : Addr).add j) = some u := by
    intro j u hj
    have hadd : (⟨W2.heap.size, 0, none⟩ : Addr).add j = ⟨W2.heap.size, j, none⟩ := by unfold Addr.add; split <;> simp_all
    rw [hadd, (Blk.new W2 62 #[.int .u64 (8 * (k : Int)), .int .u64 x]).cell j, ← hj]
    simp
  obtain ⟨g, cap, w5, hrun, hrow5, ho5, hg5⟩ := append_none (W2.alloc (.cells #[.int .u64 (8 * (k : Int)), .int .u64 x] 62)) 60 ⟨W2.heap.size, 0, none⟩ 1 ⟨8 * k - 8 * k % 64, 0, 0, 0, [], ks0, M.clock⟩ (8 * k) x hnew
  have b5 : Blk w5 X 222 lineZ := ho5.blk (B2.out.alloc _) (by simp)
  have z5 : w5.cell? ⟨X, 0, none⟩ = some (.slice none 0 0) := b5.cell 0
  have zf5 := b5.frozen 0
  have HRUN := hid hrun
  have B5 := hid b5
  have R5 := hid hrow5
  have O5 := hid ho5
  have G5 := hid hg5
  clear hnew hrun hrow5 ho5 hg5 b5
  go_wp2_with (at_builtin; refine wpList_append_runI _ rfl (.tmp 40) (.tmp 44) 60 60 rfl _ _ (by simp [Act.eval]) (by simp [Act.eval]) HRUN.out ?_)
  clear z0 zf z5 zf5
  obtain ⟨L', hL'⟩ : ∃ L' : z0q, L' = ⟨8 * k - 8 * k % 64, g, 0, cap, [(8 * k, x)], ks0, M.clock⟩ := ⟨_, rfl⟩
  have e6 : lineZ.setIfInBounds 0 (.slice (some ⟨g, 0, none⟩) 1 cap) = y0m L' := by
    rw [hL']
    simp [y0m, lineZ, v9q, ks0]
  have ok' : v9g M.view.length L' := by
    rw [hL']
    refine ⟨by simp; omega, by simp, fun p hp => ?_, by simp [ks0], fun q hq => by have := List.eq_of_mem_replicate hq; omega⟩
    simp at hp; subst hp
    exact ⟨by simp, by simp; omega, rfl⟩
  obtain ⟨W6, hW6⟩ : ∃ W6, W6 = w5.setCell ⟨X, 0, none⟩ (.slice (some ⟨g, 0, none⟩) 1 cap) := ⟨_, rfl⟩
  rw [← hW6]
  have B6 : Hid (Blk W6 X 222 (y0m L')) := by rw [hW6, ← e6]; exact B5.out.set_ 0 _
  have O56 : Only [X] w5 W6 := by rw [hW6]; exact (Only.refl _ _).setCell (Or.inl (by simp)) _
  have O26 : Only [X] W2 W6 := (((Only.refl [X] W2).alloc _).trans O5.out (fun y hy => by cases hy)).trans O56 (fun y hy => Or.inl hy)
  have far : ∀ y, y ∈ q2g m B M → y ∉ [X] := fun y hy hm => N3.out y hy (by simpa using hm)
  have h6 : q4f W6.drew m B { M with st := ⟨M.st.a, IntKind.u64.wrap (M.st.b + 1), M.st.c, M.st.d⟩, view := M.view.set k x } := H2.out.only O26.drew far
  have y2 : W6.drew.cell? ⟨m, 2, none⟩ = some (.map (some B.lb)) := h6.blk.cell 2
  have hld : (loadCellsFrom ⟨X, 0, none⟩ 0 N #[]).run Tryz.prog W6.drew = .ok (y0m L') W6.drew := loadCells_blk B6.out.drew ((lineC_size ok').trans HN.out.symm)
  have hup : (Instr.mapUpdate 204 (.map (some B.lb)) (.int .u64 (8 * (k : Int) - 8 * (k : Int) % 64)) (.agg (y0m L'))).run Tryz.prog W6.drew =
      .ok () (W6.drew.putObj B.lb (.map ((M.lines ++ [L']).map q7y).toArray (M.clock + 1))) := by
    have e : ((8 * k - 8 * k % 64 : Nat) : Int) = 8 * (k : Int) - 8 * (k : Int) % 64 := by omega
    have := z0r (P := Tryz.prog) W6.drew 204 51 222 Tryz.underlying204 Tryz.underlying51 B.lb _ _ h6.map ((8 * k - 8 * k % 64 : Nat) : Int) (.agg (y0m L')) (by simpa using find_none hno)
    rw [e] at this
    rw [this]
    congr 3
    rw [List.push_toArray, List.map_append, List.map_cons, List.map_nil]
    congr 2
    simp only [q7y, hL', e]
  have rowX : X ≠ g := fun hc => by have h1 := G5.out; have h2 := B2.out.lt; simp at h1; omega
  have fin := q4f.pushL (L' := L') h6
    (by
      have h1 : RowP w5 L' := by rw [hL']; exact R5.out
      exact (h1.only O56 (by rw [hL']; simpa using rowX.symm)).only ((Only.refl [] W6).drew) (fun h => by cases h))
    (by simpa using ok') (fun L hL => by rw [hL']; exact hno L hL) (by rw [hL']) (by
      intro y hy
      rw [hL']
      show y ≠ g
      have h1 := G5.out
      have h2 := H2.out.foot_lt y hy
      simp at h1
      omega) rfl
  have FIN := hid fin
  have O6 : Hid (Only [m, B.vb, B.lb] w W6) := O2.out.trans O26 (fun y hy => by
    simp at hy
    subst hy
    exact Or.inr o3)
  have G6 : Hid (w.heap.size ≤ g) := by
    have h1 := G5.out
    simp at h1
    have := O2.out.size
    exact Nat.le_trans this (by omega)
  have HL' := hid hL'
  clear hW6 O56 O26 far h6 fin e6 ok' hL' rowX
  refine z1q (X := ?Y) (fun key => ?_) ?_
  rotate_left
  · go_region_with (first
      | (go_at_call 118; refine (begin_z (8 * (k : Int)) (by omega) (by omega) _).mono ?_; rintro e w2 ⟨rfl, rfl⟩))
    all_goals
      try go_simp
      try simp only [Act.put, List.setIfInBounds_toArray, List.set_cons_zero, List.set_cons_succ]
      exact key.out
  go_wp2
  go_ret
  refine ⟨rfl, ⟨M.st.a, IntKind.u64.wrap (M.st.b + 1), M.st.c, M.st.d⟩, rfl, rfl, rfl, rfl, g, ⟨cap, ?_⟩, (O6.out.drew).putObj (Or.inl (by simp)) _, G6.out⟩
  have h := FIN.out
  rw [HL'.out] at h
  simp only [List.map_append, List.map_cons, List.map_nil, HL'.out] at h ⊢
  exact h
end Go.Proofs.YtibiekfjbibpbaaGreat
