/- A memory of words: flushes. -/
import Derived.Deep.WholeRow
import Derived.Test.YtbkaemajjaiklaaPmB
namespace Go.Proofs.Ytbkaemajjaiklaa
open Go.RowKit
set_option linter.unusedVariables false
set_option linter.unusedSimpArgs false

def lineZ : Array Value := (Value.slice none 0 0 :: List.replicate 65 (.int .i64 0)).toArray
theorem line_info : (Try.prog.info? 167).map (fun i => (i.zero, i.size)) = some (some (.agg lineZ), 66) := by kernel_rfl
theorem line_zero : ∀ w, (zeroValue 167).run Try.prog w = .ok (.agg lineZ) w := (zero_of_info line_info).1
theorem line_size : (Try.prog.info? 167).map (·.size) = some 66 := (zero_of_info line_info).2

theorem sizeOf_info {P : Program} {t : TypeId} {n : Nat} (h : (P.info? t).map (·.size) = some n) : ∀ w, (sizeOf t).run P w = .ok n w := fun w => by
  cases hq : P.info? t with
  | none => rw [hq] at h; cases h
  | some i => rw [hq] at h; have h : some i.size = some n := h; injection h with h; simp [sizeOf, typeInfo, program, Sem.run, hq, h]
theorem line_sizeOf : ∀ w, (sizeOf 167).run Try.prog w = .ok 66 w := sizeOf_info line_size
theorem lineZ_size : lineZ.size = 66 := by rfl
/-- no line begins there -/
theorem find_none {M : MemS} {adr : Nat} (h : ∀ L ∈ M.lines, L.adr ≠ adr) : Instr.findNow (.int .u64) (.int .u64 (adr : Int)) (M.lines.map lineE) 0 = some none := by
  refine findU_none fun e he => ?_
  obtain ⟨L, hL, rfl⟩ := List.mem_map.1 he
  exact ⟨L.adr, rfl, fun hc => h L hL (by omega)⟩

set_option maxRecDepth 100000 in
set_option maxHeartbeats 400000 in
theorem Flush_none (m : Nat) (B : MB) (M : MemS) (c k : Nat) (hc : c ≤ 64) (hk : k < M.view.length) (hno : ∀ L ∈ M.lines, L.adr ≠ 8 * k - 8 * k % 64) (w : World) (h : MemIs w m B M) :
    Calls Try.prog 66 #[ptrV m, .int .i64 (c : Int), .int .u64 (8 * (k : Int))] w fun e w' =>
      e = .returned (.int .i64 0) ∧ ∃ s, s.a = M.st.a ∧ s.b = M.st.b ∧ s.c = (M.st.c + 1) % 18446744073709551616 ∧ s.d = M.st.d ∧ MemIs w' m B { M with st := s } ∧ Only [m] w w' := by
  have hbig := h.big
  have x2 : w.cell? ⟨m, 2, none⟩ = some (.map (some B.lb)) := h.blk.cell 2
  have x5 : w.cell? ⟨m, 5, none⟩ = some (.int .u64 M.st.c) := h.blk.cell 5
  have x5f := h.blk.frozen 5
  have hz := hid (show atE M.view.length (8 * (k : Int)) = 0 from if_pos ⟨by omega, by omega⟩)
  have hcz := hid (show clientE (c : Int) = 0 from if_pos ⟨by omega, by omega⟩)
  have z378 := line_zero
  have s378 := line_sizeOf
  have n378 := lineZ_size
  have H := hid h
  clear h
  go_enter Try.func66, Try.ntmps66
  go_wp2_with fail
  refine (there_z m B M.view.length M.st H.out.pos _ H.out.blk).mono ?_
  rintro e w1 ⟨rfl, rfl⟩
  go_wp2_with fail
  refine (client_z (c : Int) _).mono ?_
  rintro e w1 ⟨rfl, rfl⟩
  rw [hcz.out]
  go_wp2_with fail
  refine (at_z m B M.view.length M.st H.out.pos hbig (8 * (k : Int)) (by omega) (by omega) _ H.out.blk).mono ?_
  rintro e w1 ⟨rfl, rfl⟩
  rw [hz.out]
  go_wp2
  obtain ⟨W1, hW1⟩ : ∃ W1, W1 = w.setCell ⟨m, 5, none⟩ (.int .u64 (IntKind.u64.wrap (M.st.c + 1))) := ⟨_, rfl⟩
  rw [← hW1]
  have H1 : Hid (MemIs W1 m B { M with st := ⟨M.st.a, M.st.b, IntKind.u64.wrap (M.st.c + 1), M.st.d⟩ }) := by
    rw [hW1]; exact H.out.counts ((Only.refl _ _).setCell (Or.inl (by simp)) _) (H.out.blk.set_ 5 _)
  have HW1 := hid hW1
  clear hW1
  have y2 : W1.drew.cell? ⟨m, 2, none⟩ = some (.map (some B.lb)) := H1.out.blk.drew.cell 2
  have y2' : (W1.alloc (.cells lineZ 167)).drew.cell? ⟨m, 2, none⟩ = some (.map (some B.lb)) := (H1.out.blk.drew.alloc _).cell 2
  have hf := find_none hno
  have hlk0 : ∀ W : World, W.heap[B.lb]? = some (.map (M.lines.map lineE).toArray M.clock) → (Instr.lookup 128 (.map (some B.lb)) (.int .u64 (8 * (k : Int) - 8 * (k : Int) % 64)) true).run Try.prog W = .ok (.tuple #[.agg lineZ, .bool false]) W := by
    intro W hW
    have := run_lookU_none (P := Try.prog) W 128 47 167 Try.underlying128 Try.underlying47 B.lb _ _ hW ((8 * k - 8 * k % 64 : Nat) : Int) (.agg lineZ) true (by kernel_rfl) (by simpa using hf)
    have e : ((8 * k - 8 * k % 64 : Nat) : Int) = 8 * (k : Int) - 8 * (k : Int) % 64 := by omega
    rw [e] at this; exact this
  have hlk := hlk0 W1.drew H1.out.map
  have hlk' := hlk0 (W1.alloc (.cells lineZ 167)).drew (by show (W1.alloc _).heap[B.lb]? = _; rw [Below.heap_alloc W1 _ _ (H1.out.foot_lt _ (by simp [footM]))]; exact H1.out.map)
  clear hlk0
  have hst : (storeCells ⟨W1.heap.size, 0, none⟩ lineZ.toList 0).run Try.prog (W1.alloc (.cells lineZ 167)).drew = .ok () (W1.alloc (.cells lineZ 167)).drew := run_storeCells_new (P := Try.prog) W1.drew 167 lineZ lineZ line_size rfl (by decide +kernel)
  clear x2 x5 x5f hf hno
  go_region_with (first
    | (go_at_call 96; refine (begin_z (8 * (k : Int)) (by omega) (by omega) _).mono ?_; rintro e w2 ⟨rfl, rfl⟩))
  all_goals
    try go_simp
    try simp only [Act.put, List.setIfInBounds_toArray, List.set_cons_zero, List.set_cons_succ]
    go_wp2
    go_ret
    refine ⟨rfl, ⟨M.st.a, M.st.b, IntKind.u64.wrap (M.st.c + 1), M.st.d⟩, rfl, rfl, rfl, rfl, H1.out.only (((Only.refl [] W1).alloc _).drew) (fun k _ hk => by cases hk), ?_⟩
    rw [HW1.out]
    exact ((((Only.refl _ _).setCell (Or.inl (by simp)) _).alloc _).drew)

end Go.Proofs.Ytbkaemajjaiklaa
