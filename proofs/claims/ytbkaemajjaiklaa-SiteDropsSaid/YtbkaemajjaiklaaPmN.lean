/- A memory of words: a fence. -/
import Derived.Test.YtbkaemajjaiklaaPmL
namespace Go.Proofs.Ytbkaemajjaiklaa
open Go.RowKit
set_option linter.unusedVariables false
set_option linter.unusedSimpArgs false

def seenIn (seen : Array Nat) (L : LineA) : Bool := seen.contains L.born
theorem seenIn_push {M : MemS} {pre post : List LineA} {L : LineA} (hM : M.lines = pre ++ L :: post) (hb : M.lines.Pairwise fun a b => a.born ≠ b.born) (seen : Array Nat) :
    seenIn (seen.push L.born) L = true ∧ ∀ x ∈ pre ++ post, seenIn (seen.push L.born) x = seenIn seen x := by
  refine ⟨by simp [seenIn], fun x hx => ?_⟩
  unfold seenIn
  rw [contains_push]
  have hne : x.born ≠ L.born := by
    rw [hM, List.pairwise_append, List.pairwise_cons] at hb
    rcases List.mem_append.1 hx with h | h
    · exact hb.2.2 x h L (List.mem_cons_self ..)
    · exact (hb.2.1.1 x h).symm
  simp [hne]

theorem part_all {M : MemS} {k : LineA → Nat} {S : LineA → Bool} (h : ∀ L ∈ M.lines, S L = true) : partM M k S = partM M k (fun _ => true) := by
  have e : ∀ Ls : List LineA, (∀ L ∈ Ls, S L = true) → (Ls.flatMap fun L => if S L then cutO L (k L) else [L]) = Ls.flatMap fun L => if (fun _ => true) L then cutO L (k L) else [L] := by
    intro Ls h
    induction Ls with
    | nil => rfl
    | cons x xs ih =>
      rw [List.flatMap_cons, List.flatMap_cons, ih fun y hy => h y (List.mem_cons_of_mem _ hy), h x (List.mem_cons_self ..)]
  unfold partM
  rw [List.filter_congr (q := fun _ => true) h, e _ h]

set_option maxRecDepth 100000 in
set_option maxHeartbeats 2000000 in
theorem Fence_z (m : Nat) (B : MB) (M : MemS) (c : Nat) (hc : c ≤ 64) (hlen : ∀ L ∈ M.lines, L.ps.length ≤ 1000000000) (w : World) (h : MemIs w m B M) :
    Calls Try.prog 67 #[ptrV m, .int .i64 (c : Int)] w fun e w' =>
      e = .returned (.int .i64 0) ∧ ∃ s : St4, s.a = M.st.a ∧ s.b = M.st.b ∧ s.c = M.st.c ∧ s.d = (M.st.d + 1) % 18446744073709551616 ∧
        MemIs w' m B (partM { M with st := s } (markOf · c) (fun _ => true)) ∧ Only [m, B.ib, B.lb] w w' := by
  have x6 : w.cell? ⟨m, 6, none⟩ = some (.int .u64 M.st.d) := h.blk.cell 6
  have x6f := h.blk.frozen 6
  have hcz := hid (show clientE (c : Int) = 0 from if_pos ⟨by omega, by omega⟩)
  have z378 := line_zero
  have a378 := line_isAgg
  obtain ⟨N, hN⟩ : ∃ N, N = 66 := ⟨_, rfl⟩
  have s378 : ∀ w, (sizeOf 167).run Try.prog w = .ok N w := by rw [hN]; exact line_sizeOf
  have n378 : lineZ.size = N := lineZ_size.trans hN.symm
  have HN := hid hN
  have HLEN := hid hlen
  have H := hid h
  clear h hN hlen
  go_enter Try.func67, Try.ntmps67
  go_wp2_with fail
  refine (there_z m B M.view.length M.st H.out.pos _ H.out.blk).mono ?_
  rintro e w1 ⟨rfl, rfl⟩
  go_wp2_with fail
  refine (client_z (c : Int) _).mono ?_
  rintro e w1 ⟨rfl, rfl⟩
  rw [hcz.out]
  go_upto_region 7 with (fail)
  obtain ⟨W1, hW1⟩ : ∃ W1, W1 = w.setCell ⟨m, 6, none⟩ (.int .u64 (IntKind.u64.wrap (M.st.d + 1))) := ⟨_, rfl⟩
  rw [← hW1]
  obtain ⟨M1, hM1⟩ : ∃ M1, M1 = { M with st := ⟨M.st.a, M.st.b, M.st.c, IntKind.u64.wrap (M.st.d + 1)⟩ } := ⟨_, rfl⟩
  have H1 : Hid (MemIs W1 m B M1) := by
    rw [hW1, hM1]; exact H.out.counts ((Only.refl _ _).setCell (Or.inl (by simp)) _) (H.out.blk.set_ 6 _)
  have O1 : Hid (Only [m, B.ib, B.lb] w W1) := by rw [hW1]; exact (Only.refl _ _).setCell (Or.inl (by simp)) _
  have HM1 := hid hM1
  have HL : Hid (M.lines = M1.lines) := by rw [hM1]; exact rfl
  clear hM1 hW1 x6 x6f
  have y2 : W1.cell? ⟨m, 2, none⟩ = some (.map (some B.lb)) := H1.out.blk.cell 2
  go_wp2_with fail
  refine (CloneLines_z B.lb _ _ _ H1.out.map).mono ?_
  rintro e w2 ⟨rfl, rfl⟩
  have hrg := run_range_map (P := Try.prog) (W1.alloc (.map (M1.lines.map lineE).toArray M1.clock)) 128 47 167 W1.heap.size (M1.lines.map lineE).toArray M1.clock Try.underlying128 (heap_alloc_new _ _)
  go_wp2
  obtain ⟨bm, hbm⟩ : ∃ bm, bm = W1.heap.size := ⟨_, rfl⟩
  obtain ⟨r, hr⟩ : ∃ r, r = W1.heap.size + 1 := ⟨_, rfl⟩
  obtain ⟨es, hes⟩ : ∃ es, es = (M1.lines.map lineE).toArray := ⟨_, rfl⟩
  obtain ⟨ck, hck⟩ : ∃ ck, ck = M1.clock := ⟨_, rfl⟩
  obtain ⟨W2, hW2⟩ : ∃ W2, W2 = (W1.alloc (.map es ck)).alloc (.mapIter (some bm) ck #[] ck) := ⟨_, rfl⟩
  have O12 : Only [] W1 W2 := by rw [hW2]; exact ((Only.refl _ _).alloc _).alloc _
  have H2 := hid (H1.out.only O12 (fun k _ hk => by cases hk))
  have O2 : Hid (Only [m, B.ib, B.lb] w W2) := O1.out.trans O12 (fun x hx => by cases hx)
  have hsz : (W1.alloc (.map es ck)).heap.size = W1.heap.size + 1 := Array.size_push ..
  have I2 := hid (show W2.heap[r]? = some (.mapIter (some bm) ck #[] ck) by rw [hW2, hr, ← hsz]; exact heap_alloc_new _ _)
  have K2 := hid (show W2.heap[bm]? = some (.map es ck) by
    rw [hW2, hbm]
    exact (Below.heap_alloc _ _ _ (by rw [hsz]; omega)).trans (heap_alloc_new _ _))
  have FB : Hid (∀ k ∈ footM m B M1, k ≠ bm ∧ k ≠ r) := fun k hk => by
    have := H1.out.foot_lt k hk
    omega
  have BR : Hid (bm ≠ r ∧ w.heap.size ≤ bm ∧ w.heap.size ≤ r) := by
    have := O1.out.size
    refine ⟨by omega, by omega, by omega⟩
  have OLD : Hid (∀ x ∈ es.toList, x.born < ck) := fun x hx => by
    rw [hes] at hx
    simp only [List.mem_map] at hx
    obtain ⟨L, hL, rfl⟩ := hx
    rw [hck]; exact H1.out.old L hL
  have ND : Hid ((es.toList.map (·.born)).Nodup) := by
    rw [hes]
    show ((M1.lines.map lineE).map (·.born)).Nodup
    rw [List.map_map]
    exact List.pairwise_map.2 H1.out.born
  rw [← hr, ← hbm, ← hes, ← hck, ← hW2]
  have HES := hid hes
  have HCK := hid hck
  clear hsz hW2 hbm hr hes hck y2 hrg O12 H1 O1
  go_loopw [] (fun wr => ∃ seen : Array Nat, Hid (wr.heap[r]? = some (.mapIter (some bm) ck seen ck)) ∧ Hid (wr.heap[bm]? = some (.map es ck)) ∧ Hid (MemIs wr m B (partM M1 (markOf · c) (seenIn seen))) ∧ Hid (Only [m, B.ib, B.lb] w wr)) (fun wr => (leftOf es (wr.iterSeen r)).size)
  case atStart =>
    refine ⟨#[], I2, K2, ?_, O2⟩
    have e : seenIn #[] = fun _ => false := by funext L; simp [seenIn]
    rw [e, part_none]
    exact H2
  case round =>
    obtain ⟨seen, hI, hK, hP, hO⟩ := hrel
    rcases run_next_at (P := Try.prog) wr 0 r bm ck ck seen es ck hI.out hK.out OLD.out (Nat.le_refl _) with ⟨h0, hrun⟩ | ⟨e, he, w1, hw1, hrun⟩
    · have H0 := hid h0
      clear h0
      go_wp2
      go_ret
      have hall : partM M1 (markOf · c) (seenIn seen) = partM M1 (markOf · c) (fun _ => true) := by
        have h1 : ∀ L ∈ M1.lines, seenIn seen L = true := fun L hL => by
          have := all_seen es seen H0.out (lineE L) (by rw [HES.out]; exact List.mem_map.2 ⟨L, hL, rfl⟩)
          exact this
        exact part_all h1
      rw [hall] at hP
      refine ⟨rfl, ⟨M.st.a, M.st.b, M.st.c, IntKind.u64.wrap (M.st.d + 1)⟩, rfl, rfl, rfl, rfl, ?_, hO.out⟩
      have := hP.out
      rw [HM1.out] at this
      exact this
    · obtain ⟨L, hL, rfl⟩ : ∃ L ∈ M1.lines, e = lineE L := by
        have := (mem_left he).1
        rw [HES.out] at this
        simp only [List.mem_map] at this
        obtain ⟨L, hL, rfl⟩ := this
        exact ⟨L, hL, rfl⟩
      have hns : Hid (seenIn seen L = false) := (mem_left he).2
      have hsh := hid (left_shrinks es seen (lineE L) he)
      have hit := hid hI.out
      obtain ⟨W3, hW3⟩ : ∃ W3, W3 = w1.putObj r (.mapIter (some bm) ck (seen.push (lineE L).born) ck) := ⟨_, rfl⟩
      replace hrun : (Instr.next (.pointer (some ⟨r, 0, none⟩)) false 0).run Try.prog wr = .ok (.tuple #[.bool true, (lineE L).key, (lineE L).val]) W3 := by rw [hW3]; exact hrun
      have hon1 : Only [r] wr w1 := by rcases hw1 with rfl | rfl; exact Only.refl _ _; exact (Only.refl _ _).drew
      have hon : Only [r] wr W3 := by rw [hW3]; exact Only.putObj hon1 (Or.inl (by simp)) _
      have hI3 : Hid (W3.heap[r]? = some (.mapIter (some bm) ck (seen.push L.born) ck)) := by
        rw [hW3]
        exact putObj_at (w := w1) (o := .mapIter (some bm) ck seen ck) (by rcases hw1 with rfl | rfl <;> exact hI.out)
      have hK3 : Hid (W3.heap[bm]? = some (.map es ck)) := (hon.block _ (Array.getElem?_eq_some_iff.1 hK.out).1 (by simpa using BR.out.1)).trans hK.out
      have hP3 := hid (hP.out.only hon (fun k hk hm => (FB.out k (part_foot k hk)).2 (by simpa using hm)))
      have hO3 : Hid (Only [m, B.ib, B.lb] w W3) := hO.out.trans hon (fun x hx => Or.inr (by simp at hx; subst hx; exact BR.out.2.2))
      have hent := run_entry_at (P := Try.prog) W3 r bm ck seen es ck (lineE L) hI3.out hK3.out (mem_left he).1 ND.out
      have HLM := hid hL
      simp only [lineE] at hrun hent
      clear hw1 hW3 hon hon1 hI hK hP hO he hL
      have okL := H2.out.ok L HLM.out
      have hst : (storeCells ⟨W3.heap.size, 0, none⟩ (lineC L).toList 0).run Try.prog (W3.alloc (.cells lineZ 167)) = .ok () (W3.alloc (.cells (lineC L) 167)) :=
        run_storeCells_new (P := Try.prog) W3 167 lineZ (lineC L) (by rw [line_size, lineC_size okL]) (by rw [lineC_size okL]; rfl) (lineC_one L)
      have n2 : (lineC L).size = N := (lineC_size okL).trans HN.out.symm
      obtain ⟨k, hk⟩ : ∃ k, L.ks[c]? = some k := ⟨_, List.getElem?_eq_getElem (by rw [okL.marks]; omega)⟩
      have hkm : markOf L c = k := by simp [markOf, hk]
      have hkl : k ≤ L.ps.length := okL.most k (List.mem_of_getElem? hk)
      have hll : L.ps.length ≤ 1000000000 := HLEN.out L (by rw [HL.out]; exact HLM.out)
      have y0 : (W3.alloc (.cells (lineC L) 167)).cell? ⟨W3.heap.size, 1 + c, none⟩ = some (.int .i64 (k : Int)) := by
        rw [(Blk.new W3 167 (lineC L)).cell, Nat.add_comm]
        simp [lineC, marksC, hk]
      have j1 : (0 : Int) ≤ (c : Int) := by omega
      have j2 : (c : Int) < 65 := by omega
      obtain ⟨pre, post, hpp⟩ := List.append_of_mem HLM.out
      have hpl : (partM M1 (markOf · c) (seenIn seen)).lines = (pre.flatMap fun L => if seenIn seen L then cutO L (markOf L c) else [L]) ++ L :: (post.flatMap fun L => if seenIn seen L then cutO L (markOf L c) else [L]) := by
        show M1.lines.flatMap _ = _
        rw [hpp]
        simp [List.flatMap_append, List.flatMap_cons, hns.out]
      have hP4 := hid (hP3.out.only ((Only.refl [] W3).alloc (.cells (lineC L) 167)) (fun k _ hk => by cases hk))
      have HKM := hid hkm
      have HKL := hid hkl
      have HLL := hid hll
      have HPL := hid hpl
      have HPP := hid hpp
      clear hk hkm hkl hll hpl hpp okL
      go_wp2_with fail
      refine (last_some m B (partM M1 (markOf · c) (seenIn seen)) k k _ _ L HPL.out HLL.out (by have := HKL.out; have := HLL.out; omega) (Nat.min_eq_left HKL.out).symm _ hP4.out).mono ?_
      rintro e w5 ⟨rfl, hP5, hO5⟩
      have hstep := part_step (S := seenIn seen) (S' := seenIn (seen.push L.born)) (k := (markOf · c)) HPP.out H2.out.ok H2.out.keys hns.out (seenIn_push HPP.out H2.out.born seen).1 (seenIn_push HPP.out H2.out.born seen).2 (by show markOf L c ≤ _; rw [HKM.out]; exact HKL.out)
      simp only [HKM.out] at hstep
      rw [hstep] at hP5
      have hO6 : Only [B.ib, B.lb] W3 w5 := ((Only.refl [B.ib, B.lb] W3).alloc (.cells (lineC L) 167)).trans hO5 (fun x hx => Or.inl hx)
      have fb1 := FB.out B.ib (by simp [footM])
      have fb2 := FB.out B.lb (by simp [footM])
      have hI5 : Hid (w5.heap[r]? = some (.mapIter (some bm) ck (seen.push L.born) ck)) :=
        (hO6.block _ (Array.getElem?_eq_some_iff.1 hI3.out).1 (by simp; exact ⟨fun e => fb1.2 e.symm, fun e => fb2.2 e.symm⟩)).trans hI3.out
      have hK5 : Hid (w5.heap[bm]? = some (.map es ck)) :=
        (hO6.block _ (Array.getElem?_eq_some_iff.1 hK3.out).1 (by simp; exact ⟨fun e => fb1.1 e.symm, fun e => fb2.1 e.symm⟩)).trans hK3.out
      have HP5 := hid hP5
      have hO7 : Hid (Only [m, B.ib, B.lb] w w5) := hO3.out.trans hO6 (fun x hx => Or.inl (by simp at hx; simp [hx]))
      clear hstep hP5 hO6 fb1 fb2 hO5 hst hrun hent y0
      go_wp2
      go_roundw
      case rel => exact ⟨seen.push L.born, hI5, hK5, HP5, hO7⟩
      case measure =>
        have h1 : w5.iterSeen r = seen.push L.born := by unfold World.iterSeen; rw [hI5.out]
        have h2 : wr.iterSeen r = seen := by unfold World.iterSeen; rw [hit.out]
        rw [h1, h2]
        exact hsh.out

end Go.Proofs.Ytbkaemajjaiklaa
