/- Turns of blocks: their steps. -/
import Derived.Test.YtbkaemajjaiklaaGreatPlB
import Derived.Test.YtbkaemajjaiklaaGreatBitE
import Derived.Test.YtbkaemajjaiklaaGreatGeoC
import Derived.StillTailTactics

namespace Go.Proofs.YtbkaemajjaiklaaGreat
open Go.RowKit
set_option linter.unusedVariables false
set_option linter.unusedSimpArgs false

attribute [local go_sem] run_store_func
/-- blocks, and a memory, apart -/
structure Work (w : World) (N : Nat) (B : SB) (V : Nat → Value) (A : SA) (n m : Nat) (Q : MB) (M : MemS) (K : Nat) : Prop where
  sl : SlabIs w N B V ((8 * M.view.length : Nat) : Int) A
  hl : A.hd.length = 1 + n
  hn : 1 ≤ n ∧ n ≤ 64
  mem : Mems w m Q M K
  vl : M.view.length = 128 * (1 + n)
  far : ∀ k ∈ footM m Q M, k ∉ foot B V
  lo : N ≤ w.heap.size
/-- what a step turns: the turn, the memory, the blocks; where they lie by then -/
structure Stept (t : Nat) (B : SB) (V V' : Nat → Value) (m : Nat) (Q : MB) (M M' : MemS) (w w' : World) : Prop where
  only : Only (t :: footM m Q M ++ foot B V) w w'
  fm : ∀ k ∈ footM m Q M', k ∈ footM m Q M ∨ w.heap.size ≤ k
  fs : ∀ k ∈ foot B V', k ∈ foot B V ∨ w.heap.size ≤ k
theorem Work.only {w w' : World} {N : Nat} {B : SB} {V : Nat → Value} {A : SA} {n m : Nat} {Q : MB} {M : MemS} {K : Nat} (h : Work w N B V A n m Q M K) {f : List Nat} (ho : Only f w w') (h1 : ∀ k ∈ footM m Q M, k ∉ f) (h2 : ∀ k ∈ foot B V, k ∉ f) : Work w' N B V A n m Q M K :=
  ⟨h.sl.only ho (fun i k hk => h2 k (foot_mem.2 ⟨i, hk⟩)), h.hl, h.hn, h.mem.only ho h1, h.vl, h.far, Nat.le_trans h.lo ho.size⟩
theorem Work.foot_lt {w : World} {N : Nat} {B : SB} {V : Nat → Value} {A : SA} {n m : Nat} {Q : MB} {M : MemS} {K : Nat} (h : Work w N B V A n m Q M K) : ∀ k ∈ foot B V, k < w.heap.size := fun k hk => by
  obtain ⟨i, hi⟩ := foot_mem.1 hk
  exact h.sl.lt hi
/-- the memory did a primitive -/
theorem Work.prim {w w' : World} {N : Nat} {B : SB} {V : Nat → Value} {A : SA} {n m : Nat} {Q : MB} {M M' : MemS} {K : Nat} (h : Work w N B V A n m Q M K) (hm : Mems w' m Q M' (K + 1)) (hw : Went m Q w M w' M' 1) (hv : M'.view.length = M.view.length) : Work w' N B V A n m Q M' (K + 1) := by
  have hs := h.sl.only hw.only (fun i k hk hf => h.far k hf (foot_mem.2 ⟨i, hk⟩))
  refine ⟨by rw [hv]; exact hs, h.hl, h.hn, hm, hv.trans h.vl, fun k hk hf => ?_, Nat.le_trans h.lo hw.only.size⟩
  rcases hw.foot k hk with h1 | h1
  · exact h.far k h1 hf
  · have := h.foot_lt k hf; omega
theorem storeA_len (M M' : MemS) (k : Nat) (x : Int) (h : absM M' = storeA (absM M) k x) : M'.view.length = M.view.length := by
  have : (absM M').view = (storeA (absM M) k x).view := by rw [h]
  have h2 := congrArg List.length this
  simpa [absM, storeA] using h2
theorem flushA_len (M M' : MemS) (c k : Nat) (h : absM M' = flushA (absM M) c k) : M'.view.length = M.view.length := congrArg (fun m => m.view.length) h
theorem fenceA_len (M M' : MemS) (c : Nat) (h : absM M' = fenceA (absM M) c) : M'.view.length = M.view.length := congrArg (fun m => m.view.length) h

/-- the turn's next step told, then a primitive -/
theorem step_out {w W w2 w3 : World} {N : Nat} {B : SB} {V : Nat → Value} {A : SA} {n m : Nat} {Q : MB} {M M' : MemS} {K t : Nat} {cs : Array Value} {X : MA} (ho : Only [t] w W) (hw : Work W N B V A n m Q M K) (hb : Blk W t 162 cs) (h1 : t ∉ footM m Q M) (h2 : t ∉ foot B V)
    (hd : Only [] W w2) (p1 : Mems w3 m Q M' (K + 1)) (p2 : Went m Q w2 M w3 M' 1) (p3 : M'.view.length = M.view.length) (p4 : absM M' = X) :
    Work w3 N B V A n m Q M' (K + 1) ∧ Blk w3 t 162 cs ∧ Stept t B V V m Q M M' w w3 ∧ absM M' = X ∧ tot M' % 18446744073709551616 = (tot M + 1) % 18446744073709551616 := by
  have hw2 := hw.only hd (fun _ _ h => by cases h) (fun _ _ h => by cases h)
  have hb2 := hd.blk hb (fun h => by cases h)
  have hsz : w.heap.size ≤ w2.heap.size := Nat.le_trans ho.size hd.size
  refine ⟨hw2.prim p1 p2 p3, p2.only.blk hb2 h1, ⟨?_, fun k hk => ?_, fun k hk => Or.inl hk⟩, p4, p2.tot⟩
  · refine ((ho.mono (fun x hx => ?_)).trans hd (fun x hx => by cases hx)).trans p2.only (fun x hx => Or.inl ?_)
    · obtain rfl := List.mem_singleton.1 hx; simp
    · simp [hx]
  · rcases p2.foot k hk with h | h
    · exact Or.inl h
    · exact Or.inr (Nat.le_trans hsz h)

set_option maxRecDepth 100000 in
set_option maxHeartbeats 1000000 in
theorem class_z (N : Nat) (B : SB) (V : Nat → Value) (A : SA) (n m : Nat) (Q : MB) (M : MemS) (K t : Nat) (cl a tb : Int) (i c : Nat) (w : World) (h : Work w N B V A n m Q M K) (hK : K ≤ 1000000)
    (ht : Blk w t 162 (turnC B.s m t cl a tb 0)) (ht1 : t ∉ footM m Q M) (ht2 : t ∉ foot B V) (hi : slabZ a = (i : Int)) (hi1 : 1 ≤ i ∧ i ≤ n) (hc : clsOf A i = (c : Int)) (hc3 : c ≤ 3) :
    Calls Tryz.prog 116 #[.pointer (some ⟨t, 0, none⟩)] w fun e w' => e = .returned (.tuple #[.bool false, .int .i64 0]) ∧ ∃ M', Work w' N B V A n m Q M' (K + 1) ∧ Blk w' t 162 (turnC B.s m t cl a tb 1) ∧ Stept t B V V m Q M M' w w' ∧ absM M' = storeA (absM M) (128 * i) (c : Int) ∧ tot M' % 18446744073709551616 = (tot M + 1) % 18446744073709551616 := by
  have hil : i < A.hd.length := by have := h.hl; omega
  have hvl : 128 * i < M.view.length := by have := h.vl; omega
  have hhz : headerZ (i : Int) = 8 * ((128 * i : Nat) : Int) := by
    have := h.hn
    unfold headerZ; rw [if_pos ⟨by omega, by omega⟩]; omega
  have c6 := ht.cell 6
  have f6 := ht.frozen 6
  have ho1 : Only [t] w (w.setCell ⟨t, 6, none⟩ (stepF t 1)) := (Only.refl _ _).setCell (Or.inl (by simp)) _
  have hw1 : Work (w.setCell ⟨t, 6, none⟩ (stepF t 1)) N B V A n m Q M K := h.only ho1 (fun k hk hm => ht1 (by rw [← List.mem_singleton.1 hm]; exact hk)) (fun k hk hm => ht2 (by rw [← List.mem_singleton.1 hm]; exact hk))
  have hb1 : Blk (w.setCell ⟨t, 6, none⟩ (stepF t 1)) t 162 (turnC B.s m t cl a tb 1) := ht.set_ 6 (stepF t 1)
  obtain ⟨W, hWe⟩ : ∃ W, W = w.setCell ⟨t, 6, none⟩ (stepF t 1) := ⟨_, rfl⟩
  rw [← hWe] at ho1 hw1 hb1
  have c0 : W.cell? ⟨t, 0, none⟩ = some (.pointer (some ⟨B.s, 0, none⟩)) := hb1.cell 0
  have c1 : W.cell? ⟨t, 1, none⟩ = some (.pointer (some ⟨m, 0, none⟩)) := hb1.cell 1
  have c4 : W.cell? ⟨t, 4, none⟩ = some (.int .i64 (i : Int)) := by rw [← hi]; exact hb1.cell 4
  obtain ⟨L, hL⟩ : ∃ L, L = A.hd.length := ⟨_, rfl⟩
  have yh : W.cell? ⟨B.s, 1, none⟩ = some (.slice (some ⟨B.h, 0, none⟩) L L) := by have := hw1.sl.ch; rw [← hL] at this; exact this
  have yc : W.cell? ⟨B.h, i * 2, none⟩ = some (.int .i64 (c : Int)) := by
    rw [hw1.sl.hdr.cell, show i * 2 = 2 * i by omega, List.getElem?_toArray, (headC_get A.hd i hil).1]
    congr 2
    unfold clsOf at hc
    rw [← hc, List.getD_eq_getElem?_getD, List.getElem?_eq_getElem hil]; rfl
  have i0 : (0 : Int) ≤ (i : Int) := by omega
  have i1 : (i : Int) < (L : Int) := by omega
  have hwr : IntKind.u64.wrap (c : Int) = (c : Int) := IntWalk.u64_in _ (by omega)
  have ST := hid (Store_x m Q M K (128 * i) (c : Int) hvl W.drew (hw1.mem.only ((Only.refl [] W).drew) (fun _ _ h => by cases h)) (by omega))
  rw [← hhz] at ST
  have HB := hid hb1
  have HW := hid hw1
  have HO := hid ho1
  have HWE := hid hWe
  have HT := hid (⟨ht1, ht2⟩ : _ ∧ _)
  clear h ht hi hc hL hw1 ho1 hb1 hWe ht1 ht2 hvl hhz hil
  go_enter Tryz.func116, Tryz.ntmps116
  go_upto_region 2 with fail
  rw [show w.setCell ⟨t, 6, none⟩ (.func (.func 135) #[.pointer (some ⟨t, 0, none⟩)] #[]) = W from HWE.out.symm]
  clear c6 f6
  refine wp_region_still_tail 24 (by kernel_rfl) (by kernel_rfl) ?_
  simp only [List.take_succ_cons, List.take_zero, List.drop_succ_cons, List.drop_zero]
  repeat (first | still_step | still_call ((Header_z _ _).mono fun e w' hh => ⟨hh.1, hh.2.symm⟩))
  refine wpStill_nil ?_
  change wpList _ _ _ _ _ W.drew
  have HWD := hid (show Only [] W W.drew from (Only.refl [] W).drew)
  generalize W.drew = w2 at ST HWD ⊢
  go_wp2_with fail
  with_reducible refine ST.out.mono ?_
  rintro e w3 ⟨rfl, M', h1, h2, h3⟩
  have P := hid (⟨h1, h2, h3⟩ : _ ∧ _ ∧ _)
  clear h1 h2 h3
  go_wp2
  go_ret2
  refine ⟨rfl, M', ?_⟩
  exact step_out HO.out HW.out HB.out HT.out.1 HT.out.2 HWD.out P.out.1 P.out.2.1 (storeA_len _ _ _ _ P.out.2.2) P.out.2.2

set_option maxRecDepth 100000 in
set_option maxHeartbeats 1000000 in
theorem flush_z (N : Nat) (B : SB) (V : Nat → Value) (A : SA) (n m : Nat) (Q : MB) (M : MemS) (K t : Nat) (cl : Nat) (a tb : Int) (i : Nat) (w : World) (h : Work w N B V A n m Q M K) (hK : K ≤ 1000000)
    (ht : Blk w t 162 (turnC B.s m t cl a tb 2)) (ht1 : t ∉ footM m Q M) (ht2 : t ∉ foot B V) (hi : slabZ a = (i : Int)) (hi1 : 1 ≤ i ∧ i ≤ n) (hcl : cl ≤ 64) :
    Calls Tryz.prog 152 #[.pointer (some ⟨t, 0, none⟩)] w fun e w' => e = .returned (.tuple #[.bool false, .int .i64 0]) ∧ ∃ M', Work w' N B V A n m Q M' (K + 1) ∧ Blk w' t 162 (turnC B.s m t cl a tb 3) ∧ Stept t B V V m Q M M' w w' ∧ absM M' = flushA (absM M) cl (128 * i) ∧ tot M' % 18446744073709551616 = (tot M + 1) % 18446744073709551616 := by
  have hvl : 128 * i < M.view.length := by have := h.vl; omega
  have hhz : headerZ (i : Int) = 8 * ((128 * i : Nat) : Int) := by
    have := h.hn
    unfold headerZ; rw [if_pos ⟨by omega, by omega⟩]; omega
  have c6 := ht.cell 6
  have f6 := ht.frozen 6
  have ho1 : Only [t] w (w.setCell ⟨t, 6, none⟩ (stepF t 3)) := (Only.refl _ _).setCell (Or.inl (by simp)) _
  have hw1 : Work (w.setCell ⟨t, 6, none⟩ (stepF t 3)) N B V A n m Q M K := h.only ho1 (fun k hk hm => ht1 (by rw [← List.mem_singleton.1 hm]; exact hk)) (fun k hk hm => ht2 (by rw [← List.mem_singleton.1 hm]; exact hk))
  have hb1 : Blk (w.setCell ⟨t, 6, none⟩ (stepF t 3)) t 162 (turnC B.s m t cl a tb 3) := ht.set_ 6 (stepF t 3)
  obtain ⟨W, hWe⟩ : ∃ W, W = w.setCell ⟨t, 6, none⟩ (stepF t 3) := ⟨_, rfl⟩
  rw [← hWe] at ho1 hw1 hb1
  have c1 : W.cell? ⟨t, 1, none⟩ = some (.pointer (some ⟨m, 0, none⟩)) := hb1.cell 1
  have c2 : W.cell? ⟨t, 2, none⟩ = some (.int .i64 (cl : Int)) := hb1.cell 2
  have c4 : W.cell? ⟨t, 4, none⟩ = some (.int .i64 (i : Int)) := by rw [← hi]; exact hb1.cell 4
  have ST := hid (Flush_x m Q M K cl (128 * i) hcl hvl W.drew (hw1.mem.only ((Only.refl [] W).drew) (fun _ _ h => by cases h)) (by omega))
  rw [← hhz] at ST
  have HB := hid hb1
  have HW := hid hw1
  have HO := hid ho1
  have HWE := hid hWe
  have HT := hid (⟨ht1, ht2⟩ : _ ∧ _)
  clear h ht hi hw1 ho1 hb1 hWe ht1 ht2 hvl hhz
  go_enter Tryz.func152, Tryz.ntmps152
  go_upto_region 2 with fail
  rw [show w.setCell ⟨t, 6, none⟩ (.func (.func 159) #[.pointer (some ⟨t, 0, none⟩)] #[]) = W from HWE.out.symm]
  clear c6 f6
  refine wp_region_still_tail 13 (by kernel_rfl) (by kernel_rfl) ?_
  simp only [List.take_succ_cons, List.take_zero, List.drop_succ_cons, List.drop_zero]
  repeat (first | still_step | still_call ((Header_z _ _).mono fun e w' hh => ⟨hh.1, hh.2.symm⟩))
  refine wpStill_nil ?_
  change wpList _ _ _ _ _ W.drew
  have HWD := hid (show Only [] W W.drew from (Only.refl [] W).drew)
  generalize W.drew = w2 at ST HWD ⊢
  go_wp2_with fail
  with_reducible refine ST.out.mono ?_
  rintro e w3 ⟨rfl, M', h1, h2, h3⟩
  have P := hid (⟨h1, h2, h3⟩ : _ ∧ _ ∧ _)
  clear h1 h2 h3
  go_wp2
  go_ret2
  refine ⟨rfl, M', ?_⟩
  exact step_out HO.out HW.out HB.out HT.out.1 HT.out.2 HWD.out P.out.1 P.out.2.1 (flushA_len _ _ _ _ P.out.2.2) P.out.2.2

end Go.Proofs.YtbkaemajjaiklaaGreat

/- Turns of blocks: the slab's bits stored. -/
namespace Go.Proofs.YtbkaemajjaiklaaGreat
open Go.RowKit
set_option linter.unusedVariables false
set_option linter.unusedSimpArgs false

attribute [local go_sem] run_store_func
def newB (tb : Int) (b j : Nat) : Nat := if tb = 2 then setB b j else clrB b j
theorem newB_lt {tb : Int} {b j : Nat} (hb : b < 18446744073709551616) (hj : j < 64) : newB tb b j < 18446744073709551616 := by
  unfold newB; split
  · exact setB_lt hb hj
  · exact clrB_lt _ _
theorem step_out2 {w W w2 w3 : World} {N : Nat} {B : SB} {V : Nat → Value} {A : SA} {n m : Nat} {Q : MB} {M M' : MemS} {K t : Nat} {cs : Array Value} {X : MA} {f : List Nat} (ho : Only f w W) (hf : ∀ x ∈ f, x = t ∨ x ∈ foot B V) (hw : Work W N B V A n m Q M K) (hb : Blk W t 162 cs) (h1 : t ∉ footM m Q M) (h2 : t ∉ foot B V)
    (hd : Only [] W w2) (p1 : Mems w3 m Q M' (K + 1)) (p2 : Went m Q w2 M w3 M' 1) (p3 : M'.view.length = M.view.length) (p4 : absM M' = X) :
    Work w3 N B V A n m Q M' (K + 1) ∧ Blk w3 t 162 cs ∧ Stept t B V V m Q M M' w w3 ∧ absM M' = X ∧ tot M' % 18446744073709551616 = (tot M + 1) % 18446744073709551616 := by
  obtain ⟨g1, g2, g3, g4, g5⟩ := step_out (Only.refl [t] W) hw hb h1 h2 hd p1 p2 p3 p4
  refine ⟨g1, g2, ⟨?_, fun k hk => ?_, fun k hk => Or.inl hk⟩, g4, g5⟩
  · refine (ho.mono (fun x hx => ?_)).trans g3.only (fun x hx => Or.inl hx)
    rcases hf x hx with rfl | h
    · simp
    · simp [h]
  · rcases g3.fm k hk with h | h
    · exact Or.inl h
    · exact Or.inr (Nat.le_trans ho.size h)

set_option maxRecDepth 100000 in
set_option maxHeartbeats 2000000 in
theorem mark_z (N : Nat) (B : SB) (V : Nat → Value) (A : SA) (n m : Nat) (Q : MB) (M : MemS) (K t : Nat) (cl a tb : Int) (i c j b : Nat) (w : World) (h : Work w N B V A n m Q M K) (hK : K ≤ 1000000)
    (ht : Blk w t 162 (turnC B.s m t cl a tb 1)) (ht1 : t ∉ footM m Q M) (ht2 : t ∉ foot B V) (hi : slabZ a = (i : Int)) (hi1 : 1 ≤ i ∧ i ≤ n) (hc : clsOf A i = (c : Int)) (hj : idxI a c = (j : Int)) (hj64 : j < 64) (hb : (A.hd.getD i (0, 0)).2 = (b : Int)) (hb64 : b < 18446744073709551616) (ha : 0 ≤ a ∧ a ≤ 18446744073709551615) :
    Calls Tryz.prog 135 #[.pointer (some ⟨t, 0, none⟩)] w fun e w' => e = .returned (.tuple #[.bool false, .int .i64 0]) ∧ ∃ M', Work w' N B V (hdSA A i (newB tb b j)) n m Q M' (K + 1) ∧ Blk w' t 162 (turnC B.s m t cl a tb 2) ∧ Stept t B V V m Q M M' w w' ∧ absM M' = storeA (absM M) (128 * i + 1) (newB tb b j : Int) ∧ tot M' % 18446744073709551616 = (tot M + 1) % 18446744073709551616 := by
  have hil : i < A.hd.length := by have := h.hl; omega
  have hvl : 128 * i + 1 < M.view.length := by have := h.vl; omega
  have hbz : bitsZ (i : Int) = 8 * ((128 * i + 1 : Nat) : Int) := by
    have := h.hn
    unfold bitsZ; rw [if_pos ⟨by omega, by omega⟩]; omega
  have c0 : w.cell? ⟨t, 0, none⟩ = some (.pointer (some ⟨B.s, 0, none⟩)) := ht.cell 0
  have c4 : w.cell? ⟨t, 4, none⟩ = some (.int .i64 (i : Int)) := by rw [← hi]; exact ht.cell 4
  obtain ⟨L, hL⟩ : ∃ L, L = A.hd.length := ⟨_, rfl⟩
  have yh : w.cell? ⟨B.s, 1, none⟩ = some (.slice (some ⟨B.h, 0, none⟩) L L) := by have := h.sl.ch; rw [← hL] at this; exact this
  have YC := hid (fun (W : World) (hw : Work W N B V A n m Q M K) => (show W.cell? ⟨B.h, i * 2, none⟩ = some (.int .i64 (c : Int)) from by
    rw [hw.sl.hdr.cell, show i * 2 = 2 * i by omega, List.getElem?_toArray, (headC_get A.hd i hil).1]
    congr 2
    unfold clsOf at hc
    rw [← hc, List.getD_eq_getElem?_getD, List.getElem?_eq_getElem hil]; rfl))
  have YB := hid (fun (W : World) (hw : Work W N B V A n m Q M K) => (show W.cell? ⟨B.h, i * 2 + 1, none⟩ = some (.int .u64 (b : Int)) from by
    rw [hw.sl.hdr.cell, show i * 2 + 1 = 2 * i + 1 by omega, List.getElem?_toArray, (headC_get A.hd i hil).2]
    congr 2
    rw [← hb, List.getD_eq_getElem?_getD, List.getElem?_eq_getElem hil]; rfl))
  have i0 : (0 : Int) ≤ (i : Int) := by omega
  have i1 : (i : Int) < (L : Int) := by omega
  have IX := hid (fun W => Index_z a (c : Int) W ha.1 ha.2)
  rw [hj] at IX
  -- the slab's bits, and what is next, stored
  obtain ⟨b', hb'⟩ : ∃ b', b' = newB tb b j := ⟨_, rfl⟩
  have SET := hid (fun (W : World) (hw : Work W N B V A n m Q M K) => (show Work (W.setCell ⟨B.h, i * 2 + 1, none⟩ (.int .u64 (b' : Int))) N B V (hdSA A i b') n m Q M K ∧ Only [B.h] W (W.setCell ⟨B.h, i * 2 + 1, none⟩ (.int .u64 (b' : Int))) from by
    obtain ⟨g1, g2⟩ := hw.sl.head (i * 2 + 1) (.int .u64 (b' : Int)) (A.hd.set i ((A.hd.getD i (0, 0)).1, (b' : Int))) (by simp) (by rw [show i * 2 + 1 = 2 * i + 1 by omega]; exact headC_set1 A.hd i _)
    exact ⟨⟨g1, by show (A.hd.set _ _).length = _; rw [List.length_set]; exact hw.hl, hw.hn, hw.mem.only g2 (fun k hk hm => hw.far k hk (foot_mem.2 ⟨1, by rw [List.mem_singleton.1 hm]; rfl⟩)), hw.vl, hw.far, Nat.le_trans hw.lo g2.size⟩, g2⟩))
  have hth : t ≠ B.h := fun e => ht2 (foot_mem.2 ⟨1, by rw [e]; rfl⟩)
  have SN := hid (fun (W : World) (hw : Work W N B V (hdSA A i b') n m Q M K) (hw2 : Blk W t 162 (turnC B.s m t cl a tb 1)) => (show Work (W.setCell ⟨t, 6, none⟩ (stepF t 2)) N B V (hdSA A i b') n m Q M K ∧ Only [t] W (W.setCell ⟨t, 6, none⟩ (stepF t 2)) ∧ Blk (W.setCell ⟨t, 6, none⟩ (stepF t 2)) t 162 (turnC B.s m t cl a tb 2) from by
    have ho : Only [t] W (W.setCell ⟨t, 6, none⟩ (stepF t 2)) := (Only.refl _ _).setCell (Or.inl (by simp)) _
    exact ⟨hw.only ho (fun k hk hm => ht1 (by rw [← List.mem_singleton.1 hm]; exact hk)) (fun k hk hm => ht2 (by rw [← List.mem_singleton.1 hm]; exact hk)), ho, hw2.set_ 6 (stepF t 2)⟩))
  have YB2 := hid (fun (W : World) (hw : Work W N B V (hdSA A i b') n m Q M K) => (show W.cell? ⟨B.h, i * 2 + 1, none⟩ = some (.int .u64 (b' : Int)) from by
    have hl2 : i < (hdSA A i b').hd.length := by show i < (A.hd.set _ _).length; rw [List.length_set]; exact hil
    rw [hw.sl.hdr.cell, show i * 2 + 1 = 2 * i + 1 by omega, List.getElem?_toArray, (headC_get _ i hl2).2]
    congr 2
    have hq : (hdSA A i b').hd[i]? = some ((A.hd.getD i (0, 0)).1, (b' : Int)) := by
      show (A.hd.set i _)[i]? = _
      rw [List.getElem?_set_self hil]
    rw [List.getElem?_eq_getElem hl2] at hq
    rw [Option.some.inj hq]))
  have ST := hid (fun (W : World) (hw : Work W N B V (hdSA A i b') n m Q M K) => Store_x m Q M K (128 * i + 1) (b' : Int) hvl W hw.mem (by omega))
  rw [← hbz] at ST
  have WD := hid (fun (w W : World) (h : Work w N B V A n m Q M K) (hb : Below w.heap.size w W) => h.only (f := []) (Only.of_below hb []) (by simp) (by simp))
  have HB64 := hid hb64
  have HBE := hid hb'
  have TE := hid (⟨ht1, ht2, hth⟩ : _ ∧ _ ∧ _)
  have H := hid h
  have HT := hid ht
  have HI := hid hi
  clear h ht ht1 ht2 hb' hb hc hL hbz hvl hil ha hi hj hth
  go_enter Tryz.func135, Tryz.ntmps135
  go_upto_region 1 with fail
  go_quiet (fail)
  have H1 := hid (H.out.only (f := []) (Only.of_below (belN w nq) []) (by simp) (by simp))
  have T1 := hid (HT.out.drewN nq)
  have B1 := hid (belN w nq)
  generalize w.drewN nq = w1 at H1 T1 B1 ⊢
  have yc := YC.out w1 H1.out
  have c3 : w1.cell? ⟨t, 3, none⟩ = some (.int .u64 a) := T1.out.cell 3
  clear c0 c4 yh
  go_upto_region 2 with fail
  go_cut [5, 6] from 7 (fun s5 s6 wc => s5 = .int .i64 (j : Int) ∧ Hid (Below w1.heap.size w1 wc))
  case first =>
    go_region_with (first | (go_at_call 149; refine (IX.out w1.drew).mono ?_; rintro e w2 ⟨rfl, hb2⟩))
    all_goals
      try go_simp
      go_wp2_with fail
      go_meet
      exact ⟨rfl, (belDrew w1).trans hb2⟩
  case rest =>
    obtain ⟨rfl, hB⟩ := hcut
    have H2 := hid (WD.out w1 wc H1.out hB.out)
    have T2 := hid ((Only.of_below hB.out []).blk T1.out (by simp))
    have O2 := hid (show Only [] w wc from Only.of_below (B1.out.trans (hB.out.mono B1.out.size)) [])
    clear yc c3
    have c5 : wc.cell? ⟨t, 5, none⟩ = some (.int .i64 tb) := T2.out.cell 5
    have yb : wc.cell? ⟨B.h, i * 2 + 1, none⟩ = some (.int .u64 (b : Int)) := YB.out wc H2.out
    have ybf : wc.frozen? ⟨B.h, i * 2 + 1, none⟩ = false := H2.out.sl.hdr.frozen _
    have fin : Hid (∀ w4, w4 = wc.setCell ⟨B.h, i * 2 + 1, none⟩ (.int .u64 (b' : Int)) → Work w4 N B V (hdSA A i b') n m Q M K ∧ Blk w4 t 162 (turnC B.s m t cl a tb 1) ∧ Only [B.h] w w4) := by
      rintro w4 rfl
      obtain ⟨g1, g2⟩ := SET.out wc H2.out
      exact ⟨g1, g2.blk T2.out (by simpa using TE.out.2.2), (O2.out.mono (fun _ h => by cases h)).trans g2 (fun x hx => Or.inl hx)⟩
    by_cases h2 : tb = 2
    · have hbe : (tb == 2) = true := by simp [h2]
      have HE := hid (show setB b j = b' by rw [HBE.out]; unfold newB; rw [if_pos h2])
      clear h2
      go_wp2_with fail
      refine (Set_z b j HB64.out hj64 _).mono ?_
      rintro e w3 ⟨rfl, rfl⟩
      rw [HE.out]
      go_upto_region 6 with fail
      have FIN := hid (fin.out _ rfl)
      generalize wc.setCell ⟨B.h, i * 2 + 1, none⟩ (.int .u64 (b' : Int)) = w4 at FIN ⊢
      have c6 : w4.cell? ⟨t, 6, none⟩ = some (stepF t 1) := FIN.out.2.1.cell 6
      have f6 := FIN.out.2.1.frozen 6
      obtain ⟨g1, g2, g3⟩ := SN.out w4 FIN.out.1 FIN.out.2.1
      obtain ⟨W, hW⟩ : ∃ W, W = w4.setCell ⟨t, 6, none⟩ (stepF t 2) := ⟨_, rfl⟩
      rw [← hW] at g1 g2 g3
      have c1 : W.cell? ⟨t, 1, none⟩ = some (.pointer (some ⟨m, 0, none⟩)) := g3.cell 1
      have c4 : W.cell? ⟨t, 4, none⟩ = some (.int .i64 (i : Int)) := by rw [← HI.out]; exact g3.cell 4
      have yb2 := YB2.out W g1
      have G := hid (⟨g1, (FIN.out.2.2.mono (g := [B.h, t]) (by simp)).trans g2 (by simp), g3⟩ : Work W N B V (hdSA A i b') n m Q M K ∧ Only [B.h, t] w W ∧ Blk W t 162 (turnC B.s m t cl a tb 2))
      have HWE := hid hW
      clear g1 g2 g3 hW yb ybf c5 fin
      go_upto_region 7 with fail
      rw [show w4.setCell ⟨t, 6, none⟩ (.func (.func 152) #[.pointer (some ⟨t, 0, none⟩)] #[]) = W from HWE.out.symm]
      clear c6 f6
      have HST := hid (ST.out W.drew (G.out.1.only (f := []) ((Only.refl [] W).drew) (by simp) (by simp)))
      refine wp_region_still_tail 13 (by kernel_rfl) (by kernel_rfl) ?_
      simp only [List.take_succ_cons, List.take_zero, List.drop_succ_cons, List.drop_zero]
      repeat (first | still_step | still_call ((Bits_z _ _).mono fun e w' hh => ⟨hh.1, hh.2.symm⟩))
      refine wpStill_nil ?_
      change wpList _ _ _ _ _ W.drew
      have HWD := hid (show Only [] W W.drew from (Only.refl [] W).drew)
      generalize W.drew = w5 at HST HWD ⊢
      go_wp2_with fail
      with_reducible refine HST.out.mono ?_
      rintro e w6 ⟨rfl, M', h1, h2, h3⟩
      have P := hid (⟨h1, h2, h3⟩ : _ ∧ _ ∧ _)
      clear h1 h2 h3
      go_wp2
      go_ret2
      refine ⟨rfl, M', ?_⟩
      have := step_out2 G.out.2.1 (fun x hx => by
        simp at hx
        rcases hx with rfl | rfl
        · exact Or.inr (foot_mem.2 ⟨1, rfl⟩)
        · exact Or.inl rfl) G.out.1 G.out.2.2 TE.out.1 TE.out.2.1 HWD.out P.out.1 P.out.2.1 (storeA_len _ _ _ _ P.out.2.2) P.out.2.2
      rw [HBE.out] at this
      exact this
    · have hbe : (tb == 2) = false := by simp [h2]
      have HE := hid (show clrB b j = b' by rw [HBE.out]; unfold newB; rw [if_neg h2])
      clear h2
      go_wp2_with fail
      refine (Clear_z b j HB64.out hj64 _).mono ?_
      rintro e w3 ⟨rfl, rfl⟩
      rw [HE.out]
      go_upto_region 6 with fail
      have FIN := hid (fin.out _ rfl)
      generalize wc.setCell ⟨B.h, i * 2 + 1, none⟩ (.int .u64 (b' : Int)) = w4 at FIN ⊢
      have c6 : w4.cell? ⟨t, 6, none⟩ = some (stepF t 1) := FIN.out.2.1.cell 6
      have f6 := FIN.out.2.1.frozen 6
      obtain ⟨g1, g2, g3⟩ := SN.out w4 FIN.out.1 FIN.out.2.1
      obtain ⟨W, hW⟩ : ∃ W, W = w4.setCell ⟨t, 6, none⟩ (stepF t 2) := ⟨_, rfl⟩
      rw [← hW] at g1 g2 g3
      have c1 : W.cell? ⟨t, 1, none⟩ = some (.pointer (some ⟨m, 0, none⟩)) := g3.cell 1
      have c4 : W.cell? ⟨t, 4, none⟩ = some (.int .i64 (i : Int)) := by rw [← HI.out]; exact g3.cell 4
      have yb2 := YB2.out W g1
      have G := hid (⟨g1, (FIN.out.2.2.mono (g := [B.h, t]) (by simp)).trans g2 (by simp), g3⟩ : Work W N B V (hdSA A i b') n m Q M K ∧ Only [B.h, t] w W ∧ Blk W t 162 (turnC B.s m t cl a tb 2))
      have HWE := hid hW
      clear g1 g2 g3 hW yb ybf c5 fin
      go_upto_region 7 with fail
      rw [show w4.setCell ⟨t, 6, none⟩ (.func (.func 152) #[.pointer (some ⟨t, 0, none⟩)] #[]) = W from HWE.out.symm]
      clear c6 f6
      have HST := hid (ST.out W.drew (G.out.1.only (f := []) ((Only.refl [] W).drew) (by simp) (by simp)))
      refine wp_region_still_tail 13 (by kernel_rfl) (by kernel_rfl) ?_
      simp only [List.take_succ_cons, List.take_zero, List.drop_succ_cons, List.drop_zero]
      repeat (first | still_step | still_call ((Bits_z _ _).mono fun e w' hh => ⟨hh.1, hh.2.symm⟩))
      refine wpStill_nil ?_
      change wpList _ _ _ _ _ W.drew
      have HWD := hid (show Only [] W W.drew from (Only.refl [] W).drew)
      generalize W.drew = w5 at HST HWD ⊢
      go_wp2_with fail
      with_reducible refine HST.out.mono ?_
      rintro e w6 ⟨rfl, M', h1, h2, h3⟩
      have P := hid (⟨h1, h2, h3⟩ : _ ∧ _ ∧ _)
      clear h1 h2 h3
      go_wp2
      go_ret2
      refine ⟨rfl, M', ?_⟩
      have := step_out2 G.out.2.1 (fun x hx => by
        simp at hx
        rcases hx with rfl | rfl
        · exact Or.inr (foot_mem.2 ⟨1, rfl⟩)
        · exact Or.inl rfl) G.out.1 G.out.2.2 TE.out.1 TE.out.2.1 HWD.out P.out.1 P.out.2.1 (storeA_len _ _ _ _ P.out.2.2) P.out.2.2
      rw [HBE.out] at this
      exact this

end Go.Proofs.YtbkaemajjaiklaaGreat

/- Turns of blocks: the fence, what becomes of the block. -/
namespace Go.Proofs.YtbkaemajjaiklaaGreat
open Go.RowKit
set_option linter.unusedVariables false
set_option linter.unusedSimpArgs false

theorem Mems.foot_lt {w : World} {m : Nat} {Q : MB} {M : MemS} {K : Nat} (h : Mems w m Q M K) : ∀ k ∈ footM m Q M, k < w.heap.size := h.is.foot_lt
/-- the blocks turned -/
theorem Work.moved {w w' : World} {N : Nat} {B : SB} {V V' : Nat → Value} {A A' : SA} {n m : Nat} {Q : MB} {M : MemS} {K : Nat} (h : Work w N B V A n m Q M K) (hs : SlabIs w' N B V' ((8 * M.view.length : Nat) : Int) A') (hm : Moved B V V' w w') (hl : A'.hd.length = A.hd.length) : Work w' N B V' A' n m Q M K := by
  refine ⟨hs, hl.trans h.hl, h.hn, h.mem.only hm.only (fun k hk hf => h.far k hk hf), h.vl, fun k hk hf => ?_, Nat.le_trans h.lo hm.only.size⟩
  rcases hm.foot k hf with h1 | h1
  · exact h.far k hk h1
  · have := h.mem.foot_lt k hk; omega
theorem Moved.putM {w w' : World} {B : SB} {V : Nat → Value} (ho : Only [B.m] w w') : Moved B V V w w' := ⟨ho.mono (fun x hx => by obtain rfl := List.mem_singleton.1 hx; exact foot_mem.2 ⟨2, role_m B V⟩), fun _ h => Or.inl h⟩

set_option maxRecDepth 100000 in
set_option maxHeartbeats 2000000 in
theorem fence_pub (N : Nat) (B : SB) (V : Nat → Value) (A : SA) (n m : Nat) (Q : MB) (M : MemS) (K t : Nat) (cl : Nat) (a : Int) (w : World) (h : Work w N B V A n m Q M K) (hK : K ≤ 1000000)
    (ht : Blk w t 162 (turnC B.s m t cl a 2 3)) (ht1 : t ∉ footM m Q M) (ht2 : t ∉ foot B V) (hcl : cl ≤ 64) :
    Calls Tryz.prog 159 #[.pointer (some ⟨t, 0, none⟩)] w fun e w' => e = .returned (.tuple #[.bool true, .int .i64 0]) ∧ ∃ M', Work w' N B V { A with is := isSet A.is a 2 } n m Q M' (K + 1) ∧ Blk w' t 162 (turnC B.s m t cl a 2 3) ∧ Stept t B V V m Q M M' w w' ∧ absM M' = fenceA (absM M) cl ∧ tot M' % 18446744073709551616 = (tot M + 1) % 18446744073709551616 := by
  have c1 : w.cell? ⟨t, 1, none⟩ = some (.pointer (some ⟨m, 0, none⟩)) := ht.cell 1
  have c2 : w.cell? ⟨t, 2, none⟩ = some (.int .i64 (cl : Int)) := ht.cell 2
  have ST := hid (Fence_x m Q M K cl hcl w.drew (h.mem.only (f := []) ((Only.refl [] w).drew) (by simp)) (by omega))
  have H := hid h
  have HT := hid ht
  have TE := hid (⟨ht1, ht2⟩ : _ ∧ _)
  clear h ht ht1 ht2
  go_enter Tryz.func159, Tryz.ntmps159
  go_upto_region 1 with fail
  refine wp_region_still_tail 8 (by kernel_rfl) (by kernel_rfl) ?_
  simp only [List.take_succ_cons, List.take_zero, List.drop_succ_cons, List.drop_zero]
  repeat still_step
  refine wpStill_nil ?_
  change wpList _ _ _ _ _ w.drew
  have HWD := hid (show Only [] w w.drew from (Only.refl [] w).drew)
  generalize w.drew = w2 at ST HWD ⊢
  clear c1 c2
  go_wp2_with fail
  with_reducible refine ST.out.mono ?_
  rintro e w3 ⟨rfl, M', h1, h2, h3⟩
  obtain ⟨g1, g2, g3, g4, g5⟩ := step_out (Only.refl [t] w) H.out HT.out TE.out.1 TE.out.2 HWD.out h1 h2 (fenceA_len _ _ _ h3) h3
  have G := hid (⟨g1, g2, g3, g4, g5⟩ : _ ∧ _ ∧ _ ∧ _ ∧ _)
  have c0 : w3.cell? ⟨t, 0, none⟩ = some (.pointer (some ⟨B.s, 0, none⟩)) := g2.cell 0
  have c3 : w3.cell? ⟨t, 3, none⟩ = some (.int .u64 a) := g2.cell 3
  have c5 : w3.cell? ⟨t, 5, none⟩ = some (.int .i64 2) := g2.cell 5
  have ym := g1.sl.cm
  obtain ⟨w4, hu, hs4, ho4⟩ := (g1.sl.bel (belDrew w3)).put a 2
  have ho34 : Only [B.m] w3 w4 := ((Only.refl [B.m] w3).drew).trans ho4 (fun x hx => Or.inl hx)
  have g6 := g1.moved (A' := { A with is := isSet A.is a 2 }) hs4 (Moved.putM (V := V) ho34) rfl
  have htm : t ≠ B.m := fun e => TE.out.2 (foot_mem.2 ⟨2, by rw [e]; rfl⟩)
  have g7 := ho34.blk g2 (by simpa using htm)
  have c5' : w4.cell? ⟨t, 5, none⟩ = some (.int .i64 2) := g7.cell 5
  have G2 := hid (⟨g6, g7, ho34⟩ : _ ∧ _ ∧ _)
  clear h1 h2 h3 g1 g2 g3 g4 g5 g6 g7 hs4 ho4 ho34
  go_upto_region 4 with fail
  refine wp_region_still_tail 15 (by kernel_rfl) (by kernel_rfl) ?_
  simp only [List.take_succ_cons, List.take_zero, List.drop_succ_cons, List.drop_zero]
  repeat still_step
  refine wpStill_nil ?_
  change wpList _ _ _ _ _ w3.drew
  clear c0 c3 c5 ym
  go_wp2
  go_ret2
  refine ⟨rfl, M', G2.out.1, G2.out.2.1, ⟨?_, G.out.2.2.1.fm, G.out.2.2.1.fs⟩, G.out.2.2.2.1, G.out.2.2.2.2⟩
  refine G.out.2.2.1.only.trans G2.out.2.2 (fun x hx => Or.inl ?_)
  obtain rfl := List.mem_singleton.1 hx
  have : B.m ∈ foot B V := foot_mem.2 ⟨2, role_m B V⟩
  simp [this]

set_option maxRecDepth 100000 in
set_option maxHeartbeats 2000000 in
theorem fence_free (N : Nat) (B : SB) (V : Nat → Value) (A : SA) (n m : Nat) (Q : MB) (M : MemS) (K t : Nat) (cl c : Nat) (a : Int) (w : World) (h : Work w N B V A n m Q M K) (hK : K ≤ 1000000)
    (ht : Blk w t 162 (turnC B.s m t cl a 0 3)) (ht1 : t ∉ footM m Q M) (ht2 : t ∉ foot B V) (hcl : cl ≤ 64) (ha : 0 < a ∧ a ≤ 18446744073709551615) (hm : a ∈ (isSet A.is a 0).map (·.1)) (hc : clsZ A (slabZ a) = (c : Int)) (hc4 : c < 4) (hx : (A.fr c).length ≤ 100000) :
    Calls Tryz.prog 159 #[.pointer (some ⟨t, 0, none⟩)] w fun e w' => e = .returned (.tuple #[.bool true, .int .i64 0]) ∧ ∃ M' V', Work w' N B V' (freeSA { A with is := isSet A.is a 0 } c a) n m Q M' (K + 1) ∧ Blk w' t 162 (turnC B.s m t cl a 0 3) ∧ Stept t B V V' m Q M M' w w' ∧ absM M' = fenceA (absM M) cl ∧ tot M' % 18446744073709551616 = (tot M + 1) % 18446744073709551616 := by
  have c1 : w.cell? ⟨t, 1, none⟩ = some (.pointer (some ⟨m, 0, none⟩)) := ht.cell 1
  have c2 : w.cell? ⟨t, 2, none⟩ = some (.int .i64 (cl : Int)) := ht.cell 2
  have ST := hid (Fence_x m Q M K cl hcl w.drew (h.mem.only (f := []) ((Only.refl [] w).drew) (by simp)) (by omega))
  have H := hid h
  have HT := hid ht
  have TE := hid (⟨ht1, ht2⟩ : _ ∧ _)
  have AS := hid (⟨ha, hm, hc, hx⟩ : _ ∧ _ ∧ _ ∧ _)
  clear h ht ht1 ht2 ha hm hc hx
  go_enter Tryz.func159, Tryz.ntmps159
  go_upto_region 1 with fail
  refine wp_region_still_tail 8 (by kernel_rfl) (by kernel_rfl) ?_
  simp only [List.take_succ_cons, List.take_zero, List.drop_succ_cons, List.drop_zero]
  repeat still_step
  refine wpStill_nil ?_
  change wpList _ _ _ _ _ w.drew
  have HWD := hid (show Only [] w w.drew from (Only.refl [] w).drew)
  generalize w.drew = w2 at ST HWD ⊢
  clear c1 c2
  go_wp2_with fail
  with_reducible refine ST.out.mono ?_
  rintro e w3 ⟨rfl, M', h1, h2, h3⟩
  obtain ⟨g1, g2, g3, g4, g5⟩ := step_out (Only.refl [t] w) H.out HT.out TE.out.1 TE.out.2 HWD.out h1 h2 (fenceA_len _ _ _ h3) h3
  have G := hid (⟨g1, g2, g3, g4, g5⟩ : _ ∧ _ ∧ _ ∧ _ ∧ _)
  have c0 : w3.cell? ⟨t, 0, none⟩ = some (.pointer (some ⟨B.s, 0, none⟩)) := g2.cell 0
  have c3 : w3.cell? ⟨t, 3, none⟩ = some (.int .u64 a) := g2.cell 3
  have c5 : w3.cell? ⟨t, 5, none⟩ = some (.int .i64 0) := g2.cell 5
  have ym := g1.sl.cm
  obtain ⟨w4, hu, hs4, ho4⟩ := (g1.sl.bel (belDrew w3)).put a 0
  have ho34 : Only [B.m] w3 w4 := ((Only.refl [B.m] w3).drew).trans ho4 (fun x hx => Or.inl hx)
  have g6 := g1.moved (A' := { A with is := isSet A.is a 0 }) hs4 (Moved.putM (V := V) ho34) rfl
  have htm : t ≠ B.m := fun e => TE.out.2 (foot_mem.2 ⟨2, by rw [e]; rfl⟩)
  have g7 := ho34.blk g2 (by simpa using htm)
  have c0' : w4.cell? ⟨t, 0, none⟩ = some (.pointer (some ⟨B.s, 0, none⟩)) := g7.cell 0
  have c3' : w4.cell? ⟨t, 3, none⟩ = some (.int .u64 a) := g7.cell 3
  have c5' : w4.cell? ⟨t, 5, none⟩ = some (.int .i64 0) := g7.cell 5
  have G2 := hid (⟨g6, g7, ho34⟩ : _ ∧ _ ∧ _)
  clear h1 h2 h3 g1 g2 g3 g4 g5 g6 g7 hs4 ho4 ho34
  go_upto_region 4 with fail
  refine wp_region_still_tail 15 (by kernel_rfl) (by kernel_rfl) ?_
  simp only [List.take_succ_cons, List.take_zero, List.drop_succ_cons, List.drop_zero]
  repeat still_step
  refine wpStill_nil ?_
  change wpList _ _ _ _ _ w3.drew
  clear c0 c3 c5 ym
  go_upto_region 6 with fail
  have P4 := hid (put_s N B V _ { A with is := isSet A.is a 0 } a c n w4.drew (G2.out.1.only (f := []) ((Only.refl [] w4).drew) (by simp) (by simp)).sl G2.out.1.lo G2.out.1.hl G2.out.1.hn AS.out.1 AS.out.2.1 AS.out.2.2.1 hc4 AS.out.2.2.2)
  refine wp_region_still_tail 8 (by kernel_rfl) (by kernel_rfl) ?_
  simp only [List.take_succ_cons, List.take_zero, List.drop_succ_cons, List.drop_zero]
  repeat still_step
  refine wpStill_nil ?_
  change wpList _ _ _ _ _ w4.drew
  clear c0' c3' c5' hu
  have HWD4 := hid (show Only [] w4 w4.drew from (Only.refl [] w4).drew)
  generalize w4.drew = w5 at P4 HWD4 ⊢
  go_wp2_with fail
  with_reducible refine P4.out.mono ?_
  rintro e w6 ⟨⟨v, rfl⟩, V', q1, q2⟩
  have Z := hid (⟨q1, q2⟩ : _ ∧ _)
  clear q1 q2
  go_wp2
  go_ret2
  have hm56 : Moved B V V' w4 w6 := (⟨(HWD4.out.mono (fun _ h => by cases h)).trans Z.out.2.only (fun x hx => Or.inl hx), fun k hk => (Z.out.2.foot k hk).imp id (fun hh => Nat.le_trans HWD4.out.size hh)⟩ : Moved B V V' w4 w6)
  have q3 := G2.out.1.moved (A' := freeSA { A with is := isSet A.is a 0 } c a) Z.out.1 hm56 rfl
  refine ⟨rfl, M', V', q3, hm56.only.blk G2.out.2.1 TE.out.2, ⟨?_, G.out.2.2.1.fm, fun k hk => ?_⟩, G.out.2.2.2.1, G.out.2.2.2.2⟩
  · refine (G.out.2.2.1.only.trans G2.out.2.2 (fun x hx => Or.inl ?_)).trans hm56.only (fun x hx => Or.inl (by simp [hx]))
    obtain rfl := List.mem_singleton.1 hx
    have : B.m ∈ foot B V := foot_mem.2 ⟨2, role_m B V⟩
    simp [this]
  · rcases hm56.foot k hk with h1 | h1
    · exact Or.inl h1
    · exact Or.inr (Nat.le_trans (Nat.le_trans G.out.2.2.1.only.size G2.out.2.2.size) h1)

end Go.Proofs.YtbkaemajjaiklaaGreat

/- Turns of blocks: Step. -/
namespace Go.Proofs.YtbkaemajjaiklaaGreat
open Go.RowKit
set_option linter.unusedVariables false
set_option linter.unusedSimpArgs false

def turnD (s m t : Nat) (cl a tb : Int) (ph : Nat) (d : Bool) : Array Value :=
  #[.pointer (some ⟨s, 0, none⟩), .pointer (some ⟨m, 0, none⟩), .int .i64 cl, .int .u64 a, .int .i64 (slabZ a), .int .i64 tb, stepF t ph, .bool d, .int .i64 0]
theorem turnD_f (s m t : Nat) (cl a tb : Int) (ph : Nat) (h : ph < 4) : turnD s m t cl a tb ph false = turnC s m t cl a tb ph := by
  unfold turnD turnC
  rw [decide_eq_false (show ¬ ph = 4 by omega)]
theorem turnD_t (s m t : Nat) (cl a tb : Int) : turnD s m t cl a tb 3 true = turnC s m t cl a tb 4 := rfl
theorem eqFn (F t : Nat) (w : World) : (binOp .eql 83 (.func (.func F) #[.pointer (some ⟨t, 0, none⟩)] #[]) .nilFunc).run Tryz.prog w = .ok (.bool false) w := by kernel_rfl

set_option maxRecDepth 100000 in
set_option maxHeartbeats 2000000 in
theorem Step_gen (F t s m : Nat) (cl a tb : Int) (ph ph' : Nat) (d : Bool) (R : World → Prop) (hF : stepF t ph = .func (.func F) #[.pointer (some ⟨t, 0, none⟩)] #[]) (hp : ph < 4) (hp' : ph' < 4) (hcf : ∀ (x : Array Value) (W : World), (callFunc F x).run Tryz.prog W = .ok (.enter F x) W) (w : World) (hb : Blk w t 162 (turnC s m t cl a tb ph))
    (hc : ∀ W, Only [] w W → Calls Tryz.prog F #[.pointer (some ⟨t, 0, none⟩)] W fun e w' => e = .returned (.tuple #[.bool d, .int .i64 0]) ∧ R w' ∧ Blk w' t 162 (turnC s m t cl a tb ph')) :
    Calls Tryz.prog 38 #[.pointer (some ⟨t, 0, none⟩)] w fun e w' => e = .returned (.tuple #[.bool d, .int .i64 0]) ∧ ∃ w1, R w1 ∧ Only [t] w1 w' ∧ Blk w' t 162 (turnD s m t cl a tb ph' d) := by
  have c6 : w.cell? ⟨t, 6, none⟩ = some (.func (.func F) #[.pointer (some ⟨t, 0, none⟩)] #[]) := by rw [← hF]; exact hb.cell 6
  have c7 : w.cell? ⟨t, 7, none⟩ = some (.bool false) := by
    have := hb.cell 7
    rw [show (turnC s m t cl a tb ph)[7]? = some (.bool (decide (ph = 4))) from rfl, decide_eq_false (show ¬ ph = 4 by omega)] at this
    exact this
  have e1 := fun w => eqFn F t w
  have HC := hid hc
  have HB := hid hb
  clear hc hb hF
  go_enter Tryz.func38, Tryz.ntmps38
  go_wp2_with fail
  refine (HC.out w (Only.refl _ _)).mono ?_
  rintro e w1 ⟨rfl, h1, h2⟩
  have H1 := hid (⟨h1, h2⟩ : _ ∧ _)
  have z7 : w1.cell? ⟨t, 7, none⟩ = some (.bool false) := by
    have := h2.cell 7
    rw [show (turnC s m t cl a tb ph')[7]? = some (.bool (decide (ph' = 4))) from rfl, decide_eq_false (show ¬ ph' = 4 by omega)] at this
    exact this
  have z8 : w1.cell? ⟨t, 8, none⟩ = some (.int .i64 0) := h2.cell 8
  have z7f := h2.frozen 7
  have z8f := h2.frozen 8
  obtain ⟨W2, hW2⟩ : ∃ W2, W2 = (w1.setCell ⟨t, 7, none⟩ (.bool d)).setCell ⟨t, 8, none⟩ (.int .i64 0) := ⟨_, rfl⟩
  have b2 : Blk W2 t 162 (turnD s m t cl a tb ph' d) := by
    rw [hW2]
    exact (h2.set_ 7 (.bool d)).set_ 8 (.int .i64 0)
  have o2 : Only [t] w1 W2 := by
    rw [hW2]
    exact ((Only.refl _ _).setCell (Or.inl (by simp)) _).setCell (Or.inl (by simp)) _
  have HW2 := hid hW2
  have H2 := hid (⟨b2, o2⟩ : _ ∧ _)
  clear h1 h2 c6 c7 e1 hcf hW2 b2 o2
  go_upto_region 5 with fail
  rw [show (w1.setCell ⟨t, 7, none⟩ (.bool d)).setCell ⟨t, 8, none⟩ (.int .i64 0) = W2 from HW2.out.symm]
  clear z7 z8 z7f z8f
  have z7 : W2.cell? ⟨t, 7, none⟩ = some (.bool d) := H2.out.1.cell 7
  have z8 : W2.cell? ⟨t, 8, none⟩ = some (.int .i64 0) := H2.out.1.cell 8
  have z7f := H2.out.1.frozen 7
  have e0 : ((0 : Int) != 0) = false := rfl
  obtain ⟨W3, hW3⟩ : ∃ W3, W3 = W2.setCell ⟨t, 7, none⟩ (.bool d) := ⟨_, rfl⟩
  have b3 : Blk W3 t 162 (turnD s m t cl a tb ph' d) := by
    rw [hW3]
    exact H2.out.1.set_ 7 (.bool d)
  have o3 : Only [t] w1 W3 := by
    rw [hW3]
    exact H2.out.2.setCell (Or.inl (by simp)) _
  have y7 : W3.cell? ⟨t, 7, none⟩ = some (.bool d) := b3.cell 7
  have y8 : W3.cell? ⟨t, 8, none⟩ = some (.int .i64 0) := b3.cell 8
  have H3 := hid (⟨b3, o3⟩ : _ ∧ _)
  have HW3 := hid hW3
  clear b3 o3 hW3
  cases d
  · go_upto_region 6 with fail
    rw [show W2.setCell ⟨t, 7, none⟩ (.bool false) = W3 from HW3.out.symm]
    clear z7 z8 z7f
    go_quiet (fail)
    go_wp2
    go_ret2
    exact ⟨rfl, w1, H1.out.1, H3.out.2.drewN nq, H3.out.1.drewN nq⟩
  · go_upto_region 6 with fail
    rw [show W2.setCell ⟨t, 7, none⟩ (.bool true) = W3 from HW3.out.symm]
    clear z7 z8 z7f
    go_quiet (fail)
    go_wp2
    go_ret2
    exact ⟨rfl, w1, H1.out.1, H3.out.2.drewN nq, H3.out.1.drewN nq⟩

/-- what a step makes of the blocks, of the memory -/
def nextSA (A : SA) (i c j b : Nat) (a tb : Int) (ph : Nat) : SA :=
  if ph = 1 then hdSA A i (newB tb b j) else if ph = 3 then (if tb = 2 then { A with is := isSet A.is a 2 } else freeSA { A with is := isSet A.is a 0 } c a) else A
def nextMA (m : MA) (i c j b : Nat) (tb : Int) (cl ph : Nat) : MA :=
  if ph = 0 then storeA m (128 * i) (c : Int) else if ph = 1 then storeA m (128 * i + 1) (newB tb b j : Int) else if ph = 2 then flushA m cl (128 * i) else fenceA m cl
/-- a turn that goes on, of a block of a slab of its class -/
structure TurnOK (w : World) (B : SB) (V : Nat → Value) (A : SA) (n m : Nat) (Q : MB) (M : MemS) (t cl : Nat) (a tb : Int) (i c j b ph : Nat) : Prop where
  blk : Blk w t 162 (turnC B.s m t cl a tb ph)
  lt4 : ph < 4
  fm : t ∉ footM m Q M
  fs : t ∉ foot B V
  ii : slabZ a = (i : Int)
  i1 : 1 ≤ i ∧ i ≤ n
  cc : clsOf A i = (c : Int)
  c3 : 1 ≤ c ∧ c ≤ 3
  jj : idxI a c = (j : Int)
  j64 : j < 64
  bb : (A.hd.getD i (0, 0)).2 = (b : Int)
  b64 : b < 18446744073709551616
  aa : 0 < a ∧ a ≤ 18446744073709551615
  cl64 : cl ≤ 64
  tbb : tb = 2 ∨ tb = 0
  is : a ∈ A.is.map (·.1)
  fr : (A.fr c).length ≤ 100000
/-- what a step comes to -/
structure StepPost (w : World) (N : Nat) (B : SB) (V : Nat → Value) (A : SA) (n m : Nat) (Q : MB) (M : MemS) (K t cl : Nat) (a tb : Int) (i c j b ph : Nat) (e : Ending) (w' : World) (M' : MemS) (V' : Nat → Value) : Prop where
  e : e = .returned (.tuple #[.bool (decide (ph = 3)), .int .i64 0])
  work : Work w' N B V' (nextSA A i c j b a tb ph) n m Q M' (K + 1)
  blk : Blk w' t 162 (turnC B.s m t cl a tb (ph + 1))
  st : Stept t B V V' m Q M M' w w'
  ma : absM M' = nextMA (absM M) i c j b tb cl ph
  tot : tot M' % 18446744073709551616 = (tot M + 1) % 18446744073709551616

theorem Stept.then {t : Nat} {B : SB} {V V' : Nat → Value} {m : Nat} {Q : MB} {M M' : MemS} {w w1 w2 : World} (h : Stept t B V V' m Q M M' w w1) (k : Only [t] w1 w2) : Stept t B V V' m Q M M' w w2 :=
  ⟨h.only.trans k (fun x hx => Or.inl (by obtain rfl := List.mem_singleton.1 hx; simp)), h.fm, h.fs⟩
theorem isSet_has (l : List (Int × Int)) (a v : Int) : a ∈ (isSet l a v).map (·.1) := by
  induction l with
  | nil => simp [isSet]
  | cons x l ih =>
    unfold isSet
    split
    · simp
    · simp only [List.map_cons, List.mem_cons]; exact Or.inr ih
theorem Work.pre {w w' : World} {N : Nat} {B : SB} {V : Nat → Value} {A : SA} {n m : Nat} {Q : MB} {M : MemS} {K : Nat} (h : Work w N B V A n m Q M K) (ho : Only [] w w') : Work w' N B V A n m Q M K := h.only ho (by simp) (by simp)
theorem Stept.pre {t : Nat} {B : SB} {V V' : Nat → Value} {m : Nat} {Q : MB} {M M' : MemS} {w w1 w2 : World} (ho : Only [] w w1) (h : Stept t B V V' m Q M M' w1 w2) : Stept t B V V' m Q M M' w w2 :=
  ⟨(ho.mono (fun _ h => by cases h)).trans h.only (fun x hx => Or.inl hx), fun k hk => (h.fm k hk).imp id (Nat.le_trans ho.size), fun k hk => (h.fs k hk).imp id (Nat.le_trans ho.size)⟩

theorem Step_z (N : Nat) (B : SB) (V : Nat → Value) (A : SA) (n m : Nat) (Q : MB) (M : MemS) (K t cl : Nat) (a tb : Int) (i c j b ph : Nat) (w : World) (h : Work w N B V A n m Q M K) (hK : K ≤ 1000000) (ht : TurnOK w B V A n m Q M t cl a tb i c j b ph) :
    Calls Tryz.prog 38 #[.pointer (some ⟨t, 0, none⟩)] w fun e w' => ∃ M' V', StepPost w N B V A n m Q M K t cl a tb i c j b ph e w' M' V' := by
  have htl := ht.blk.lt
  have fin : ∀ (w1 w2 : World) (M' : MemS) (V' : Nat → Value) (A' : SA), Work w1 N B V' A' n m Q M' (K + 1) → Stept t B V V' m Q M M' w w1 → Only [t] w1 w2 → Work w2 N B V' A' n m Q M' (K + 1) := by
    intro w1 w2 M' V' A' hw hs ho
    refine hw.only ho (fun k hk hm => ?_) (fun k hk hm => ?_)
    · obtain rfl := List.mem_singleton.1 hm
      rcases hs.fm k hk with h1 | h1
      · exact ht.fm h1
      · omega
    · obtain rfl := List.mem_singleton.1 hm
      rcases hs.fs k hk with h1 | h1
      · exact ht.fs h1
      · omega
  have hph := ht.lt4
  have hcl : clsZ A (slabZ a) = (c : Int) := by
    unfold clsZ
    rw [ht.ii, if_pos ⟨by have := ht.i1; omega, by have := ht.i1; have := h.hl; omega⟩, Int.toNat_natCast, ht.cc]
  rcases (by omega : ph = 0 ∨ ph = 1 ∨ ph = 2 ∨ ph = 3) with rfl | rfl | rfl | rfl
  · refine (Step_gen 116 t B.s m cl a tb 0 1 false (fun w1 => ∃ M', Work w1 N B V A n m Q M' (K + 1) ∧ Stept t B V V m Q M M' w w1 ∧ absM M' = storeA (absM M) (128 * i) (c : Int) ∧ tot M' % 18446744073709551616 = (tot M + 1) % 18446744073709551616) rfl (by omega) (by omega) (by intro x W; kernel_rfl) w ht.blk (fun W hW => ?_)).mono ?_
    · refine (class_z N B V A n m Q M K t cl a tb i c W (h.pre hW) hK (hW.blk ht.blk (by simp)) ht.fm ht.fs ht.ii ht.i1 ht.cc (by have := ht.c3; omega)).mono ?_
      rintro e w' ⟨rfl, M', g1, g2, g3, g4, g5⟩
      exact ⟨rfl, ⟨M', g1, g3.pre hW, g4, g5⟩, g2⟩
    · rintro e w' ⟨rfl, w1, ⟨M', g1, g3, g4, g5⟩, ho, hb⟩
      exact ⟨M', V, rfl, fin _ _ _ _ _ g1 g3 ho, by rw [turnD_f _ _ _ _ _ _ _ (by omega)] at hb; exact hb, g3.then ho, g4, g5⟩
  · refine (Step_gen 135 t B.s m cl a tb 1 2 false (fun w1 => ∃ M', Work w1 N B V (hdSA A i (newB tb b j)) n m Q M' (K + 1) ∧ Stept t B V V m Q M M' w w1 ∧ absM M' = storeA (absM M) (128 * i + 1) (newB tb b j : Int) ∧ tot M' % 18446744073709551616 = (tot M + 1) % 18446744073709551616) rfl (by omega) (by omega) (by intro x W; kernel_rfl) w ht.blk (fun W hW => ?_)).mono ?_
    · refine (mark_z N B V A n m Q M K t cl a tb i c j b W (h.pre hW) hK (hW.blk ht.blk (by simp)) ht.fm ht.fs ht.ii ht.i1 ht.cc ht.jj ht.j64 ht.bb ht.b64 ⟨by have := ht.aa; omega, ht.aa.2⟩).mono ?_
      rintro e w' ⟨rfl, M', g1, g2, g3, g4, g5⟩
      exact ⟨rfl, ⟨M', g1, g3.pre hW, g4, g5⟩, g2⟩
    · rintro e w' ⟨rfl, w1, ⟨M', g1, g3, g4, g5⟩, ho, hb⟩
      exact ⟨M', V, rfl, fin _ _ _ _ _ g1 g3 ho, by rw [turnD_f _ _ _ _ _ _ _ (by omega)] at hb; exact hb, g3.then ho, g4, g5⟩
  · refine (Step_gen 152 t B.s m cl a tb 2 3 false (fun w1 => ∃ M', Work w1 N B V A n m Q M' (K + 1) ∧ Stept t B V V m Q M M' w w1 ∧ absM M' = flushA (absM M) cl (128 * i) ∧ tot M' % 18446744073709551616 = (tot M + 1) % 18446744073709551616) rfl (by omega) (by omega) (by intro x W; kernel_rfl) w ht.blk (fun W hW => ?_)).mono ?_
    · refine (flush_z N B V A n m Q M K t cl a tb i W (h.pre hW) hK (hW.blk ht.blk (by simp)) ht.fm ht.fs ht.ii ht.i1 ht.cl64).mono ?_
      rintro e w' ⟨rfl, M', g1, g2, g3, g4, g5⟩
      exact ⟨rfl, ⟨M', g1, g3.pre hW, g4, g5⟩, g2⟩
    · rintro e w' ⟨rfl, w1, ⟨M', g1, g3, g4, g5⟩, ho, hb⟩
      exact ⟨M', V, rfl, fin _ _ _ _ _ g1 g3 ho, by rw [turnD_f _ _ _ _ _ _ _ (by omega)] at hb; exact hb, g3.then ho, g4, g5⟩
  · rcases ht.tbb with rfl | rfl
    · refine (Step_gen 159 t B.s m cl a 2 3 3 true (fun w1 => ∃ M', Work w1 N B V { A with is := isSet A.is a 2 } n m Q M' (K + 1) ∧ Stept t B V V m Q M M' w w1 ∧ absM M' = fenceA (absM M) cl ∧ tot M' % 18446744073709551616 = (tot M + 1) % 18446744073709551616) rfl (by omega) (by omega) (by intro x W; kernel_rfl) w ht.blk (fun W hW => ?_)).mono ?_
      · refine (fence_pub N B V A n m Q M K t cl a W (h.pre hW) hK (hW.blk ht.blk (by simp)) ht.fm ht.fs ht.cl64).mono ?_
        rintro e w' ⟨rfl, M', g1, g2, g3, g4, g5⟩
        exact ⟨rfl, ⟨M', g1, g3.pre hW, g4, g5⟩, g2⟩
      · rintro e w' ⟨rfl, w1, ⟨M', g1, g3, g4, g5⟩, ho, hb⟩
        exact ⟨M', V, rfl, fin _ _ _ _ _ g1 g3 ho, by rw [turnD_t] at hb; exact hb, g3.then ho, g4, g5⟩
    · refine (Step_gen 159 t B.s m cl a 0 3 3 true (fun w1 => ∃ M' V', Work w1 N B V' (freeSA { A with is := isSet A.is a 0 } c a) n m Q M' (K + 1) ∧ Stept t B V V' m Q M M' w w1 ∧ absM M' = fenceA (absM M) cl ∧ tot M' % 18446744073709551616 = (tot M + 1) % 18446744073709551616) rfl (by omega) (by omega) (by intro x W; kernel_rfl) w ht.blk (fun W hW => ?_)).mono ?_
      · refine (fence_free N B V A n m Q M K t cl c a W (h.pre hW) hK (hW.blk ht.blk (by simp)) ht.fm ht.fs ht.cl64 ht.aa (isSet_has _ _ _) hcl (by have := ht.c3; omega) ht.fr).mono ?_
        rintro e w' ⟨rfl, M', V', g1, g2, g3, g4, g5⟩
        exact ⟨rfl, ⟨M', V', g1, g3.pre hW, g4, g5⟩, g2⟩
      · rintro e w' ⟨rfl, w1, ⟨M', V', g1, g3, g4, g5⟩, ho, hb⟩
        exact ⟨M', V', rfl, fin _ _ _ _ _ g1 g3 ho, by rw [turnD_t] at hb; exact hb, g3.then ho, g4, g5⟩

end Go.Proofs.YtbkaemajjaiklaaGreat

/- SlabPlays: a step of a turn, counted. -/
namespace Go.Proofs.YtbkaemajjaiklaaGreat
open Go.RowKit
set_option linter.unusedVariables false
set_option linter.unusedSimpArgs false

set_option maxRecDepth 100000 in
set_option maxHeartbeats 1000000 in
theorem did6_z (m : Nat) (Q : MB) (M : MemS) (w : World) (h : MemIs w m Q M) :
    Calls Tryz.prog 120 #[.pointer (some ⟨m, 0, none⟩)] w fun e w' => e = .returned (.int .u64 (tot M % 18446744073709551616)) ∧ Below w.heap.size w w' := by
  have H := hid h
  have HTT := hid (show tot M = M.st.a + M.st.b + M.st.c + M.st.d from rfl)
  clear h
  go_enter Tryz.func120, Tryz.ntmps120
  go_wp2_with fail
  refine (Stats_m m Q M.view.length M.st H.out.pos _ H.out.blk).mono ?_
  rintro e w1 ⟨rfl, hb⟩
  have HB := hid hb
  clear hb
  go_wp2
  go_ret
  have hw : ∀ x, IntKind.u64.wrap x = x % 18446744073709551616 := fun x => rfl
  have e2 : IntKind.u64.wrap (IntKind.u64.wrap (IntKind.u64.wrap (M.st.a + M.st.b) + M.st.c) + M.st.d) = tot M % 18446744073709551616 := by
    rw [HTT.out]; simp only [hw]; omega
  refine ⟨congrArg (fun x => Ending.returned (Value.int .u64 x)) e2, ?_⟩
  exact ba HB.out _

/-- what a step comes to, but for the answer -/
structure StepW (w : World) (N : Nat) (B : SB) (V : Nat → Value) (A : SA) (n m : Nat) (Q : MB) (M : MemS) (K t cl : Nat) (a tb : Int) (i c j b ph : Nat) (w' : World) (M' : MemS) (V' : Nat → Value) : Prop where
  work : Work w' N B V' (nextSA A i c j b a tb ph) n m Q M' (K + 1)
  blk : Blk w' t 162 (turnC B.s m t cl a tb (ph + 1))
  st : Stept t B V V' m Q M M' w w'
  ma : absM M' = nextMA (absM M) i c j b tb cl ph
theorem StepW.bel {w w' w2 : World} {N : Nat} {B : SB} {V V' : Nat → Value} {A : SA} {n m : Nat} {Q : MB} {M M' : MemS} {K t cl : Nat} {a tb : Int} {i c j b ph : Nat} (h : StepW w N B V A n m Q M K t cl a tb i c j b ph w' M' V') (hb : Below w'.heap.size w' w2) : StepW w N B V A n m Q M K t cl a tb i c j b ph w2 M' V' :=
  ⟨h.work.pre (Only.of_below hb []), (Only.of_below hb []).blk h.blk (by simp), ⟨h.st.only.trans (Only.of_below hb []) (by simp), h.st.fm, h.st.fs⟩, h.ma⟩
theorem TurnOK.bel {w w' : World} {B : SB} {V : Nat → Value} {A : SA} {n m : Nat} {Q : MB} {M : MemS} {t cl : Nat} {a tb : Int} {i c j b ph : Nat} (h : TurnOK w B V A n m Q M t cl a tb i c j b ph) (hb : Below w.heap.size w w') : TurnOK w' B V A n m Q M t cl a tb i c j b ph :=
  { h with blk := (Only.of_below hb []).blk h.blk (by simp) }

set_option maxRecDepth 100000 in
set_option maxHeartbeats 1000000 in
theorem step6_z (N : Nat) (B : SB) (V : Nat → Value) (A : SA) (n m : Nat) (Q : MB) (M : MemS) (K t cl : Nat) (a tb : Int) (i c j b ph : Nat) (w : World) (h : Work w N B V A n m Q M K) (hK : K ≤ 1000000) (ht : TurnOK w B V A n m Q M t cl a tb i c j b ph) :
    Calls Tryz.prog 91 #[.pointer (some ⟨m, 0, none⟩), .pointer (some ⟨t, 0, none⟩)] w fun e w' => e = .returned (.tuple #[.bool (decide (ph = 3)), .bool true]) ∧ ∃ M' V', StepW w N B V A n m Q M K t cl a tb i c j b ph w' M' V' := by
  have H := hid h
  have HT := hid ht
  obtain ⟨d, hd⟩ : ∃ d, d = decide (ph = 3) := ⟨_, rfl⟩
  rw [← hd]
  have HD := hid hd
  obtain ⟨z, hz⟩ : ∃ z, z = tot M % 18446744073709551616 := ⟨_, rfl⟩
  have HZ := hid hz
  clear h ht hd hz
  go_enter Tryz.func91, Tryz.ntmps91
  go_wp2_with fail
  refine (did6_z m Q M w H.out.mem.is).mono ?_
  rintro e w1 ⟨rfl, hb1⟩
  rw [← HZ.out]
  have HB1 := hid hb1
  clear hb1
  go_wp2_with fail
  refine (Step_z N B V A n m Q M K t cl a tb i c j b ph w1 (H.out.pre (Only.of_below HB1.out [])) hK (HT.out.bel HB1.out)).mono ?_
  rintro e w2 ⟨M', V', hp⟩
  have he := hp.e
  rw [← HD.out] at he
  subst he
  have P := hid hp
  have hdf : IntKind.u64.wrap (tot M' % 18446744073709551616 - z) = 1 := by
    rw [HZ.out, hp.tot]
    show ((tot M + 1) % 18446744073709551616 - tot M % 18446744073709551616) % 18446744073709551616 = 1
    omega
  obtain ⟨z', hz'⟩ : ∃ z', z' = tot M' % 18446744073709551616 := ⟨_, rfl⟩
  rw [← hz'] at hdf
  have HZ' := hid hz'
  have e0 : ((0 : Int) == 0) = true := rfl
  clear hp hz'
  go_wp2_with fail
  refine (did6_z m Q M' _ P.out.work.mem.is).mono ?_
  rintro e w3 ⟨rfl, hb3⟩
  rw [← HZ'.out]
  have HB3 := hid hb3
  clear hb3
  go_wp2
  go_ret2
  have h2 : StepW w N B V A n m Q M K t cl a tb i c j b ph w2 M' V' := ⟨P.out.work, P.out.blk, P.out.st.pre (Only.of_below HB1.out []), P.out.ma⟩
  exact ⟨rfl, M', V', h2.bel HB3.out⟩

end Go.Proofs.YtbkaemajjaiklaaGreat
