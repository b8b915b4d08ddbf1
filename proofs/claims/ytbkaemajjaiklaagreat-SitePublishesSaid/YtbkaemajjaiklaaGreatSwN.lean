/- The law's runner: a step. -/
import Derived.Test.YtbkaemajjaiklaaGreatPmW
import Derived.WalkMore
import Derived.Test.YtbkaemajjaiklaaGreatPmX

namespace Go.Proofs.YtbkaemajjaiklaaGreat
open Go.RowKit
set_option linter.unusedVariables false
set_option linter.unusedSimpArgs false

theorem Went.undrew {m : Nat} {B : MB} {w w' : World} {M M' : MemS} {d : Nat} (h : Went m B w.drew M w' M' d) : Went m B w M w' M' d := ⟨⟨h.only.os, h.only.tape, h.only.output, h.only.size, h.only.block⟩, h.foot, h.tot⟩
structure StepT where
  did : Nat
  done : Bool
  bad : Int
def stepC (x : StepT) : List Value := [.int .i64 (x.did : Int), .bool x.done, .int .i64 x.bad]
def StepsAt (w : World) (v : Value) (cs : List StepT) (lb : Nat) : Prop :=
  ∃ (ao : Option Addr) (cap : Nat), v = .slice ao cs.length cap ∧ (cs = [] ∨ ∃ off, ao = some ⟨lb, off, none⟩ ∧ lb < w.heap.size ∧ ∀ i (h : i < cs.length) j, j < 3 → w.cell? ⟨lb, off + i * 3 + j, none⟩ = (stepC cs[i])[j]?)
theorem StepsAt.only {f : List Nat} {w w' : World} {v : Value} {cs : List StepT} {lb : Nat} (h : StepsAt w v cs lb) (ho : Only f w w') (hn : lb ∉ f) : StepsAt w' v cs lb := by
  obtain ⟨ao, cap, rfl, h⟩ := h
  refine ⟨ao, cap, rfl, ?_⟩
  rcases h with h | ⟨off, rfl, hlt, hc⟩
  · exact Or.inl h
  · exact Or.inr ⟨off, rfl, Nat.lt_of_lt_of_le hlt ho.size, fun i hi j hj => (ho.cell (p := ⟨lb, off + i * 3 + j, none⟩) hlt hn).trans (hc i hi j hj)⟩
def zeroS : StepT := ⟨0, false, 0⟩
/-- the n-th step: behind the end the last one, again and again; of none: one that does nothing -/
def xAt (cs : List StepT) (n : Nat) : StepT := match cs[n]? with | some x => x | none => cs.getLast?.getD zeroS
/-- what a runner holds -/
def runC (m : Nat) (l : Value) (n : Nat) : Array Value := #[ptrV m, l, .int .i64 (n : Int)]
structure RunOK (w : World) (r m : Nat) (B : MB) (M : MemS) (K : Nat) (l : Value) (cs : List StepT) (lb n : Nat) : Prop where
  blk : Blk w r 149 (runC m l n)
  mem : Mems w m B M K
  steps : StepsAt w l cs lb
  far : r ∉ footM m B M
  lfar : lb ∉ footM m B M
  lr : lb ≠ r
  lt : lb < w.heap.size
/-- behind a step -/
def SwPost (w : World) (r m : Nat) (B : MB) (M : MemS) (K : Nat) (l : Value) (cs : List StepT) (lb n : Nat) (e : Ending) (w' : World) : Prop :=
  e = .returned (.tuple #[.bool (xAt cs n).done, .int .i64 (xAt cs n).bad]) ∧ ∃ M', RunOK w' r m B M' (K + (xAt cs n).did) l cs lb (n + 1) ∧ Only (r :: footM m B M) w w' ∧ (∀ k ∈ footM m B M', k ∈ footM m B M ∨ w.heap.size ≤ k) ∧ tot M' % 18446744073709551616 = (tot M + (xAt cs n).did) % 18446744073709551616 ∧ ((xAt cs n).did = 0 → M' = M)

set_option maxRecDepth 100000 in
set_option maxHeartbeats 4000000 in
theorem step_none (r m : Nat) (B : MB) (M : MemS) (K : Nat) (l : Value) (cs : List StepT) (lb n : Nat) (hcs : cs = []) (hn : n ≤ 1000) (hK : K ≤ 1000000) (hdid : (xAt cs n).did ≤ 9) (w : World) (h : RunOK w r m B M K l cs lb n) :
    Calls Tryz.prog 82 #[.pointer (some ⟨r, 0, none⟩)] w (SwPost w r m B M K l cs lb n) := by
  obtain ⟨ao, cap, hl, _⟩ := id h.steps
  have hl0 : l = .slice ao 0 cap := by rw [hl, hcs]; rfl
  have HL := hid hl0
  have HC := hid hcs
  have H := hid h
  have hb1 := h.blk.alloc (.cells #[.int .i64 0, .bool false, .int .i64 0] 145)
  have i1 : (0 : Int) ≤ (n : Int) := by omega
  have i2 : ¬ (n : Int) < 0 := by omega
  have i3 : (0 : Int) ≤ 0 := by omega
  have x1 : (w.alloc (.cells #[.int .i64 0, .bool false, .int .i64 0] 145)).cell? ⟨r, 1, none⟩ = some (.slice ao 0 cap) := by rw [← hl0]; exact hb1.cell 1
  have x2 : (w.alloc (.cells #[.int .i64 0, .bool false, .int .i64 0] 145)).cell? ⟨r, 2, none⟩ = some (.int .i64 (n : Int)) := hb1.cell 2
  have x1d : (w.alloc (.cells #[.int .i64 0, .bool false, .int .i64 0] 145)).drew.cell? ⟨r, 1, none⟩ = some (.slice ao 0 cap) := x1
  have x2d : (w.alloc (.cells #[.int .i64 0, .bool false, .int .i64 0] 145)).drew.cell? ⟨r, 2, none⟩ = some (.int .i64 (n : Int)) := x2
  have x2f := hb1.frozen 2
  have hrw : r ≠ w.heap.size := fun e => by have := h.blk.lt; omega
  have XA : xAt cs n = zeroS := by rw [hcs]; simp [xAt]
  have HXA := hid XA
  clear h hb1 hl hl0 hcs XA
  go_enter Tryz.func82, Tryz.ntmps82
  go_wp2
  go_region
  go_wp2
  obtain ⟨W1, hW1⟩ : ∃ W1, W1 = ((w.alloc (.cells #[.int .i64 0, .bool false, .int .i64 0] 145)).setCell ⟨r, 2, none⟩ (.int .i64 ((n : Int) + 1))).drew := ⟨_, rfl⟩
  rw [← hW1]
  obtain ⟨X, hX⟩ : ∃ X, X = w.heap.size := ⟨_, rfl⟩
  rw [← hX]
  have o1 : Only [r] w W1 := by rw [hW1]; exact (((Only.refl _ w).alloc _).setCell (Or.inl (by simp)) _).drew
  have b1 : Blk W1 r 149 (runC m l (n + 1)) := by rw [hW1]; exact ((H.out.blk.alloc _).set_ 2 _).drew
  have c1 : Blk W1 X 145 (stepC (xAt cs n)).toArray := by rw [hW1, hX, HXA.out]; exact ((Blk.new w _ _).far (by exact fun e => hrw e.symm) _).drew
  have m1 : Mems W1 m B M K := H.out.mem.only o1 (fun k hk hm => H.out.far (by simp at hm; rw [← hm]; exact hk))
  have s1 := H.out.steps.only o1 (by simpa using H.out.lr)
  have hXf : X ∉ footM m B M := fun hc => by have := H.out.mem.is.foot_lt X hc; omega
  have hXr : X ≠ r := fun e => by have := H.out.blk.lt; omega
  have hs1 := o1.size
  have hlt1 : r < W1.heap.size ∧ X < W1.heap.size := ⟨b1.lt, c1.lt⟩
  obtain ⟨D, hD⟩ : ∃ D, D = (xAt cs n).did := ⟨_, rfl⟩
  have hD9 : D ≤ 9 := by rw [hD]; exact hdid
  have HD := hid hD
  have O1 := hid o1
  have B1 := hid b1
  have C1 := hid c1
  have M1 := hid m1
  have S1 := hid s1
  have XF := hid hXf
  have HX := hid hX
  have HLT := hid hlt1
  clear o1 b1 c1 m1 s1 hXf hX hW1 hs1 hlt1 hD x1 x2 x1d x2d x2f
  go_loopw [5] (fun i wr => ∃ (k : Nat) (M2 : MemS), k ≤ D ∧ i = .int .i64 k ∧ Hid (Mems wr m B M2 (K + k)) ∧ Hid (Went m B W1 M wr M2 k) ∧ Hid (k = 0 → M2 = M)) (fun i _ => (D - (intOf i).toNat))
  case atStart => exact ⟨0, M, by omega, rfl, M1.out, Went.refl _ _ _ _, fun _ => rfl⟩
  case round =>
    obtain ⟨k, M2, hk, rfl, hMs, hWt, hZe⟩ := hrel
    have b2 := hWt.out.blk B1.out H.out.far
    have c2 := hWt.out.blk C1.out XF.out
    have y0 : wr.cell? ⟨X, 0, none⟩ = some (.int .i64 (D : Int)) := by rw [HD.out]; exact c2.cell 0
    have z0 : wr.cell? ⟨r, 0, none⟩ = some (ptrV m) := b2.cell 0
    have z2 : wr.cell? ⟨r, 2, none⟩ = some (.int .i64 ((n : Int) + 1)) := b2.cell 2
    have zd0 : wr.drew.cell? ⟨r, 0, none⟩ = some (ptrV m) := z0
    have zd2 : wr.drew.cell? ⟨r, 2, none⟩ = some (.int .i64 ((n : Int) + 1)) := z2
    have j1 : (0 : Int) ≤ (k : Int) := by omega
    by_cases hlt : k < D
    · have j2 : (k : Int) < (D : Int) := by omega
      have hc4 : k % 4 = 0 ∨ k % 4 = 1 ∨ k % 4 = 2 ∨ k % 4 = 3 := by omega
      clear b2 c2
      rcases hc4 with hc | hc | hc | hc
      · have j3 : (k : Int) % 4 = 0 := by omega
        clear hc
        go_wp2_with fail
        refine (Load_p m B M2 (K + k) _ hMs.out).mono ?_
        rintro e w2 ⟨⟨v, rfl⟩, M3, h3, h4⟩
        have H3 := hid h3
        have H4 := hid (hWt.out.trans h4)
        clear h3 h4 hMs hWt y0 z0 z2 zd0 zd2
        go_wp2
        go_roundw
        case rel => exact ⟨k + 1, M3, by omega, by go_num, H3.out, H4.out, fun h => by omega⟩
        case measure => simp [intOf]; omega
      · have j3 : (k : Int) % 4 = 1 := by omega
        clear hc
        have HS := hid (Store_p m B M2 (K + k) ((n : Int) + 1) _ (hMs.out.only (Only.refl [] wr).drew (fun _ _ h => by cases h)) (by omega))
        have hwr : IntKind.u64.wrap ((n : Int) + 1) = (n : Int) + 1 := IntWalk.u64_in _ (by omega)
        go_wp2_with fail
        go_region_with (first | (go_at_call 112; refine HS.out.mono ?_; rintro e w2 ⟨⟨v, rfl⟩, M3, h3, h4⟩; have H3 := hid h3; have H4 := hid (hWt.out.trans h4.undrew); clear h3 h4))
        all_goals
          try go_simp
          try simp only [Act.put, List.setIfInBounds_toArray, List.set_cons_zero, List.set_cons_succ]
          clear hMs hWt y0 z0 z2 zd0 zd2
          go_wp2
          go_roundw
          case rel => exact ⟨k + 1, M3, by omega, by go_num, H3.out, H4.out, fun h => by omega⟩
          case measure => simp [intOf]; omega
      · have j3 : (k : Int) % 4 = 2 := by omega
        clear hc
        go_wp2_with fail
        refine (Flush_p m B M2 (K + k) _ hMs.out (by omega)).mono ?_
        rintro e w2 ⟨⟨v, rfl⟩, M3, h3, h4⟩
        have H3 := hid h3
        have H4 := hid (hWt.out.trans h4)
        clear h3 h4 hMs hWt y0 z0 z2 zd0 zd2
        go_wp2
        go_roundw
        case rel => exact ⟨k + 1, M3, by omega, by go_num, H3.out, H4.out, fun h => by omega⟩
        case measure => simp [intOf]; omega
      · have j3 : (k : Int) % 4 = 3 := by omega
        clear hc
        go_wp2_with fail
        refine (Fence_p m B M2 (K + k) _ hMs.out (by omega)).mono ?_
        rintro e w2 ⟨⟨v, rfl⟩, M3, h3, h4⟩
        have H3 := hid h3
        have H4 := hid (hWt.out.trans h4)
        clear h3 h4 hMs hWt y0 z0 z2 zd0 zd2
        go_wp2
        go_roundw
        case rel => exact ⟨k + 1, M3, by omega, by go_num, H3.out, H4.out, fun h => by omega⟩
        case measure => simp [intOf]; omega
    · obtain rfl : k = D := by omega
      have hf : SwPost w r m B M K l cs lb n (.returned (.tuple #[.bool (xAt cs n).done, .int .i64 (xAt cs n).bad])) wr.drew := by
        refine ⟨rfl, M2, ⟨b2.drew, ?_, ?_, hWt.out.far HLT.out.1 H.out.far, ?_, H.out.lr, ?_⟩, ?_, ?_, ?_, fun h => hZe.out (HD.out.trans h)⟩
        · rw [← HD.out]; exact hMs.out.only (Only.refl [] wr).drew (fun _ _ h => by cases h)
        · exact (S1.out.only hWt.out.only H.out.lfar).only (Only.refl [] wr).drew (by simp)
        · exact hWt.out.far (Nat.lt_of_lt_of_le H.out.lt O1.out.size) H.out.lfar
        · exact Nat.lt_of_lt_of_le H.out.lt (Nat.le_trans O1.out.size hWt.out.only.size)
        · exact ((O1.out.mono (fun x hx => by simp at hx; simp [hx])).trans hWt.out.only (fun x hx => Or.inl (by simp [hx]))).drew
        · exact fun k hk => by
            rcases hWt.out.foot k hk with h | h
            · exact Or.inl h
            · exact Or.inr (Nat.le_trans O1.out.size h)
        · have := hWt.out.tot
          rw [← HD.out]; exact this
      have HF := hid hf
      have y1 : wr.drew.cell? ⟨X, 1, none⟩ = some (.bool (xAt cs n).done) := c2.drew.cell 1
      have y2 : wr.drew.cell? ⟨X, 2, none⟩ = some (.int .i64 (xAt cs n).bad) := c2.drew.cell 2
      clear hf b2 c2 hMs hWt hk hlt
      go_wp2
      go_region
      all_goals
        try simp only [Act.put, List.setIfInBounds_toArray, List.set_cons_zero, List.set_cons_succ]
        go_wp2
        go_ret2
        exact HF.out

end Go.Proofs.YtbkaemajjaiklaaGreat

/- The law's runner: a step of some. -/
namespace Go.Proofs.YtbkaemajjaiklaaGreat
open Go.RowKit
set_option linter.unusedVariables false
set_option linter.unusedSimpArgs false

set_option maxRecDepth 100000 in
set_option maxHeartbeats 4000000 in
theorem step_some (r m : Nat) (B : MB) (M : MemS) (K : Nat) (l : Value) (cs : List StepT) (lb n : Nat) (hlen : cs.length ≤ 1000) (hlt : n < cs.length) (hn : n ≤ 1000) (hK : K ≤ 1000000) (hdid : (xAt cs n).did ≤ 9) (w : World) (h : RunOK w r m B M K l cs lb n) :
    Calls Tryz.prog 82 #[.pointer (some ⟨r, 0, none⟩)] w (SwPost w r m B M K l cs lb n) := by
  obtain ⟨ao, cap, hl, hc⟩ := id h.steps
  obtain ⟨off, rfl, hlw, hcell⟩ : ∃ off, ao = some ⟨lb, off, none⟩ ∧ lb < w.heap.size ∧ ∀ i (h : i < cs.length) j, j < 3 → w.cell? ⟨lb, off + i * 3 + j, none⟩ = (stepC cs[i])[j]? := by
    rcases hc with hc | hc
    · rw [hc] at hlt; simp at hlt
    · exact hc
  obtain ⟨N, hN⟩ : ∃ N, N = cs.length := ⟨_, rfl⟩
  obtain ⟨q, hq⟩ : ∃ q, N = q + 1 := ⟨N - 1, by omega⟩
  obtain ⟨a, ha⟩ : ∃ a, a = cs[q]'(by omega) := ⟨_, rfl⟩
  obtain ⟨b, hb⟩ : ∃ b, b = cs[n]'hlt := ⟨_, rfl⟩
  have XA : xAt cs n = b := by unfold xAt; rw [List.getElem?_eq_getElem hlt, hb]
  have hca := hcell q (by omega)
  have hcb := hcell n hlt
  rw [← ha] at hca
  rw [← hb] at hcb
  have hl0 : l = .slice (some ⟨lb, off, none⟩) (q + 1) cap := by rw [hl, ← hN, hq]
  have HXA := hid XA
  have H := hid h
  have hbz := h.blk.alloc (.cells #[.int .i64 0, .bool false, .int .i64 0] 145)
  have u1z : (w.alloc (.cells #[.int .i64 0, .bool false, .int .i64 0] 145)).cell? ⟨r, 1, none⟩ = some (.slice (some ⟨lb, off, none⟩) (q + 1) cap) := by rw [← hl0]; exact hbz.cell 1
  have u2z : (w.alloc (.cells #[.int .i64 0, .bool false, .int .i64 0] 145)).cell? ⟨r, 2, none⟩ = some (.int .i64 (n : Int)) := hbz.cell 2
  have ufz := hbz.frozen 2
  have a0z : (w.alloc (.cells #[.int .i64 0, .bool false, .int .i64 0] 145)).cell? ⟨lb, off + q * 3, none⟩ = some (.int .i64 (a.did : Int)) := (ca _ (hca 0 (by omega)))
  have a1z : (w.alloc (.cells #[.int .i64 0, .bool false, .int .i64 0] 145)).cell? ⟨lb, off + q * 3 + 1, none⟩ = some (.bool a.done) := (ca _ (hca 1 (by omega)))
  have a2z : (w.alloc (.cells #[.int .i64 0, .bool false, .int .i64 0] 145)).cell? ⟨lb, off + q * 3 + 2, none⟩ = some (.int .i64 a.bad) := (ca _ (hca 2 (by omega)))
  have hby := h.blk.alloc (.cells #[.int .i64 (a.did : Int), .bool a.done, .int .i64 a.bad] 145)
  have u1y : (w.alloc (.cells #[.int .i64 (a.did : Int), .bool a.done, .int .i64 a.bad] 145)).cell? ⟨r, 1, none⟩ = some (.slice (some ⟨lb, off, none⟩) (q + 1) cap) := by rw [← hl0]; exact hby.cell 1
  have u2y : (w.alloc (.cells #[.int .i64 (a.did : Int), .bool a.done, .int .i64 a.bad] 145)).cell? ⟨r, 2, none⟩ = some (.int .i64 (n : Int)) := hby.cell 2
  have ufy := hby.frozen 2
  have b0y : (w.alloc (.cells #[.int .i64 (a.did : Int), .bool a.done, .int .i64 a.bad] 145)).cell? ⟨lb, off + n * 3, none⟩ = some (.int .i64 (b.did : Int)) := (ca _ (hcb 0 (by omega)))
  have b1y : (w.alloc (.cells #[.int .i64 (a.did : Int), .bool a.done, .int .i64 a.bad] 145)).cell? ⟨lb, off + n * 3 + 1, none⟩ = some (.bool b.done) := (ca _ (hcb 1 (by omega)))
  have b2y : (w.alloc (.cells #[.int .i64 (a.did : Int), .bool a.done, .int .i64 a.bad] 145)).cell? ⟨lb, off + n * 3 + 2, none⟩ = some (.int .i64 b.bad) := (ca _ (hcb 2 (by omega)))
  have hbv := h.blk.alloc (.cells #[.int .i64 (b.did : Int), .bool b.done, .int .i64 b.bad] 145)
  have u1v : (w.alloc (.cells #[.int .i64 (b.did : Int), .bool b.done, .int .i64 b.bad] 145)).cell? ⟨r, 1, none⟩ = some (.slice (some ⟨lb, off, none⟩) (q + 1) cap) := by rw [← hl0]; exact hbv.cell 1
  have u2v : (w.alloc (.cells #[.int .i64 (b.did : Int), .bool b.done, .int .i64 b.bad] 145)).cell? ⟨r, 2, none⟩ = some (.int .i64 (n : Int)) := hbv.cell 2
  have ufv := hbv.frozen 2
  have i1 : (0 : Int) ≤ (n : Int) := by omega
  have i2 : (n : Int) < (q : Int) + 1 := by omega
  have i3 : (0 : Int) ≤ (q : Int) := by omega
  have i4 : (q : Int) < (q : Int) + 1 := by omega
  have i5 : (0 : Int) < (q : Int) + 1 := by omega
  have i6 : q ≤ 1000 := by omega
  have hrw : r ≠ w.heap.size := fun e => by have := h.blk.lt; omega
  have hlbw : lb ≠ w.heap.size := fun e => by omega
  have hlr : lb ≠ r := h.lr
  clear h hl hl0 hc hcell hca hcb XA hN hq ha hb hbz hby hbv
  go_enter Tryz.func82, Tryz.ntmps82
  go_wp2
  go_region
  go_wp2
  go_region
  go_wp2
  go_region
  go_wp2
  obtain ⟨W1, hW1⟩ : ∃ W1, W1 = ((w.alloc (.cells #[.int .i64 (b.did : Int), .bool b.done, .int .i64 b.bad] 145)).setCell ⟨r, 2, none⟩ (.int .i64 ((n : Int) + 1))).drew.drew.drew := ⟨_, rfl⟩
  rw [← hW1]
  obtain ⟨X, hX⟩ : ∃ X, X = w.heap.size := ⟨_, rfl⟩
  rw [← hX]
  have o1 : Only [r] w W1 := by rw [hW1]; exact (((Only.refl _ w).alloc _).setCell (Or.inl (by simp)) _).drew.drew.drew
  have b1 : Blk W1 r 149 (runC m l (n + 1)) := by rw [hW1]; exact ((H.out.blk.alloc _).set_ 2 _).drew.drew.drew
  have c1 : Blk W1 X 145 (stepC (xAt cs n)).toArray := by rw [hW1, hX, HXA.out]; exact ((Blk.new w _ _).far (by exact fun e => hrw e.symm) _).drew.drew.drew
  have m1 : Mems W1 m B M K := H.out.mem.only o1 (fun k hk hm => H.out.far (by simp at hm; rw [← hm]; exact hk))
  have s1 := H.out.steps.only o1 (by simpa using H.out.lr)
  have hXf : X ∉ footM m B M := fun hc => by have := H.out.mem.is.foot_lt X hc; omega
  have hXr : X ≠ r := fun e => by have := H.out.blk.lt; omega
  have hs1 := o1.size
  have hlt1 : r < W1.heap.size ∧ X < W1.heap.size := ⟨b1.lt, c1.lt⟩
  obtain ⟨D, hD⟩ : ∃ D, D = (xAt cs n).did := ⟨_, rfl⟩
  have hD9 : D ≤ 9 := by rw [hD]; exact hdid
  have HD := hid hD
  have O1 := hid o1
  have B1 := hid b1
  have C1 := hid c1
  have M1 := hid m1
  have S1 := hid s1
  have XF := hid hXf
  have HX := hid hX
  have HLT := hid hlt1
  clear o1 b1 c1 m1 s1 hXf hX hW1 hs1 hlt1 hD u1z u2z ufz a0z a1z a2z u1y u2y ufy b0y b1y b2y u1v u2v ufv
  go_loopw [5] (fun i wr => ∃ (k : Nat) (M2 : MemS), k ≤ D ∧ i = .int .i64 k ∧ Hid (Mems wr m B M2 (K + k)) ∧ Hid (Went m B W1 M wr M2 k) ∧ Hid (k = 0 → M2 = M)) (fun i _ => (D - (intOf i).toNat))
  case atStart => exact ⟨0, M, by omega, rfl, M1.out, Went.refl _ _ _ _, fun _ => rfl⟩
  case round =>
    obtain ⟨k, M2, hk, rfl, hMs, hWt, hZe⟩ := hrel
    have b2 := hWt.out.blk B1.out H.out.far
    have c2 := hWt.out.blk C1.out XF.out
    have y0 : wr.cell? ⟨X, 0, none⟩ = some (.int .i64 (D : Int)) := by rw [HD.out]; exact c2.cell 0
    have z0 : wr.cell? ⟨r, 0, none⟩ = some (ptrV m) := b2.cell 0
    have z2 : wr.cell? ⟨r, 2, none⟩ = some (.int .i64 ((n : Int) + 1)) := b2.cell 2
    have zd0 : wr.drew.cell? ⟨r, 0, none⟩ = some (ptrV m) := z0
    have zd2 : wr.drew.cell? ⟨r, 2, none⟩ = some (.int .i64 ((n : Int) + 1)) := z2
    have j1 : (0 : Int) ≤ (k : Int) := by omega
    by_cases hlt : k < D
    · have j2 : (k : Int) < (D : Int) := by omega
      have hc4 : k % 4 = 0 ∨ k % 4 = 1 ∨ k % 4 = 2 ∨ k % 4 = 3 := by omega
      clear b2 c2
      rcases hc4 with hc | hc | hc | hc
      · have j3 : (k : Int) % 4 = 0 := by omega
        clear hc
        go_wp2_with fail
        refine (Load_p m B M2 (K + k) _ hMs.out).mono ?_
        rintro e w2 ⟨⟨v, rfl⟩, M3, h3, h4⟩
        have H3 := hid h3
        have H4 := hid (hWt.out.trans h4)
        clear h3 h4 hMs hWt y0 z0 z2 zd0 zd2
        go_wp2
        go_roundw
        case rel => exact ⟨k + 1, M3, by omega, by go_num, H3.out, H4.out, fun h => by omega⟩
        case measure => simp [intOf]; omega
      · have j3 : (k : Int) % 4 = 1 := by omega
        clear hc
        have HS := hid (Store_p m B M2 (K + k) ((n : Int) + 1) _ (hMs.out.only (Only.refl [] wr).drew (fun _ _ h => by cases h)) (by omega))
        have hwr : IntKind.u64.wrap ((n : Int) + 1) = (n : Int) + 1 := IntWalk.u64_in _ (by omega)
        go_wp2_with fail
        go_region_with (first | (go_at_call 112; refine HS.out.mono ?_; rintro e w2 ⟨⟨v, rfl⟩, M3, h3, h4⟩; have H3 := hid h3; have H4 := hid (hWt.out.trans h4.undrew); clear h3 h4))
        all_goals
          try go_simp
          try simp only [Act.put, List.setIfInBounds_toArray, List.set_cons_zero, List.set_cons_succ]
          clear hMs hWt y0 z0 z2 zd0 zd2
          go_wp2
          go_roundw
          case rel => exact ⟨k + 1, M3, by omega, by go_num, H3.out, H4.out, fun h => by omega⟩
          case measure => simp [intOf]; omega
      · have j3 : (k : Int) % 4 = 2 := by omega
        clear hc
        go_wp2_with fail
        refine (Flush_p m B M2 (K + k) _ hMs.out (by omega)).mono ?_
        rintro e w2 ⟨⟨v, rfl⟩, M3, h3, h4⟩
        have H3 := hid h3
        have H4 := hid (hWt.out.trans h4)
        clear h3 h4 hMs hWt y0 z0 z2 zd0 zd2
        go_wp2
        go_roundw
        case rel => exact ⟨k + 1, M3, by omega, by go_num, H3.out, H4.out, fun h => by omega⟩
        case measure => simp [intOf]; omega
      · have j3 : (k : Int) % 4 = 3 := by omega
        clear hc
        go_wp2_with fail
        refine (Fence_p m B M2 (K + k) _ hMs.out (by omega)).mono ?_
        rintro e w2 ⟨⟨v, rfl⟩, M3, h3, h4⟩
        have H3 := hid h3
        have H4 := hid (hWt.out.trans h4)
        clear h3 h4 hMs hWt y0 z0 z2 zd0 zd2
        go_wp2
        go_roundw
        case rel => exact ⟨k + 1, M3, by omega, by go_num, H3.out, H4.out, fun h => by omega⟩
        case measure => simp [intOf]; omega
    · obtain rfl : k = D := by omega
      have hf : SwPost w r m B M K l cs lb n (.returned (.tuple #[.bool (xAt cs n).done, .int .i64 (xAt cs n).bad])) wr.drew := by
        refine ⟨rfl, M2, ⟨b2.drew, ?_, ?_, hWt.out.far HLT.out.1 H.out.far, ?_, H.out.lr, ?_⟩, ?_, ?_, ?_, fun h => hZe.out (HD.out.trans h)⟩
        · rw [← HD.out]; exact hMs.out.only (Only.refl [] wr).drew (fun _ _ h => by cases h)
        · exact (S1.out.only hWt.out.only H.out.lfar).only (Only.refl [] wr).drew (by simp)
        · exact hWt.out.far (Nat.lt_of_lt_of_le H.out.lt O1.out.size) H.out.lfar
        · exact Nat.lt_of_lt_of_le H.out.lt (Nat.le_trans O1.out.size hWt.out.only.size)
        · exact ((O1.out.mono (fun x hx => by simp at hx; simp [hx])).trans hWt.out.only (fun x hx => Or.inl (by simp [hx]))).drew
        · exact fun k hk => by
            rcases hWt.out.foot k hk with h | h
            · exact Or.inl h
            · exact Or.inr (Nat.le_trans O1.out.size h)
        · have := hWt.out.tot
          rw [← HD.out]; exact this
      have HF := hid hf
      have y1 : wr.drew.cell? ⟨X, 1, none⟩ = some (.bool (xAt cs n).done) := c2.drew.cell 1
      have y2 : wr.drew.cell? ⟨X, 2, none⟩ = some (.int .i64 (xAt cs n).bad) := c2.drew.cell 2
      clear hf b2 c2 hMs hWt hk hlt
      go_wp2
      go_region
      all_goals
        try simp only [Act.put, List.setIfInBounds_toArray, List.set_cons_zero, List.set_cons_succ]
        go_wp2
        go_ret2
        exact HF.out

set_option maxRecDepth 100000 in
set_option maxHeartbeats 4000000 in
theorem step_past (r m : Nat) (B : MB) (M : MemS) (K : Nat) (l : Value) (cs : List StepT) (lb n : Nat) (hlen : cs.length ≤ 1000) (hlt : cs.length ≤ n) (hpos : 0 < cs.length) (hn : n ≤ 1000) (hK : K ≤ 1000000) (hdid : (xAt cs n).did ≤ 9) (w : World) (h : RunOK w r m B M K l cs lb n) :
    Calls Tryz.prog 82 #[.pointer (some ⟨r, 0, none⟩)] w (SwPost w r m B M K l cs lb n) := by
  obtain ⟨ao, cap, hl, hc⟩ := id h.steps
  obtain ⟨off, rfl, hlw, hcell⟩ : ∃ off, ao = some ⟨lb, off, none⟩ ∧ lb < w.heap.size ∧ ∀ i (h : i < cs.length) j, j < 3 → w.cell? ⟨lb, off + i * 3 + j, none⟩ = (stepC cs[i])[j]? := by
    rcases hc with hc | hc
    · rw [hc] at hpos; simp at hpos
    · exact hc
  obtain ⟨N, hN⟩ : ∃ N, N = cs.length := ⟨_, rfl⟩
  obtain ⟨q, hq⟩ : ∃ q, N = q + 1 := ⟨N - 1, by omega⟩
  obtain ⟨a, ha⟩ : ∃ a, a = cs[q]'(by omega) := ⟨_, rfl⟩
  have XA : xAt cs n = a := by unfold xAt; rw [List.getElem?_eq_none hlt]; simp only [List.getLast?_eq_getElem?, show cs.length - 1 = q by omega, List.getElem?_eq_getElem (show q < cs.length by omega), Option.getD_some, ha]
  have hca := hcell q (by omega)
  rw [← ha] at hca
  have hl0 : l = .slice (some ⟨lb, off, none⟩) (q + 1) cap := by rw [hl, ← hN, hq]
  have HXA := hid XA
  have H := hid h
  have hbz := h.blk.alloc (.cells #[.int .i64 0, .bool false, .int .i64 0] 145)
  have u1z : (w.alloc (.cells #[.int .i64 0, .bool false, .int .i64 0] 145)).cell? ⟨r, 1, none⟩ = some (.slice (some ⟨lb, off, none⟩) (q + 1) cap) := by rw [← hl0]; exact hbz.cell 1
  have u2z : (w.alloc (.cells #[.int .i64 0, .bool false, .int .i64 0] 145)).cell? ⟨r, 2, none⟩ = some (.int .i64 (n : Int)) := hbz.cell 2
  have ufz := hbz.frozen 2
  have a0z : (w.alloc (.cells #[.int .i64 0, .bool false, .int .i64 0] 145)).cell? ⟨lb, off + q * 3, none⟩ = some (.int .i64 (a.did : Int)) := (ca _ (hca 0 (by omega)))
  have a1z : (w.alloc (.cells #[.int .i64 0, .bool false, .int .i64 0] 145)).cell? ⟨lb, off + q * 3 + 1, none⟩ = some (.bool a.done) := (ca _ (hca 1 (by omega)))
  have a2z : (w.alloc (.cells #[.int .i64 0, .bool false, .int .i64 0] 145)).cell? ⟨lb, off + q * 3 + 2, none⟩ = some (.int .i64 a.bad) := (ca _ (hca 2 (by omega)))
  have hby := h.blk.alloc (.cells #[.int .i64 (a.did : Int), .bool a.done, .int .i64 a.bad] 145)
  have u1y : (w.alloc (.cells #[.int .i64 (a.did : Int), .bool a.done, .int .i64 a.bad] 145)).cell? ⟨r, 1, none⟩ = some (.slice (some ⟨lb, off, none⟩) (q + 1) cap) := by rw [← hl0]; exact hby.cell 1
  have u2y : (w.alloc (.cells #[.int .i64 (a.did : Int), .bool a.done, .int .i64 a.bad] 145)).cell? ⟨r, 2, none⟩ = some (.int .i64 (n : Int)) := hby.cell 2
  have ufy := hby.frozen 2
  have i1 : (0 : Int) ≤ (n : Int) := by omega
  have i2 : ¬ (n : Int) < (q : Int) + 1 := by omega
  have i3 : (0 : Int) ≤ (q : Int) := by omega
  have i4 : (q : Int) < (q : Int) + 1 := by omega
  have i5 : (0 : Int) < (q : Int) + 1 := by omega
  have i6 : q ≤ 1000 := by omega
  have hrw : r ≠ w.heap.size := fun e => by have := h.blk.lt; omega
  have hlbw : lb ≠ w.heap.size := fun e => by omega
  have hlr : lb ≠ r := h.lr
  clear h hl hl0 hc hcell hca XA hN hq ha hbz hby
  go_enter Tryz.func82, Tryz.ntmps82
  go_wp2
  go_region
  go_wp2
  go_region
  go_wp2
  obtain ⟨W1, hW1⟩ : ∃ W1, W1 = ((w.alloc (.cells #[.int .i64 (a.did : Int), .bool a.done, .int .i64 a.bad] 145)).setCell ⟨r, 2, none⟩ (.int .i64 ((n : Int) + 1))).drew.drew := ⟨_, rfl⟩
  rw [← hW1]
  obtain ⟨X, hX⟩ : ∃ X, X = w.heap.size := ⟨_, rfl⟩
  rw [← hX]
  have o1 : Only [r] w W1 := by rw [hW1]; exact (((Only.refl _ w).alloc _).setCell (Or.inl (by simp)) _).drew.drew
  have b1 : Blk W1 r 149 (runC m l (n + 1)) := by rw [hW1]; exact ((H.out.blk.alloc _).set_ 2 _).drew.drew
  have c1 : Blk W1 X 145 (stepC (xAt cs n)).toArray := by rw [hW1, hX, HXA.out]; exact ((Blk.new w _ _).far (by exact fun e => hrw e.symm) _).drew.drew
  have m1 : Mems W1 m B M K := H.out.mem.only o1 (fun k hk hm => H.out.far (by simp at hm; rw [← hm]; exact hk))
  have s1 := H.out.steps.only o1 (by simpa using H.out.lr)
  have hXf : X ∉ footM m B M := fun hc => by have := H.out.mem.is.foot_lt X hc; omega
  have hXr : X ≠ r := fun e => by have := H.out.blk.lt; omega
  have hs1 := o1.size
  have hlt1 : r < W1.heap.size ∧ X < W1.heap.size := ⟨b1.lt, c1.lt⟩
  obtain ⟨D, hD⟩ : ∃ D, D = (xAt cs n).did := ⟨_, rfl⟩
  have hD9 : D ≤ 9 := by rw [hD]; exact hdid
  have HD := hid hD
  have O1 := hid o1
  have B1 := hid b1
  have C1 := hid c1
  have M1 := hid m1
  have S1 := hid s1
  have XF := hid hXf
  have HX := hid hX
  have HLT := hid hlt1
  clear o1 b1 c1 m1 s1 hXf hX hW1 hs1 hlt1 hD u1z u2z ufz a0z a1z a2z u1y u2y ufy
  go_loopw [5] (fun i wr => ∃ (k : Nat) (M2 : MemS), k ≤ D ∧ i = .int .i64 k ∧ Hid (Mems wr m B M2 (K + k)) ∧ Hid (Went m B W1 M wr M2 k) ∧ Hid (k = 0 → M2 = M)) (fun i _ => (D - (intOf i).toNat))
  case atStart => exact ⟨0, M, by omega, rfl, M1.out, Went.refl _ _ _ _, fun _ => rfl⟩
  case round =>
    obtain ⟨k, M2, hk, rfl, hMs, hWt, hZe⟩ := hrel
    have b2 := hWt.out.blk B1.out H.out.far
    have c2 := hWt.out.blk C1.out XF.out
    have y0 : wr.cell? ⟨X, 0, none⟩ = some (.int .i64 (D : Int)) := by rw [HD.out]; exact c2.cell 0
    have z0 : wr.cell? ⟨r, 0, none⟩ = some (ptrV m) := b2.cell 0
    have z2 : wr.cell? ⟨r, 2, none⟩ = some (.int .i64 ((n : Int) + 1)) := b2.cell 2
    have zd0 : wr.drew.cell? ⟨r, 0, none⟩ = some (ptrV m) := z0
    have zd2 : wr.drew.cell? ⟨r, 2, none⟩ = some (.int .i64 ((n : Int) + 1)) := z2
    have j1 : (0 : Int) ≤ (k : Int) := by omega
    by_cases hlt : k < D
    · have j2 : (k : Int) < (D : Int) := by omega
      have hc4 : k % 4 = 0 ∨ k % 4 = 1 ∨ k % 4 = 2 ∨ k % 4 = 3 := by omega
      clear b2 c2
      rcases hc4 with hc | hc | hc | hc
      · have j3 : (k : Int) % 4 = 0 := by omega
        clear hc
        go_wp2_with fail
        refine (Load_p m B M2 (K + k) _ hMs.out).mono ?_
        rintro e w2 ⟨⟨v, rfl⟩, M3, h3, h4⟩
        have H3 := hid h3
        have H4 := hid (hWt.out.trans h4)
        clear h3 h4 hMs hWt y0 z0 z2 zd0 zd2
        go_wp2
        go_roundw
        case rel => exact ⟨k + 1, M3, by omega, by go_num, H3.out, H4.out, fun h => by omega⟩
        case measure => simp [intOf]; omega
      · have j3 : (k : Int) % 4 = 1 := by omega
        clear hc
        have HS := hid (Store_p m B M2 (K + k) ((n : Int) + 1) _ (hMs.out.only (Only.refl [] wr).drew (fun _ _ h => by cases h)) (by omega))
        have hwr : IntKind.u64.wrap ((n : Int) + 1) = (n : Int) + 1 := IntWalk.u64_in _ (by omega)
        go_wp2_with fail
        go_region_with (first | (go_at_call 112; refine HS.out.mono ?_; rintro e w2 ⟨⟨v, rfl⟩, M3, h3, h4⟩; have H3 := hid h3; have H4 := hid (hWt.out.trans h4.undrew); clear h3 h4))
        all_goals
          try go_simp
          try simp only [Act.put, List.setIfInBounds_toArray, List.set_cons_zero, List.set_cons_succ]
          clear hMs hWt y0 z0 z2 zd0 zd2
          go_wp2
          go_roundw
          case rel => exact ⟨k + 1, M3, by omega, by go_num, H3.out, H4.out, fun h => by omega⟩
          case measure => simp [intOf]; omega
      · have j3 : (k : Int) % 4 = 2 := by omega
        clear hc
        go_wp2_with fail
        refine (Flush_p m B M2 (K + k) _ hMs.out (by omega)).mono ?_
        rintro e w2 ⟨⟨v, rfl⟩, M3, h3, h4⟩
        have H3 := hid h3
        have H4 := hid (hWt.out.trans h4)
        clear h3 h4 hMs hWt y0 z0 z2 zd0 zd2
        go_wp2
        go_roundw
        case rel => exact ⟨k + 1, M3, by omega, by go_num, H3.out, H4.out, fun h => by omega⟩
        case measure => simp [intOf]; omega
      · have j3 : (k : Int) % 4 = 3 := by omega
        clear hc
        go_wp2_with fail
        refine (Fence_p m B M2 (K + k) _ hMs.out (by omega)).mono ?_
        rintro e w2 ⟨⟨v, rfl⟩, M3, h3, h4⟩
        have H3 := hid h3
        have H4 := hid (hWt.out.trans h4)
        clear h3 h4 hMs hWt y0 z0 z2 zd0 zd2
        go_wp2
        go_roundw
        case rel => exact ⟨k + 1, M3, by omega, by go_num, H3.out, H4.out, fun h => by omega⟩
        case measure => simp [intOf]; omega
    · obtain rfl : k = D := by omega
      have hf : SwPost w r m B M K l cs lb n (.returned (.tuple #[.bool (xAt cs n).done, .int .i64 (xAt cs n).bad])) wr.drew := by
        refine ⟨rfl, M2, ⟨b2.drew, ?_, ?_, hWt.out.far HLT.out.1 H.out.far, ?_, H.out.lr, ?_⟩, ?_, ?_, ?_, fun h => hZe.out (HD.out.trans h)⟩
        · rw [← HD.out]; exact hMs.out.only (Only.refl [] wr).drew (fun _ _ h => by cases h)
        · exact (S1.out.only hWt.out.only H.out.lfar).only (Only.refl [] wr).drew (by simp)
        · exact hWt.out.far (Nat.lt_of_lt_of_le H.out.lt O1.out.size) H.out.lfar
        · exact Nat.lt_of_lt_of_le H.out.lt (Nat.le_trans O1.out.size hWt.out.only.size)
        · exact ((O1.out.mono (fun x hx => by simp at hx; simp [hx])).trans hWt.out.only (fun x hx => Or.inl (by simp [hx]))).drew
        · exact fun k hk => by
            rcases hWt.out.foot k hk with h | h
            · exact Or.inl h
            · exact Or.inr (Nat.le_trans O1.out.size h)
        · have := hWt.out.tot
          rw [← HD.out]; exact this
      have HF := hid hf
      have y1 : wr.drew.cell? ⟨X, 1, none⟩ = some (.bool (xAt cs n).done) := c2.drew.cell 1
      have y2 : wr.drew.cell? ⟨X, 2, none⟩ = some (.int .i64 (xAt cs n).bad) := c2.drew.cell 2
      clear hf b2 c2 hMs hWt hk hlt
      go_wp2
      go_region
      all_goals
        try simp only [Act.put, List.setIfInBounds_toArray, List.set_cons_zero, List.set_cons_succ]
        go_wp2
        go_ret2
        exact HF.out

theorem step_z (r m : Nat) (B : MB) (M : MemS) (K : Nat) (l : Value) (cs : List StepT) (lb n : Nat) (hlen : cs.length ≤ 1000) (hn : n ≤ 1000) (hK : K ≤ 1000000) (hdid : (xAt cs n).did ≤ 9) (w : World) (h : RunOK w r m B M K l cs lb n) :
    Calls Tryz.prog 82 #[.pointer (some ⟨r, 0, none⟩)] w (SwPost w r m B M K l cs lb n) := by
  by_cases h0 : cs = []
  · exact step_none r m B M K l cs lb n h0 hn hK hdid w h
  · have hp : 0 < cs.length := Nat.pos_of_ne_zero (fun e => h0 (List.eq_nil_of_length_eq_zero e))
    by_cases hlt : n < cs.length
    · exact step_some r m B M K l cs lb n hlen hlt hn hK hdid w h
    · exact step_past r m B M K l cs lb n hlen (by omega) hp hn hK hdid w h

end Go.Proofs.YtbkaemajjaiklaaGreat

/- A memory's primitives counted. -/
namespace Go.Proofs.YtbkaemajjaiklaaGreat
open Go.RowKit
set_option linter.unusedVariables false
set_option linter.unusedSimpArgs false

def cntC (m : Nat) (z : Int) : Array Value := #[ptrV m, .int .u64 z]
set_option maxRecDepth 100000 in
set_option maxHeartbeats 1000000 in
theorem did_z (c m : Nat) (B : MB) (M : MemS) (z : Int) (hz : 0 ≤ z ∧ z < 18446744073709551616) (w : World) (hc : Blk w c 158 (cntC m z)) (h : MemIs w m B M) :
    Calls Tryz.prog 88 #[.pointer (some ⟨c, 0, none⟩)] w fun e w' => e = .returned (.int .u64 ((tot M - z) % 18446744073709551616)) ∧ Blk w' c 158 (cntC m (tot M % 18446744073709551616)) ∧ Only [c] w w' := by
  have x0 : w.cell? ⟨c, 0, none⟩ = some (ptrV m) := hc.cell 0
  have H := hid h
  have HC := hid hc
  have HT : tot M = M.st.a + M.st.b + M.st.c + M.st.d := rfl
  have HTT := hid HT
  have HZ := hid hz
  clear h hc HT hz
  go_enter Tryz.func88, Tryz.ntmps88
  go_wp2_with fail
  refine (Stats_m m B M.view.length M.st H.out.pos _ H.out.blk).mono ?_
  rintro e w1 ⟨rfl, hb⟩
  have c1 := HC.out.bel hb
  have y0 : (w1.alloc (.cells #[.int .u64 M.st.a, .int .u64 M.st.b, .int .u64 M.st.c, .int .u64 M.st.d] 131)).cell? ⟨c, 1, none⟩ = some (.int .u64 z) := (c1.alloc _).cell 1
  have y1 := (c1.alloc (.cells #[.int .u64 M.st.a, .int .u64 M.st.b, .int .u64 M.st.c, .int .u64 M.st.d] 131)).frozen 1
  have hne : c ≠ w1.heap.size := fun e => by have := c1.lt; omega
  have HB := hid hb
  have C1 := hid c1
  clear hb c1
  go_wp2
  go_ret
  have hw : ∀ x, IntKind.u64.wrap x = x % 18446744073709551616 := fun x => rfl
  have e1 : IntKind.u64.wrap (IntKind.u64.wrap (IntKind.u64.wrap (IntKind.u64.wrap (M.st.a + M.st.b) + M.st.c) + M.st.d) - z) = (tot M - z) % 18446744073709551616 := by
    rw [HTT.out]; simp only [hw]; omega
  have e2 : IntKind.u64.wrap (IntKind.u64.wrap (IntKind.u64.wrap (M.st.a + M.st.b) + M.st.c) + M.st.d) = tot M % 18446744073709551616 := by
    rw [HTT.out]; simp only [hw]; omega
  refine ⟨congrArg (fun x => Ending.returned (Value.int .u64 x)) e1, ?_, ?_⟩
  · have := (C1.out.alloc (.cells #[.int .u64 M.st.a, .int .u64 M.st.b, .int .u64 M.st.c, .int .u64 M.st.d] 131)).set_ 1 (.int .u64 (IntKind.u64.wrap (IntKind.u64.wrap (IntKind.u64.wrap (M.st.a + M.st.b) + M.st.c) + M.st.d)))
    rw [e2] at this ⊢
    exact this
  · exact (((Only.of_below HB.out [c]).alloc _).setCell (Or.inl (by simp)) _)

/-! ### what Whole comes to -/
def wgo (cs : List StepT) : Nat → Nat → Bool → Nat × Bool × Int
  | 0, i, odd => (i, odd, 10)
  | f + 1, i, odd =>
    let x := xAt cs i
    let o := odd || decide (x.did > 1)
    if x.bad ≠ 0 then (i + 1, o, x.bad) else if x.done then (i + 1, o, 0) else wgo cs f (i + 1) o
def wholeS (cs : List StepT) (most : Int) : Nat × Bool × Int := wgo cs most.toNat 0 false
theorem eqFuncNil (r : Nat) (w : World) : (binOp .eql 83 (.func (.func 82) #[.pointer (some ⟨r, 0, none⟩)] #[]) .nilFunc).run Tryz.prog w = .ok (.bool false) w := by kernel_rfl

set_option maxRecDepth 100000 in
set_option maxHeartbeats 2000000 in
theorem Whole_z (r m : Nat) (B : MB) (M : MemS) (K : Nat) (l : Value) (cs : List StepT) (lb : Nat) (most : Int) (hmost : most ≤ 300) (hlen : cs.length ≤ 1000) (hK : K ≤ 100000) (hdid : ∀ i, (xAt cs i).did ≤ 9) (w : World) (h : RunOK w r m B M K l cs lb 0) :
    Calls Tryz.prog 37 #[ptrV m, .func (.func 82) #[.pointer (some ⟨r, 0, none⟩)] #[], .int .i64 most] w fun e w' =>
      e = .returned (.tuple #[.int .i64 ((wholeS cs most).1 : Int), .bool (wholeS cs most).2.1, .int .i64 (wholeS cs most).2.2]) ∧ ∃ M' K', K' ≤ K + 3000 ∧ RunOK w' r m B M' K' l cs lb (wholeS cs most).1 ∧ Only (r :: footM m B M) w w' ∧ (∀ k ∈ footM m B M', k ∈ footM m B M ∨ w.heap.size ≤ k) ∧ ((∀ i, (xAt cs i).did = 0) → M' = M) := by
  have hsz : 0 < M.view.length := h.mem.is.pos
  have hs1 : ((8 * M.view.length : Nat) : Int) ≠ 0 := by omega
  have hs2 : (((8 * M.view.length : Nat) : Int) == 0) = false := by simpa using hs1
  obtain ⟨vl, hvl⟩ : ∃ vl, vl = ((8 * M.view.length : Nat) : Int) := ⟨_, rfl⟩
  rw [← hvl] at hs1 hs2
  have HVL := hid hvl
  have H := hid h
  have hfn := eqFuncNil r w
  have HD := hid hdid
  clear h hvl hdid hsz
  go_enter Tryz.func37, Tryz.ntmps37
  go_wp2
  go_step3
  go_wp2_with fail
  refine (Size_m m B M.view.length M.st H.out.mem.is.pos H.out.mem.is.big _ H.out.mem.is.blk).mono ?_
  rintro e w1 ⟨rfl, rfl⟩
  rw [← HVL.out]
  go_wp2_with fail
  have hcf : w.heap.size ∉ footM m B M := fun hc => by have := H.out.mem.is.foot_lt _ hc; omega
  have hcr : w.heap.size ≠ r ∧ w.heap.size ≠ lb := by have h1 := H.out.blk.lt; have h2 := H.out.lt; omega
  have HCF := hid hcf
  have HCR := hid hcr
  have hA : RunOK (w.alloc (.cells #[ptrV m, .int .u64 0] 158)) r m B M K l cs lb 0 := by
    have ho : Only [] w (w.alloc (.cells #[ptrV m, .int .u64 0] 158)) := (Only.refl _ _).alloc _
    exact ⟨H.out.blk.alloc _, H.out.mem.only ho (fun _ _ h => by cases h), H.out.steps.only ho (by simp), H.out.far, H.out.lfar, H.out.lr, Nat.lt_of_lt_of_le H.out.lt ho.size⟩
  have HA := hid hA
  clear hcf hcr hA
  refine (did_z w.heap.size m B M 0 (by omega) _ (Blk.new w 158 (cntC m 0)) HA.out.mem.is).mono ?_
  rintro e w2 ⟨rfl, hc2, ho2⟩
  have hR2 : RunOK w2 r m B M K l cs lb 0 := ⟨ho2.blk HA.out.blk (by simpa using HCR.out.1.symm), HA.out.mem.only ho2 (fun k hk hm => HCF.out (by simp at hm; rw [← hm]; exact hk)), HA.out.steps.only ho2 (by simpa using HCR.out.2.symm), HA.out.far, HA.out.lfar, HA.out.lr, Nat.lt_of_lt_of_le HA.out.lt ho2.size⟩
  obtain ⟨c, hcc⟩ : ∃ c, c = w.heap.size := ⟨_, rfl⟩
  have hO2 : Only (r :: footM m B M) w w2 := (((Only.refl (r :: footM m B M) w).alloc _).trans ho2 (fun x hx => Or.inr (by simp at hx; subst hx; exact Nat.le_refl _)))
  rw [← hcc] at hc2 HCF HCR ⊢
  have HCE := hid hcc
  have HC2 := hid hc2
  have HR2 := hid hR2
  have HO2 := hid hO2
  have HW2 : Hid (c < w2.heap.size) := hc2.lt
  clear hc2 hR2 hO2 ho2 hcc
  obtain ⟨mt, hmt⟩ : ∃ mt, mt = most.toNat := ⟨_, rfl⟩
  have HMT := hid hmt
  clear hmt
  go_wp2
  go_step3
  go_wp2
  go_loopw [6, 7, 8] (fun i o er wr => ∃ (k : Nat) (od : Bool) (M2 : MemS) (K2 : Nat) (z : Int), k ≤ mt ∧ i = .int .i64 k ∧ o = .bool od ∧ er = .int .i64 0 ∧ K2 ≤ K + 9 * k ∧ Hid (RunOK wr r m B M2 K2 l cs lb k) ∧ Hid (Blk wr c 158 (cntC m z)) ∧ Hid (0 ≤ z ∧ z < 18446744073709551616 ∧ (od = false → z = tot M2 % 18446744073709551616)) ∧ Hid (Only (r :: footM m B M) w wr) ∧ Hid ((∀ x ∈ footM m B M2, x ∈ footM m B M ∨ w.heap.size ≤ x) ∧ c ∉ footM m B M2) ∧ Hid (wgo cs (mt - k) k od = wgo cs mt 0 false) ∧ Hid ((∀ i, (xAt cs i).did = 0) → M2 = M)) (fun i _ _ _ => (mt - (intOf i).toNat))
  case atStart =>
    exact ⟨0, false, M, K, _, by omega, rfl, rfl, rfl, by omega, HR2.out, HC2.out, ⟨by omega, by omega, fun _ => rfl⟩, HO2.out, ⟨fun x hx => Or.inl hx, HCF.out⟩, rfl, fun _ => rfl⟩
  case round =>
    obtain ⟨k, od, M2, K2, z, hk, rfl, rfl, rfl, hK2, hR, hC, hZ, hO, hF, hW, hE⟩ := hrel
    have i1 : (0 : Int) ≤ (k : Int) := by omega
    by_cases hlt : k < mt
    · have i2 : (k : Int) < most := by have := HMT.out; omega
      go_wp2_with fail
      refine (step_z r m B M2 K2 l cs lb k hlen (by have := HMT.out; omega) (by have := HMT.out; omega) (HD.out k) _ hR.out).mono ?_
      rintro e w3 ⟨rfl, M3, hR3, hO3, hF3, hT3, hE3⟩
      have HE3 := hid (show (∀ i, (xAt cs i).did = 0) → M3 = M from fun h => (hE3 (h k)).trans (hE.out h))
      clear hE3
      have hc3 : Blk w3 c 158 (cntC m z) := hO3.blk hC.out (by
        simp only [List.mem_cons, not_or]
        exact ⟨HCR.out.1, hF.out.2⟩)
      have HX3 := hid (⟨hR3, hO3, hF3, hT3, hc3⟩ : _ ∧ _ ∧ _ ∧ _ ∧ _)
      clear hR3 hO3 hF3 hT3 hc3
      obtain ⟨x, hx⟩ : ∃ x, x = xAt cs k := ⟨_, rfl⟩
      rw [← hx] at HX3 ⊢
      have HX := hid hx
      clear hx
      have HF3 : Hid ((∀ y ∈ footM m B M3, y ∈ footM m B M ∨ w.heap.size ≤ y) ∧ c ∉ footM m B M3) := by
        refine ⟨fun y hy => ?_, fun hc => ?_⟩
        · rcases HX3.out.2.2.1 y hy with h | h
          · exact hF.out.1 y h
          · exact Or.inr (Nat.le_trans hO.out.size h)
        · rcases HX3.out.2.2.1 c hc with h | h
          · exact hF.out.2 h
          · have := hC.out.lt
            omega
      have HO3 : Hid (Only (r :: footM m B M) w w3) := hO.out.trans HX3.out.2.1 (fun y hy => by
        rcases List.mem_cons.1 hy with h | h
        · exact Or.inl (by simp [h])
        · rcases hF.out.1 y h with h | h
          · exact Or.inl (List.mem_cons_of_mem _ h)
          · exact Or.inr h)
      have HC4 : Hid (w.heap.size ≤ c) := by rw [HCE.out]; exact Nat.le_refl _
      cases od
      · go_wp2_with fail
        refine (did_z c m B M3 z (by have := hZ.out; omega) _ HX3.out.2.2.2.2 HX3.out.1.mem.is).mono ?_
        rintro e w4 ⟨rfl, hc4, ho4⟩
        have hdd : (tot M3 - z) % 18446744073709551616 = (x.did : Int) := by
          have h1 := hZ.out.2.2 (by first | rfl | trivial)
          have h2 := HX3.out.2.2.2.1
          have h3 := HD.out k
          rw [← HX.out] at h3
          omega
        rw [hdd]
        have HR4 : Hid (RunOK w4 r m B M3 (K2 + x.did) l cs lb (k + 1)) := by
          have h := HX3.out.1
          exact ⟨ho4.blk h.blk (by simpa using HCR.out.1.symm), h.mem.only ho4 (fun y hy hm => HF3.out.2 (by simp at hm; rw [← hm]; exact hy)), h.steps.only ho4 (by simpa using HCR.out.2.symm), h.far, h.lfar, h.lr, Nat.lt_of_lt_of_le h.lt ho4.size⟩
        have HO4 : Hid (Only (r :: footM m B M) w w4) := HO3.out.trans ho4 (fun y hy => Or.inr (by simp at hy; subst hy; exact HC4.out))
        have HCC := hid hc4
        have HT4 : Hid (0 ≤ tot M3 % 18446744073709551616 ∧ tot M3 % 18446744073709551616 < 18446744073709551616) := by constructor <;> omega
        clear hdd hc4 ho4
        by_cases h1 : (x.did : Int) > 1
        · by_cases hbad : x.bad = 0
          · have hbe : (x.bad != 0) = false := by simpa using hbad
            cases hdone : x.done
            · have HW4 : Hid (wgo cs (mt - (k + 1)) (k + 1) true = wgo cs mt 0 false) := by
                rw [← hW.out, show mt - k = (mt - (k + 1)) + 1 by omega]
                simp only [wgo]
                rw [← HX.out, if_neg (by simpa using hbad), hdone]
                simp only [Bool.false_eq_true, if_false]
                congr 1
                simp; omega
              clear hR hC hZ hO hF hW
              go_wp2
              go_roundw
              case rel => exact ⟨k + 1, true, M3, K2 + x.did, tot M3 % 18446744073709551616, by omega, by go_num, (by first | rfl | (simp; omega) | simp), rfl, by have := HD.out k; rw [← HX.out] at this; omega, HR4.out, HCC.out, ⟨HT4.out.1, HT4.out.2, fun _ => rfl⟩, HO4.out, HF3.out, HW4, HE3⟩
              case measure => simp [intOf]; omega
            · have HW4 : Hid (wholeS cs most = (k + 1, true, 0)) := by
                show wgo cs most.toNat 0 false = _
                rw [← HMT.out, ← hW.out, show mt - k = (mt - (k + 1)) + 1 by omega]
                simp only [wgo]
                rw [← HX.out, if_neg (by simpa using hbad), hdone]
                simp only [if_true]
                congr 2
                simp; omega
              clear hR hC hZ hO hF hW
              go_wp2
              try rw [Exit.noGoto_ret]
              refine bodyPost_ret (v := .tuple #[.int .i64 ((k : Int) + 1), .bool true, .int .i64 0]) (by simp [results, Tryz.results37, go_sem, *]) rfl ?_
              rw [HW4.out]
              exact ⟨rfl, M3, K2 + x.did, (by have h1 := HD.out k; rw [← HX.out] at h1; have h2 := HMT.out; omega), HR4.out, HO4.out, HF3.out.1, HE3.out⟩
          · have hbe : (x.bad != 0) = true := by simpa using hbad
            have HW4 : Hid (wholeS cs most = (k + 1, true, x.bad)) := by
              show wgo cs most.toNat 0 false = _
              rw [← HMT.out, ← hW.out, show mt - k = (mt - (k + 1)) + 1 by omega]
              simp only [wgo]
              rw [← HX.out, if_pos (by simpa using hbad)]
              congr 2
              simp; omega
            have hbe2 : (x.bad == 0) = false := by simpa using hbad
            clear hR hC hZ hO hF hW
            go_wp2
            try rw [Exit.noGoto_ret]
            refine bodyPost_ret (v := .tuple #[.int .i64 ((k : Int) + 1), .bool true, .int .i64 x.bad]) (by simp [results, Tryz.results37, go_sem, *]) rfl ?_
            rw [HW4.out]
            exact ⟨rfl, M3, K2 + x.did, (by have h1 := HD.out k; rw [← HX.out] at h1; have h2 := HMT.out; omega), HR4.out, HO4.out, HF3.out.1, HE3.out⟩
        · by_cases hbad : x.bad = 0
          · have hbe : (x.bad != 0) = false := by simpa using hbad
            cases hdone : x.done
            · have HW4 : Hid (wgo cs (mt - (k + 1)) (k + 1) false = wgo cs mt 0 false) := by
                rw [← hW.out, show mt - k = (mt - (k + 1)) + 1 by omega]
                simp only [wgo]
                rw [← HX.out, if_neg (by simpa using hbad), hdone]
                simp only [Bool.false_eq_true, if_false]
                congr 1
                simp; omega
              clear hR hC hZ hO hF hW
              go_wp2
              go_roundw
              case rel => exact ⟨k + 1, false, M3, K2 + x.did, tot M3 % 18446744073709551616, by omega, by go_num, (by first | rfl | (simp; omega) | simp), rfl, by have := HD.out k; rw [← HX.out] at this; omega, HR4.out, HCC.out, ⟨HT4.out.1, HT4.out.2, fun _ => rfl⟩, HO4.out, HF3.out, HW4, HE3⟩
              case measure => simp [intOf]; omega
            · have HW4 : Hid (wholeS cs most = (k + 1, false, 0)) := by
                show wgo cs most.toNat 0 false = _
                rw [← HMT.out, ← hW.out, show mt - k = (mt - (k + 1)) + 1 by omega]
                simp only [wgo]
                rw [← HX.out, if_neg (by simpa using hbad), hdone]
                simp only [if_true]
                congr 2
                simp; omega
              clear hR hC hZ hO hF hW
              go_wp2
              try rw [Exit.noGoto_ret]
              refine bodyPost_ret (v := .tuple #[.int .i64 ((k : Int) + 1), .bool false, .int .i64 0]) (by simp [results, Tryz.results37, go_sem, *]) rfl ?_
              rw [HW4.out]
              exact ⟨rfl, M3, K2 + x.did, (by have h1 := HD.out k; rw [← HX.out] at h1; have h2 := HMT.out; omega), HR4.out, HO4.out, HF3.out.1, HE3.out⟩
          · have hbe : (x.bad != 0) = true := by simpa using hbad
            have HW4 : Hid (wholeS cs most = (k + 1, false, x.bad)) := by
              show wgo cs most.toNat 0 false = _
              rw [← HMT.out, ← hW.out, show mt - k = (mt - (k + 1)) + 1 by omega]
              simp only [wgo]
              rw [← HX.out, if_pos (by simpa using hbad)]
              congr 2
              simp; omega
            have hbe2 : (x.bad == 0) = false := by simpa using hbad
            clear hR hC hZ hO hF hW
            go_wp2
            try rw [Exit.noGoto_ret]
            refine bodyPost_ret (v := .tuple #[.int .i64 ((k : Int) + 1), .bool false, .int .i64 x.bad]) (by simp [results, Tryz.results37, go_sem, *]) rfl ?_
            rw [HW4.out]
            exact ⟨rfl, M3, K2 + x.did, (by have h1 := HD.out k; rw [← HX.out] at h1; have h2 := HMT.out; omega), HR4.out, HO4.out, HF3.out.1, HE3.out⟩
      · have HZ3 := hid hZ.out
        by_cases hbad : x.bad = 0
        · have hbe : (x.bad != 0) = false := by simpa using hbad
          cases hdone : x.done
          · have HW4 : Hid (wgo cs (mt - (k + 1)) (k + 1) true = wgo cs mt 0 false) := by
              rw [← hW.out, show mt - k = (mt - (k + 1)) + 1 by omega]
              simp only [wgo]
              rw [← HX.out, if_neg (by simpa using hbad), hdone]
              simp only [Bool.false_eq_true, if_false]
              congr 1
              try simp
            clear hR hC hZ hO hF hW
            go_wp2
            go_roundw
            case rel => exact ⟨k + 1, true, M3, K2 + x.did, z, by omega, by go_num, rfl, rfl, by have := HD.out k; rw [← HX.out] at this; omega, HX3.out.1, HX3.out.2.2.2.2, ⟨HZ3.out.1, HZ3.out.2.1, fun h => by cases h⟩, HO3.out, HF3.out, HW4, HE3⟩
            case measure => simp [intOf]; omega
          · have HW4 : Hid (wholeS cs most = (k + 1, true, 0)) := by
              show wgo cs most.toNat 0 false = _
              rw [← HMT.out, ← hW.out, show mt - k = (mt - (k + 1)) + 1 by omega]
              simp only [wgo]
              rw [← HX.out, if_neg (by simpa using hbad), hdone]
              simp only [if_true]
              congr 2
              try simp
            clear hR hC hZ hO hF hW
            go_wp2
            try rw [Exit.noGoto_ret]
            refine bodyPost_ret (v := .tuple #[.int .i64 ((k : Int) + 1), .bool true, .int .i64 0]) (by simp [results, Tryz.results37, go_sem, *]) rfl ?_
            rw [HW4.out]
            exact ⟨rfl, M3, K2 + x.did, (by have h1 := HD.out k; rw [← HX.out] at h1; have h2 := HMT.out; omega), HX3.out.1, HO3.out, HF3.out.1, HE3.out⟩
        · have hbe : (x.bad != 0) = true := by simpa using hbad
          have HW4 : Hid (wholeS cs most = (k + 1, true, x.bad)) := by
            show wgo cs most.toNat 0 false = _
            rw [← HMT.out, ← hW.out, show mt - k = (mt - (k + 1)) + 1 by omega]
            simp only [wgo]
            rw [← HX.out, if_pos (by simpa using hbad)]
            congr 2
            try simp
          have hbe2 : (x.bad == 0) = false := by simpa using hbad
          clear hR hC hZ hO hF hW
          go_wp2
          try rw [Exit.noGoto_ret]
          refine bodyPost_ret (v := .tuple #[.int .i64 ((k : Int) + 1), .bool true, .int .i64 x.bad]) (by simp [results, Tryz.results37, go_sem, *]) rfl ?_
          rw [HW4.out]
          exact ⟨rfl, M3, K2 + x.did, (by have h1 := HD.out k; rw [← HX.out] at h1; have h2 := HMT.out; omega), HX3.out.1, HO3.out, HF3.out.1, HE3.out⟩
    · obtain rfl : k = mt := by omega
      have i2 : ¬ (k : Int) < most := by have := HMT.out; omega
      have HW4 : Hid (wholeS cs most = (k, od, 10)) := by
        show wgo cs most.toNat 0 false = _
        rw [← HMT.out, ← hW.out, Nat.sub_self]
        rfl
      go_wp2
      try rw [Exit.noGoto_ret]
      refine bodyPost_ret (v := .tuple #[.int .i64 (k : Int), .bool od, .int .i64 10]) (by simp [results, Tryz.results37, go_sem]) rfl ?_
      rw [HW4.out]
      exact ⟨rfl, M2, K2, (by have h2 := HMT.out; omega), hR.out, hO.out, hF.out.1, hE.out⟩

end Go.Proofs.YtbkaemajjaiklaaGreat

/- The law's known: the chapter's row. -/
namespace Go.Proofs.YtbkaemajjaiklaaGreat
open Go.RowKit
set_option linter.unusedVariables false
set_option linter.unusedSimpArgs false

theorem fresh_mems {w : World} {m : Nat} {B : MB} {n : Nat} (hn : 2 ≤ n) (h : MemIs w m B (freshM (List.replicate n 0))) : Mems w m B (freshM (List.replicate n 0)) 0 := ⟨h, (fun L hL => by simp [freshM] at hL), (by simpa [freshM] using hn)⟩
def kcs : List StepT := [⟨2, false, 0⟩, ⟨2, false, 0⟩, ⟨2, true, 0⟩]
theorem kcs_did (i : Nat) : (xAt kcs i).did ≤ 9 := by
  match i with
  | 0 => decide
  | 1 => decide
  | 2 => decide
  | n + 3 => simp [xAt, kcs]
theorem kcs_9 : wholeS kcs 9 = (3, true, 0) := by decide
theorem kcs_2 : wholeS kcs 2 = (2, true, 10) := by decide
theorem RunOK.other {w w' : World} {a b m : Nat} {B : MB} {M M' : MemS} {K K' : Nat} {l : Value} {cs : List StepT} {lb n n' : Nat} (ha : RunOK w' a m B M' K' l cs lb n') (hb : RunOK w b m B M K l cs lb n) (ho : Only (a :: footM m B M) w w') (hf : ∀ k ∈ footM m B M', k ∈ footM m B M ∨ w.heap.size ≤ k) (hab : b ≠ a) : RunOK w' b m B M' K' l cs lb n :=
  ⟨ho.blk hb.blk (by simp only [List.mem_cons, not_or]; exact ⟨hab, hb.far⟩), ha.mem, ha.steps, fun hc => by
    rcases hf b hc with h | h
    · exact hb.far h
    · have := hb.blk.lt; omega, ha.lfar, hb.lr, ha.lt⟩

set_option maxRecDepth 100000 in
set_option maxHeartbeats 2000000 in
theorem known_z13 (w : World) : Calls Tryz.prog 31 #[] w fun e w' => e = .returned (.bool true) ∧ Below w.heap.size w w' := by
  go_enter Tryz.func31, Tryz.ntmps31
  go_wp2_with fail
  refine (New_m 64 (by decide) _).mono ?_
  rintro e v1 ⟨m, B, rfl, hm, hbel, hft⟩
  have H1 := hid (fresh_mems (by omega) hm)
  have HB1 := hid hbel
  have HF1 := hid hft
  have HL1 := hid hm.foot_lt
  clear hm hbel hft
  obtain ⟨M0, hM0⟩ : ∃ M0, M0 = freshM (List.replicate (64 / 8) 0) := ⟨_, rfl⟩
  rw [← hM0] at H1 HF1 HL1
  clear hM0
  go_wp2_with fail
  generalize hW : World.alloc _ (Obj.cells #[ptrV m, Value.slice (some { block := v1.heap.size, off := 0 }) 3 3, Value.int IntKind.i64 0] 149) = W
  obtain ⟨S, hS⟩ : ∃ S, S = v1.heap.size := ⟨_, rfl⟩
  obtain ⟨ra, hra⟩ : ∃ ra, ra = v1.heap.size + 1 := ⟨_, rfl⟩
  obtain ⟨rb, hrb⟩ : ∃ rb, rb = v1.heap.size + 1 + 1 := ⟨_, rfl⟩
  have hsz : W.heap.size = v1.heap.size + 3 := by rw [← hW]; simp
  have hbW : Below v1.heap.size v1 W := by rw [← hW]; exact ba (ba (ba (Below.refl _ _) _) _) _
  have hmW : Mems W m B M0 0 := H1.out.only (Only.of_below hbW []) (fun _ _ h => by cases h)
  have hbS : Blk W S 145 #[.int .i64 2, .bool false, .int .i64 0, .int .i64 2, .bool false, .int .i64 0, .int .i64 2, .bool true, .int .i64 0] := by
    rw [← hW, hS]; exact ((Blk.new v1 _ _).alloc _).alloc _
  have hbra : Blk W ra 149 (runC m (.slice (some ⟨S, 0, none⟩) 3 3) 0) := by
    rw [← hW, hra, hS]
    exact (by simpa using Blk.new (v1.alloc (.cells #[.int .i64 2, .bool false, .int .i64 0, .int .i64 2, .bool false, .int .i64 0, .int .i64 2, .bool true, .int .i64 0] 145)) 149 #[ptrV m, .slice (some ⟨v1.heap.size, 0, none⟩) 3 3, .int .i64 0] : Blk ((v1.alloc (.cells #[.int .i64 2, .bool false, .int .i64 0, .int .i64 2, .bool false, .int .i64 0, .int .i64 2, .bool true, .int .i64 0] 145)).alloc (.cells #[ptrV m, .slice (some ⟨v1.heap.size, 0, none⟩) 3 3, .int .i64 0] 149)) (v1.heap.size + 1) 149 #[ptrV m, .slice (some ⟨v1.heap.size, 0, none⟩) 3 3, .int .i64 0]).alloc _
  have hbrb : Blk W rb 149 (runC m (.slice (some ⟨S, 0, none⟩) 3 3) 0) := by
    rw [← hW, hrb, hS]
    have := Blk.new ((v1.alloc (.cells #[.int .i64 2, .bool false, .int .i64 0, .int .i64 2, .bool false, .int .i64 0, .int .i64 2, .bool true, .int .i64 0] 145)).alloc (.cells #[ptrV m, .slice (some ⟨v1.heap.size, 0, none⟩) 3 3, .int .i64 0] 149)) 149 #[ptrV m, .slice (some ⟨v1.heap.size, 0, none⟩) 3 3, .int .i64 0]
    simp only [World.size_alloc] at this
    exact this
  have hst : StepsAt W (.slice (some ⟨S, 0, none⟩) 3 3) kcs S := by
    refine ⟨some ⟨S, 0, none⟩, 3, rfl, Or.inr ⟨0, rfl, hbS.lt, fun i hi j hj => ?_⟩⟩
    rw [hbS.cell]
    have hi3 : i < 3 := hi
    have hij : (i = 0 ∨ i = 1 ∨ i = 2) ∧ (j = 0 ∨ j = 1 ∨ j = 2) := by omega
    rcases hij with ⟨rfl | rfl | rfl, rfl | rfl | rfl⟩ <;> rfl
  have hfar : ∀ k, v1.heap.size ≤ k → k ∉ footM m B M0 := fun k hk hc => by have := HL1.out k hc; omega
  have RA := hid (show RunOK W ra m B M0 0 (.slice (some ⟨S, 0, none⟩) 3 3) kcs S 0 from ⟨hbra, hmW, hst, hfar _ (by omega), hfar _ (by omega), by omega, hbS.lt⟩)
  have RB := hid (show RunOK W rb m B M0 0 (.slice (some ⟨S, 0, none⟩) 3 3) kcs S 0 from ⟨hbrb, hmW, hst, hfar _ (by omega), hfar _ (by omega), by omega, hbS.lt⟩)
  have HAB := hid (show rb ≠ ra by omega)
  have HG := hid (show w.heap.size ≤ ra ∧ w.heap.size ≤ rb by have := HB1.out.size; omega)
  have HBW := hid (bx HB1.out hbW)
  rw [← hrb, ← hra, ← hS]
  clear hsz hbW hmW hbS hbra hbrb hst hfar hW hS hra hrb
  refine (Whole_z ra m B M0 0 _ kcs S 9 (by omega) (by decide) (by omega) kcs_did W RA.out).mono ?_
  rintro e w2 ⟨rfl, M1, K1, hK1, hR1, hO1, hF1, _⟩
  rw [kcs_9] at hR1 ⊢
  have RB2 := hid (RunOK.other hR1 RB.out hO1 hF1 HAB.out)
  have HO1 := hid hO1
  have HF2 := hid hF1
  have R1 := hid hR1
  clear hO1 hF1 hR1
  go_wp2_with fail
  refine (Whole_z rb m B M1 K1 _ kcs S 2 (by omega) (by decide) (by omega) kcs_did w2 RB2.out).mono ?_
  rintro e w3 ⟨rfl, M2, K2, hK2, hR2, hO2, hF2, _⟩
  rw [kcs_2] at hR2 ⊢
  have RA3 := RunOK.other hR2 R1.out hO2 hF2 HAB.out.symm
  have y1 : w3.cell? ⟨ra, 2, none⟩ = some (.int .i64 3) := RA3.blk.cell 2
  have y2 : w3.cell? ⟨rb, 2, none⟩ = some (.int .i64 2) := hR2.blk.cell 2
  have hfin : Below w.heap.size w w3 := by
    have h1 : Below w.heap.size W w2 := HO1.out.below (fun x hx => by
      rcases List.mem_cons.1 hx with rfl | h
      · exact HG.out.1
      · exact Nat.le_of_lt (HF1.out x h)) HBW.out.size
    have h2 : Below w.heap.size w2 w3 := hO2.below (fun x hx => by
      rcases List.mem_cons.1 hx with rfl | h
      · exact HG.out.2
      · rcases HF2.out x h with h | h
        · exact Nat.le_of_lt (HF1.out x h)
        · exact Nat.le_trans HBW.out.size h) (Nat.le_trans HBW.out.size HO1.out.size)
    exact (HBW.out.trans h1).trans h2
  have HFIN := hid hfin
  clear RA3 hR2 hO2 hF2 hfin
  go_wp2
  go_ret
  exact ⟨rfl, HFIN.out⟩

end Go.Proofs.YtbkaemajjaiklaaGreat
