/- The law's runner: a step. -/
import Derived.Test.YtbkaemajjaiklaaPmQ
namespace Go.Proofs.Ytbkaemajjaiklaa
open Go.RowKit
set_option linter.unusedVariables false
set_option linter.unusedSimpArgs false

theorem Went.undrew {m : Nat} {B : MB} {w w' : World} {M M' : MemS} {d : Nat} (h : Went m B w.drew M w' M' d) : Went m B w M w' M' d := ⟨⟨h.only.os, h.only.tape, h.only.output, h.only.size, h.only.block⟩, h.foot, h.tot⟩
structure StepT where
  did : Nat
  done : Bool
  bad : Int
def stepC (x : StepT) : List Value := [.int .i64 (x.did : Int), .bool x.done, .int .i64 x.bad]
def StepsAt (w : World) (v : Value) (cs : List StepT) (lb : Nat) : Prop :=
  ∃ (ao : Option Addr) (cap : Nat), v = .slice ao cs.length cap ∧ (cs = [] ∨ ∃ off, ao = some ⟨lb, off, none⟩ ∧ lb < w.heap.size ∧ ∀ i (h : i < cs.length) j, j < 3 → w.cell? ⟨lb, off + i * 3 + j, none⟩ = (stepC cs[i])[j]?)
theorem StepsAt.only {f : List Nat} {w w' : World} {v : Value} {cs : List StepT} {lb : Nat} (h : StepsAt w v cs lb) (ho : Only f w w') (hn : lb ∉ f) : StepsAt w' v cs lb := by
  obtain ⟨ao, cap, rfl, h⟩ := h
  refine ⟨ao, cap, rfl, ?_⟩
  rcases h with h | ⟨off, rfl, hlt, hc⟩
  · exact Or.inl h
  · exact Or.inr ⟨off, rfl, Nat.lt_of_lt_of_le hlt ho.size, fun i hi j hj => (ho.cell (p := ⟨lb, off + i * 3 + j, none⟩) hlt hn).trans (hc i hi j hj)⟩
def zeroS : StepT := ⟨0, false, 0⟩
/-- the n-th step: behind the end the last one, again and again; of none: one that does nothing -/
def xAt (cs : List StepT) (n : Nat) : StepT := match cs[n]? with | some x => x | none => cs.getLast?.getD zeroS
/-- what a runner holds -/
def runC (m : Nat) (l : Value) (n : Nat) : Array Value := #[ptrV m, l, .int .i64 (n : Int)]
structure RunOK (w : World) (r m : Nat) (B : MB) (M : MemS) (K : Nat) (l : Value) (cs : List StepT) (lb n : Nat) : Prop where
  blk : Blk w r 63 (runC m l n)
  mem : Mems w m B M K
  steps : StepsAt w l cs lb
  far : r ∉ footM m B M
  lfar : lb ∉ footM m B M
  lr : lb ≠ r
  lt : lb < w.heap.size
/-- behind a step -/
def StepPost (w : World) (r m : Nat) (B : MB) (M : MemS) (K : Nat) (l : Value) (cs : List StepT) (lb n : Nat) (e : Ending) (w' : World) : Prop :=
  e = .returned (.tuple #[.bool (xAt cs n).done, .int .i64 (xAt cs n).bad]) ∧ ∃ M', RunOK w' r m B M' (K + (xAt cs n).did) l cs lb (n + 1) ∧ Only (r :: footM m B M) w w' ∧ (∀ k ∈ footM m B M', k ∈ footM m B M ∨ w.heap.size ≤ k) ∧ tot M' % 18446744073709551616 = (tot M + (xAt cs n).did) % 18446744073709551616 ∧ ((xAt cs n).did = 0 → M' = M)

set_option maxRecDepth 100000 in
set_option maxHeartbeats 4000000 in
theorem step_none (r m : Nat) (B : MB) (M : MemS) (K : Nat) (l : Value) (cs : List StepT) (lb n : Nat) (hcs : cs = []) (hn : n ≤ 1000) (hK : K ≤ 1000000) (hdid : (xAt cs n).did ≤ 9) (w : World) (h : RunOK w r m B M K l cs lb n) :
    Calls Try.prog 28 #[.pointer (some ⟨r, 0, none⟩)] w (StepPost w r m B M K l cs lb n) := by
  obtain ⟨ao, cap, hl, _⟩ := id h.steps
  have hl0 : l = .slice ao 0 cap := by rw [hl, hcs]; rfl
  have HL := hid hl0
  have HC := hid hcs
  have H := hid h
  have hb1 := h.blk.alloc (.cells #[.int .i64 0, .bool false, .int .i64 0] 59)
  have i1 : (0 : Int) ≤ (n : Int) := by omega
  have i2 : ¬ (n : Int) < 0 := by omega
  have i3 : (0 : Int) ≤ 0 := by omega
  have x1 : (w.alloc (.cells #[.int .i64 0, .bool false, .int .i64 0] 59)).cell? ⟨r, 1, none⟩ = some (.slice ao 0 cap) := by rw [← hl0]; exact hb1.cell 1
  have x2 : (w.alloc (.cells #[.int .i64 0, .bool false, .int .i64 0] 59)).cell? ⟨r, 2, none⟩ = some (.int .i64 (n : Int)) := hb1.cell 2
  have x1d : (w.alloc (.cells #[.int .i64 0, .bool false, .int .i64 0] 59)).drew.cell? ⟨r, 1, none⟩ = some (.slice ao 0 cap) := x1
  have x2d : (w.alloc (.cells #[.int .i64 0, .bool false, .int .i64 0] 59)).drew.cell? ⟨r, 2, none⟩ = some (.int .i64 (n : Int)) := x2
  have x2f := hb1.frozen 2
  have hrw : r ≠ w.heap.size := fun e => by have := h.blk.lt; omega
  have XA : xAt cs n = zeroS := by rw [hcs]; simp [xAt]
  have HXA := hid XA
  clear h hb1 hl hl0 hcs XA
  go_enter Try.func28, Try.ntmps28
  go_wp2
  go_region
  go_wp2
  obtain ⟨W1, hW1⟩ : ∃ W1, W1 = ((w.alloc (.cells #[.int .i64 0, .bool false, .int .i64 0] 59)).setCell ⟨r, 2, none⟩ (.int .i64 ((n : Int) + 1))).drew := ⟨_, rfl⟩
  rw [← hW1]
  obtain ⟨X, hX⟩ : ∃ X, X = w.heap.size := ⟨_, rfl⟩
  rw [← hX]
  have o1 : Only [r] w W1 := by rw [hW1]; exact (((Only.refl _ w).alloc _).setCell (Or.inl (by simp)) _).drew
  have b1 : Blk W1 r 63 (runC m l (n + 1)) := by rw [hW1]; exact ((H.out.blk.alloc _).set_ 2 _).drew
  have c1 : Blk W1 X 59 (stepC (xAt cs n)).toArray := by rw [hW1, hX, HXA.out]; exact ((Blk.new w _ _).far (by exact fun e => hrw e.symm) _).drew
  have m1 : Mems W1 m B M K := H.out.mem.only o1 (fun k hk hm => H.out.far (by simp at hm; rw [← hm]; exact hk))
  have s1 := H.out.steps.only o1 (by simpa using H.out.lr)
  have hXf : X ∉ footM m B M := fun hc => by have := H.out.mem.is.foot_lt X hc; omega
  have hXr : X ≠ r := fun e => by have := H.out.blk.lt; omega
  have hs1 := o1.size
  have hlt1 : r < W1.heap.size ∧ X < W1.heap.size := ⟨b1.lt, c1.lt⟩
  obtain ⟨D, hD⟩ : ∃ D, D = (xAt cs n).did := ⟨_, rfl⟩
  have hD9 : D ≤ 9 := by rw [hD]; exact hdid
  have HD := hid hD
  have O1 := hid o1
  have B1 := hid b1
  have C1 := hid c1
  have M1 := hid m1
  have S1 := hid s1
  have XF := hid hXf
  have HX := hid hX
  have HLT := hid hlt1
  clear o1 b1 c1 m1 s1 hXf hX hW1 hs1 hlt1 hD x1 x2 x1d x2d x2f
  go_loopw [5] (fun i wr => ∃ (k : Nat) (M2 : MemS), k ≤ D ∧ i = .int .i64 k ∧ Hid (Mems wr m B M2 (K + k)) ∧ Hid (Went m B W1 M wr M2 k) ∧ Hid (k = 0 → M2 = M)) (fun i _ => (D - (intOf i).toNat))
  case atStart => exact ⟨0, M, by omega, rfl, M1.out, Went.refl _ _ _ _, fun _ => rfl⟩
  case round =>
    obtain ⟨k, M2, hk, rfl, hMs, hWt, hZe⟩ := hrel
    have b2 := hWt.out.blk B1.out H.out.far
    have c2 := hWt.out.blk C1.out XF.out
    have y0 : wr.cell? ⟨X, 0, none⟩ = some (.int .i64 (D : Int)) := by rw [HD.out]; exact c2.cell 0
    have z0 : wr.cell? ⟨r, 0, none⟩ = some (ptrV m) := b2.cell 0
    have z2 : wr.cell? ⟨r, 2, none⟩ = some (.int .i64 ((n : Int) + 1)) := b2.cell 2
    have zd0 : wr.drew.cell? ⟨r, 0, none⟩ = some (ptrV m) := z0
    have zd2 : wr.drew.cell? ⟨r, 2, none⟩ = some (.int .i64 ((n : Int) + 1)) := z2
    have j1 : (0 : Int) ≤ (k : Int) := by omega
    by_cases hlt : k < D
    · have j2 : (k : Int) < (D : Int) := by omega
      have hc4 : k % 4 = 0 ∨ k % 4 = 1 ∨ k % 4 = 2 ∨ k % 4 = 3 := by omega
      clear b2 c2
      rcases hc4 with hc | hc | hc | hc
      · have j3 : (k : Int) % 4 = 0 := by omega
        clear hc
        go_wp2_with fail
        refine (Load_p m B M2 (K + k) _ hMs.out).mono ?_
        rintro e w2 ⟨⟨v, rfl⟩, M3, h3, h4⟩
        have H3 := hid h3
        have H4 := hid (hWt.out.trans h4)
        clear h3 h4 hMs hWt y0 z0 z2 zd0 zd2
        go_wp2
        go_roundw
        case rel => exact ⟨k + 1, M3, by omega, by go_num, H3.out, H4.out, fun h => by omega⟩
        case measure => simp [intOf]; omega
      · have j3 : (k : Int) % 4 = 1 := by omega
        clear hc
        have HS := hid (Store_p m B M2 (K + k) ((n : Int) + 1) _ (hMs.out.only (Only.refl [] wr).drew (fun _ _ h => by cases h)) (by omega))
        have hwr : IntKind.u64.wrap ((n : Int) + 1) = (n : Int) + 1 := IntWalk.u64_in _ (by omega)
        go_wp2_with fail
        go_region_with (first | (go_at_call 65; refine HS.out.mono ?_; rintro e w2 ⟨⟨v, rfl⟩, M3, h3, h4⟩; have H3 := hid h3; have H4 := hid (hWt.out.trans h4.undrew); clear h3 h4))
        all_goals
          try go_simp
          try simp only [Act.put, List.setIfInBounds_toArray, List.set_cons_zero, List.set_cons_succ]
          clear hMs hWt y0 z0 z2 zd0 zd2
          go_wp2
          go_roundw
          case rel => exact ⟨k + 1, M3, by omega, by go_num, H3.out, H4.out, fun h => by omega⟩
          case measure => simp [intOf]; omega
      · have j3 : (k : Int) % 4 = 2 := by omega
        clear hc
        go_wp2_with fail
        refine (Flush_p m B M2 (K + k) _ hMs.out (by omega)).mono ?_
        rintro e w2 ⟨⟨v, rfl⟩, M3, h3, h4⟩
        have H3 := hid h3
        have H4 := hid (hWt.out.trans h4)
        clear h3 h4 hMs hWt y0 z0 z2 zd0 zd2
        go_wp2
        go_roundw
        case rel => exact ⟨k + 1, M3, by omega, by go_num, H3.out, H4.out, fun h => by omega⟩
        case measure => simp [intOf]; omega
      · have j3 : (k : Int) % 4 = 3 := by omega
        clear hc
        go_wp2_with fail
        refine (Fence_p m B M2 (K + k) _ hMs.out (by omega)).mono ?_
        rintro e w2 ⟨⟨v, rfl⟩, M3, h3, h4⟩
        have H3 := hid h3
        have H4 := hid (hWt.out.trans h4)
        clear h3 h4 hMs hWt y0 z0 z2 zd0 zd2
        go_wp2
        go_roundw
        case rel => exact ⟨k + 1, M3, by omega, by go_num, H3.out, H4.out, fun h => by omega⟩
        case measure => simp [intOf]; omega
    · obtain rfl : k = D := by omega
      have hf : StepPost w r m B M K l cs lb n (.returned (.tuple #[.bool (xAt cs n).done, .int .i64 (xAt cs n).bad])) wr.drew := by
        refine ⟨rfl, M2, ⟨b2.drew, ?_, ?_, hWt.out.far HLT.out.1 H.out.far, ?_, H.out.lr, ?_⟩, ?_, ?_, ?_, fun h => hZe.out (HD.out.trans h)⟩
        · rw [← HD.out]; exact hMs.out.only (Only.refl [] wr).drew (fun _ _ h => by cases h)
        · exact (S1.out.only hWt.out.only H.out.lfar).only (Only.refl [] wr).drew (by simp)
        · exact hWt.out.far (Nat.lt_of_lt_of_le H.out.lt O1.out.size) H.out.lfar
        · exact Nat.lt_of_lt_of_le H.out.lt (Nat.le_trans O1.out.size hWt.out.only.size)
        · exact ((O1.out.mono (fun x hx => by simp at hx; simp [hx])).trans hWt.out.only (fun x hx => Or.inl (by simp [hx]))).drew
        · exact fun k hk => by
            rcases hWt.out.foot k hk with h | h
            · exact Or.inl h
            · exact Or.inr (Nat.le_trans O1.out.size h)
        · have := hWt.out.tot
          rw [← HD.out]; exact this
      have HF := hid hf
      have y1 : wr.drew.cell? ⟨X, 1, none⟩ = some (.bool (xAt cs n).done) := c2.drew.cell 1
      have y2 : wr.drew.cell? ⟨X, 2, none⟩ = some (.int .i64 (xAt cs n).bad) := c2.drew.cell 2
      clear hf b2 c2 hMs hWt hk hlt
      go_wp2
      go_region
      all_goals
        try simp only [Act.put, List.setIfInBounds_toArray, List.set_cons_zero, List.set_cons_succ]
        go_wp2
        go_ret2
        exact HF.out

end Go.Proofs.Ytbkaemajjaiklaa
