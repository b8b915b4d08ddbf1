/- The law's runner: a step of some. -/
import Derived.Test.YtbkaemajjaiklaaSwA
namespace Go.Proofs.Ytbkaemajjaiklaa
open Go.RowKit
set_option linter.unusedVariables false
set_option linter.unusedSimpArgs false

set_option maxRecDepth 100000 in
set_option maxHeartbeats 4000000 in
theorem step_some (r m : Nat) (B : MB) (M : MemS) (K : Nat) (l : Value) (cs : List StepT) (lb n : Nat) (hlen : cs.length ≤ 1000) (hlt : n < cs.length) (hn : n ≤ 1000) (hK : K ≤ 1000000) (hdid : (xAt cs n).did ≤ 9) (w : World) (h : RunOK w r m B M K l cs lb n) :
    Calls Try.prog 28 #[.pointer (some ⟨r, 0, none⟩)] w (StepPost w r m B M K l cs lb n) := by
  obtain ⟨ao, cap, hl, hc⟩ := id h.steps
  obtain ⟨off, rfl, hlw, hcell⟩ : ∃ off, ao = some ⟨lb, off, none⟩ ∧ lb < w.heap.size ∧ ∀ i (h : i < cs.length) j, j < 3 → w.cell? ⟨lb, off + i * 3 + j, none⟩ = (stepC cs[i])[j]? := by
    rcases hc with hc | hc
    · rw [hc] at hlt; simp at hlt
    · exact hc
  obtain ⟨N, hN⟩ : ∃ N, N = cs.length := ⟨_, rfl⟩
  obtain ⟨q, hq⟩ : ∃ q, N = q + 1 := ⟨N - 1, by omega⟩
  obtain ⟨a, ha⟩ : ∃ a, a = cs[q]'(by omega) := ⟨_, rfl⟩
  obtain ⟨b, hb⟩ : ∃ b, b = cs[n]'hlt := ⟨_, rfl⟩
  have XA : xAt cs n = b := by unfold xAt; rw [List.getElem?_eq_getElem hlt, hb]
  have hca := hcell q (by omega)
  have hcb := hcell n hlt
  rw [← ha] at hca
  rw [← hb] at hcb
  have hl0 : l = .slice (some ⟨lb, off, none⟩) (q + 1) cap := by rw [hl, ← hN, hq]
  have HXA := hid XA
  have H := hid h
  have hbz := h.blk.alloc (.cells #[.int .i64 0, .bool false, .int .i64 0] 59)
  have u1z : (w.alloc (.cells #[.int .i64 0, .bool false, .int .i64 0] 59)).cell? ⟨r, 1, none⟩ = some (.slice (some ⟨lb, off, none⟩) (q + 1) cap) := by rw [← hl0]; exact hbz.cell 1
  have u2z : (w.alloc (.cells #[.int .i64 0, .bool false, .int .i64 0] 59)).cell? ⟨r, 2, none⟩ = some (.int .i64 (n : Int)) := hbz.cell 2
  have ufz := hbz.frozen 2
  have a0z : (w.alloc (.cells #[.int .i64 0, .bool false, .int .i64 0] 59)).cell? ⟨lb, off + q * 3, none⟩ = some (.int .i64 (a.did : Int)) := (ca _ (hca 0 (by omega)))
  have a1z : (w.alloc (.cells #[.int .i64 0, .bool false, .int .i64 0] 59)).cell? ⟨lb, off + q * 3 + 1, none⟩ = some (.bool a.done) := (ca _ (hca 1 (by omega)))
  have a2z : (w.alloc (.cells #[.int .i64 0, .bool false, .int .i64 0] 59)).cell? ⟨lb, off + q * 3 + 2, none⟩ = some (.int .i64 a.bad) := (ca _ (hca 2 (by omega)))
  have hby := h.blk.alloc (.cells #[.int .i64 (a.did : Int), .bool a.done, .int .i64 a.bad] 59)
  have u1y : (w.alloc (.cells #[.int .i64 (a.did : Int), .bool a.done, .int .i64 a.bad] 59)).cell? ⟨r, 1, none⟩ = some (.slice (some ⟨lb, off, none⟩) (q + 1) cap) := by rw [← hl0]; exact hby.cell 1
  have u2y : (w.alloc (.cells #[.int .i64 (a.did : Int), .bool a.done, .int .i64 a.bad] 59)).cell? ⟨r, 2, none⟩ = some (.int .i64 (n : Int)) := hby.cell 2
  have ufy := hby.frozen 2
  have b0y : (w.alloc (.cells #[.int .i64 (a.did : Int), .bool a.done, .int .i64 a.bad] 59)).cell? ⟨lb, off + n * 3, none⟩ = some (.int .i64 (b.did : Int)) := (ca _ (hcb 0 (by omega)))
  have b1y : (w.alloc (.cells #[.int .i64 (a.did : Int), .bool a.done, .int .i64 a.bad] 59)).cell? ⟨lb, off + n * 3 + 1, none⟩ = some (.bool b.done) := (ca _ (hcb 1 (by omega)))
  have b2y : (w.alloc (.cells #[.int .i64 (a.did : Int), .bool a.done, .int .i64 a.bad] 59)).cell? ⟨lb, off + n * 3 + 2, none⟩ = some (.int .i64 b.bad) := (ca _ (hcb 2 (by omega)))
  have hbv := h.blk.alloc (.cells #[.int .i64 (b.did : Int), .bool b.done, .int .i64 b.bad] 59)
  have u1v : (w.alloc (.cells #[.int .i64 (b.did : Int), .bool b.done, .int .i64 b.bad] 59)).cell? ⟨r, 1, none⟩ = some (.slice (some ⟨lb, off, none⟩) (q + 1) cap) := by rw [← hl0]; exact hbv.cell 1
  have u2v : (w.alloc (.cells #[.int .i64 (b.did : Int), .bool b.done, .int .i64 b.bad] 59)).cell? ⟨r, 2, none⟩ = some (.int .i64 (n : Int)) := hbv.cell 2
  have ufv := hbv.frozen 2
  have i1 : (0 : Int) ≤ (n : Int) := by omega
  have i2 : (n : Int) < (q : Int) + 1 := by omega
  have i3 : (0 : Int) ≤ (q : Int) := by omega
  have i4 : (q : Int) < (q : Int) + 1 := by omega
  have i5 : (0 : Int) < (q : Int) + 1 := by omega
  have i6 : q ≤ 1000 := by omega
  have hrw : r ≠ w.heap.size := fun e => by have := h.blk.lt; omega
  have hlbw : lb ≠ w.heap.size := fun e => by omega
  have hlr : lb ≠ r := h.lr
  clear h hl hl0 hc hcell hca hcb XA hN hq ha hb hbz hby hbv
  go_enter Try.func28, Try.ntmps28
  go_wp2
  go_region
  go_wp2
  go_region
  go_wp2
  go_region
  go_wp2
  obtain ⟨W1, hW1⟩ : ∃ W1, W1 = ((w.alloc (.cells #[.int .i64 (b.did : Int), .bool b.done, .int .i64 b.bad] 59)).setCell ⟨r, 2, none⟩ (.int .i64 ((n : Int) + 1))).drew.drew.drew := ⟨_, rfl⟩
  rw [← hW1]
  obtain ⟨X, hX⟩ : ∃ X, X = w.heap.size := ⟨_, rfl⟩
  rw [← hX]
  have o1 : Only [r] w W1 := by rw [hW1]; exact (((Only.refl _ w).alloc _).setCell (Or.inl (by simp)) _).drew.drew.drew
  have b1 : Blk W1 r 63 (runC m l (n + 1)) := by rw [hW1]; exact ((H.out.blk.alloc _).set_ 2 _).drew.drew.drew
  have c1 : Blk W1 X 59 (stepC (xAt cs n)).toArray := by rw [hW1, hX, HXA.out]; exact ((Blk.new w _ _).far (by exact fun e => hrw e.symm) _).drew.drew.drew
  have m1 : Mems W1 m B M K := H.out.mem.only o1 (fun k hk hm => H.out.far (by simp at hm; rw [← hm]; exact hk))
  have s1 := H.out.steps.only o1 (by simpa using H.out.lr)
  have hXf : X ∉ footM m B M := fun hc => by have := H.out.mem.is.foot_lt X hc; omega
  have hXr : X ≠ r := fun e => by have := H.out.blk.lt; omega
  have hs1 := o1.size
  have hlt1 : r < W1.heap.size ∧ X < W1.heap.size := ⟨b1.lt, c1.lt⟩
  obtain ⟨D, hD⟩ : ∃ D, D = (xAt cs n).did := ⟨_, rfl⟩
  have hD9 : D ≤ 9 := by rw [hD]; exact hdid
  have HD := hid hD
  have O1 := hid o1
  have B1 := hid b1
  have C1 := hid c1
  have M1 := hid m1
  have S1 := hid s1
  have XF := hid hXf
  have HX := hid hX
  have HLT := hid hlt1
  clear o1 b1 c1 m1 s1 hXf hX hW1 hs1 hlt1 hD u1z u2z ufz a0z a1z a2z u1y u2y ufy b0y b1y b2y u1v u2v ufv
  go_loopw [5] (fun i wr => ∃ (k : Nat) (M2 : MemS), k ≤ D ∧ i = .int .i64 k ∧ Hid (Mems wr m B M2 (K + k)) ∧ Hid (Went m B W1 M wr M2 k) ∧ Hid (k = 0 → M2 = M)) (fun i _ => (D - (intOf i).toNat))
  case atStart => exact ⟨0, M, by omega, rfl, M1.out, Went.refl _ _ _ _, fun _ => rfl⟩
  case round =>
    obtain ⟨k, M2, hk, rfl, hMs, hWt, hZe⟩ := hrel
    have b2 := hWt.out.blk B1.out H.out.far
    have c2 := hWt.out.blk C1.out XF.out
    have y0 : wr.cell? ⟨X, 0, none⟩ = some (.int .i64 (D : Int)) := by rw [HD.out]; exact c2.cell 0
    have z0 : wr.cell? ⟨r, 0, none⟩ = some (ptrV m) := b2.cell 0
    have z2 : wr.cell? ⟨r, 2, none⟩ = some (.int .i64 ((n : Int) + 1)) := b2.cell 2
    have zd0 : wr.drew.cell? ⟨r, 0, none⟩ = some (ptrV m) := z0
    have zd2 : wr.drew.cell? ⟨r, 2, none⟩ = some (.int .i64 ((n : Int) + 1)) := z2
    have j1 : (0 : Int) ≤ (k : Int) := by omega
    by_cases hlt : k < D
    · have j2 : (k : Int) < (D : Int) := by omega
      have hc4 : k % 4 = 0 ∨ k % 4 = 1 ∨ k % 4 = 2 ∨ k % 4 = 3 := by omega
      clear b2 c2
      rcases hc4 with hc | hc | hc | hc
      · have j3 : (k : Int) % 4 = 0 := by omega
        clear hc
        go_wp2_with fail
        refine (Load_p m B M2 (K + k) _ hMs.out).mono ?_
        rintro e w2 ⟨⟨v, rfl⟩, M3, h3, h4⟩
        have H3 := hid h3
        have H4 := hid (hWt.out.trans h4)
        clear h3 h4 hMs hWt y0 z0 z2 zd0 zd2
        go_wp2
        go_roundw
        case rel => exact ⟨k + 1, M3, by omega, by go_num, H3.out, H4.out, fun h => by omega⟩
        case measure => simp [intOf]; omega
      · have j3 : (k : Int) % 4 = 1 := by omega
        clear hc
        have HS := hid (Store_p m B M2 (K + k) ((n : Int) + 1) _ (hMs.out.only (Only.refl [] wr).drew (fun _ _ h => by cases h)) (by omega))
        have hwr : IntKind.u64.wrap ((n : Int) + 1) = (n : Int) + 1 := IntWalk.u64_in _ (by omega)
        go_wp2_with fail
        go_region_with (first | (go_at_call 65; refine HS.out.mono ?_; rintro e w2 ⟨⟨v, rfl⟩, M3, h3, h4⟩; have H3 := hid h3; have H4 := hid (hWt.out.trans h4.undrew); clear h3 h4))
        all_goals
          try go_simp
          try simp only [Act.put, List.setIfInBounds_toArray, List.set_cons_zero, List.set_cons_succ]
          clear hMs hWt y0 z0 z2 zd0 zd2
          go_wp2
          go_roundw
          case rel => exact ⟨k + 1, M3, by omega, by go_num, H3.out, H4.out, fun h => by omega⟩
          case measure => simp [intOf]; omega
      · have j3 : (k : Int) % 4 = 2 := by omega
        clear hc
        go_wp2_with fail
        refine (Flush_p m B M2 (K + k) _ hMs.out (by omega)).mono ?_
        rintro e w2 ⟨⟨v, rfl⟩, M3, h3, h4⟩
        have H3 := hid h3
        have H4 := hid (hWt.out.trans h4)
        clear h3 h4 hMs hWt y0 z0 z2 zd0 zd2
        go_wp2
        go_roundw
        case rel => exact ⟨k + 1, M3, by omega, by go_num, H3.out, H4.out, fun h => by omega⟩
        case measure => simp [intOf]; omega
      · have j3 : (k : Int) % 4 = 3 := by omega
        clear hc
        go_wp2_with fail
        refine (Fence_p m B M2 (K + k) _ hMs.out (by omega)).mono ?_
        rintro e w2 ⟨⟨v, rfl⟩, M3, h3, h4⟩
        have H3 := hid h3
        have H4 := hid (hWt.out.trans h4)
        clear h3 h4 hMs hWt y0 z0 z2 zd0 zd2
        go_wp2
        go_roundw
        case rel => exact ⟨k + 1, M3, by omega, by go_num, H3.out, H4.out, fun h => by omega⟩
        case measure => simp [intOf]; omega
    · obtain rfl : k = D := by omega
      have hf : StepPost w r m B M K l cs lb n (.returned (.tuple #[.bool (xAt cs n).done, .int .i64 (xAt cs n).bad])) wr.drew := by
        refine ⟨rfl, M2, ⟨b2.drew, ?_, ?_, hWt.out.far HLT.out.1 H.out.far, ?_, H.out.lr, ?_⟩, ?_, ?_, ?_, fun h => hZe.out (HD.out.trans h)⟩
        · rw [← HD.out]; exact hMs.out.only (Only.refl [] wr).drew (fun _ _ h => by cases h)
        · exact (S1.out.only hWt.out.only H.out.lfar).only (Only.refl [] wr).drew (by simp)
        · exact hWt.out.far (Nat.lt_of_lt_of_le H.out.lt O1.out.size) H.out.lfar
        · exact Nat.lt_of_lt_of_le H.out.lt (Nat.le_trans O1.out.size hWt.out.only.size)
        · exact ((O1.out.mono (fun x hx => by simp at hx; simp [hx])).trans hWt.out.only (fun x hx => Or.inl (by simp [hx]))).drew
        · exact fun k hk => by
            rcases hWt.out.foot k hk with h | h
            · exact Or.inl h
            · exact Or.inr (Nat.le_trans O1.out.size h)
        · have := hWt.out.tot
          rw [← HD.out]; exact this
      have HF := hid hf
      have y1 : wr.drew.cell? ⟨X, 1, none⟩ = some (.bool (xAt cs n).done) := c2.drew.cell 1
      have y2 : wr.drew.cell? ⟨X, 2, none⟩ = some (.int .i64 (xAt cs n).bad) := c2.drew.cell 2
      clear hf b2 c2 hMs hWt hk hlt
      go_wp2
      go_region
      all_goals
        try simp only [Act.put, List.setIfInBounds_toArray, List.set_cons_zero, List.set_cons_succ]
        go_wp2
        go_ret2
        exact HF.out

set_option maxRecDepth 100000 in
set_option maxHeartbeats 4000000 in
theorem step_past (r m : Nat) (B : MB) (M : MemS) (K : Nat) (l : Value) (cs : List StepT) (lb n : Nat) (hlen : cs.length ≤ 1000) (hlt : cs.length ≤ n) (hpos : 0 < cs.length) (hn : n ≤ 1000) (hK : K ≤ 1000000) (hdid : (xAt cs n).did ≤ 9) (w : World) (h : RunOK w r m B M K l cs lb n) :
    Calls Try.prog 28 #[.pointer (some ⟨r, 0, none⟩)] w (StepPost w r m B M K l cs lb n) := by
  obtain ⟨ao, cap, hl, hc⟩ := id h.steps
  obtain ⟨off, rfl, hlw, hcell⟩ : ∃ off, ao = some ⟨lb, off, none⟩ ∧ lb < w.heap.size ∧ ∀ i (h : i < cs.length) j, j < 3 → w.cell? ⟨lb, off + i * 3 + j, none⟩ = (stepC cs[i])[j]? := by
    rcases hc with hc | hc
    · rw [hc] at hpos; simp at hpos
    · exact hc
  obtain ⟨N, hN⟩ : ∃ N, N = cs.length := ⟨_, rfl⟩
  obtain ⟨q, hq⟩ : ∃ q, N = q + 1 := ⟨N - 1, by omega⟩
  obtain ⟨a, ha⟩ : ∃ a, a = cs[q]'(by omega) := ⟨_, rfl⟩
  have XA : xAt cs n = a := by unfold xAt; rw [List.getElem?_eq_none hlt]; simp only [List.getLast?_eq_getElem?, show cs.length - 1 = q by omega, List.getElem?_eq_getElem (show q < cs.length by omega), Option.getD_some, ha]
  have hca := hcell q (by omega)
  rw [← ha] at hca
  have hl0 : l = .slice (some ⟨lb, off, none⟩) (q + 1) cap := by rw [hl, ← hN, hq]
  have HXA := hid XA
  have H := hid h
  have hbz := h.blk.alloc (.cells #[.int .i64 0, .bool false, .int .i64 0] 59)
  have u1z : (w.alloc (.cells #[.int .i64 0, .bool false, .int .i64 0] 59)).cell? ⟨r, 1, none⟩ = some (.slice (some ⟨lb, off, none⟩) (q + 1) cap) := by rw [← hl0]; exact hbz.cell 1
  have u2z : (w.alloc (.cells #[.int .i64 0, .bool false, .int .i64 0] 59)).cell? ⟨r, 2, none⟩ = some (.int .i64 (n : Int)) := hbz.cell 2
  have ufz := hbz.frozen 2
  have a0z : (w.alloc (.cells #[.int .i64 0, .bool false, .int .i64 0] 59)).cell? ⟨lb, off + q * 3, none⟩ = some (.int .i64 (a.did : Int)) := (ca _ (hca 0 (by omega)))
  have a1z : (w.alloc (.cells #[.int .i64 0, .bool false, .int .i64 0] 59)).cell? ⟨lb, off + q * 3 + 1, none⟩ = some (.bool a.done) := (ca _ (hca 1 (by omega)))
  have a2z : (w.alloc (.cells #[.int .i64 0, .bool false, .int .i64 0] 59)).cell? ⟨lb, off + q * 3 + 2, none⟩ = some (.int .i64 a.bad) := (ca _ (hca 2 (by omega)))
  have hby := h.blk.alloc (.cells #[.int .i64 (a.did : Int), .bool a.done, .int .i64 a.bad] 59)
  have u1y : (w.alloc (.cells #[.int .i64 (a.did : Int), .bool a.done, .int .i64 a.bad] 59)).cell? ⟨r, 1, none⟩ = some (.slice (some ⟨lb, off, none⟩) (q + 1) cap) := by rw [← hl0]; exact hby.cell 1
  have u2y : (w.alloc (.cells #[.int .i64 (a.did : Int), .bool a.done, .int .i64 a.bad] 59)).cell? ⟨r, 2, none⟩ = some (.int .i64 (n : Int)) := hby.cell 2
  have ufy := hby.frozen 2
  have i1 : (0 : Int) ≤ (n : Int) := by omega
  have i2 : ¬ (n : Int) < (q : Int) + 1 := by omega
  have i3 : (0 : Int) ≤ (q : Int) := by omega
  have i4 : (q : Int) < (q : Int) + 1 := by omega
  have i5 : (0 : Int) < (q : Int) + 1 := by omega
  have i6 : q ≤ 1000 := by omega
  have hrw : r ≠ w.heap.size := fun e => by have := h.blk.lt; omega
  have hlbw : lb ≠ w.heap.size := fun e => by omega
  have hlr : lb ≠ r := h.lr
  clear h hl hl0 hc hcell hca XA hN hq ha hbz hby
  go_enter Try.func28, Try.ntmps28
  go_wp2
  go_region
  go_wp2
  go_region
  go_wp2
  obtain ⟨W1, hW1⟩ : ∃ W1, W1 = ((w.alloc (.cells #[.int .i64 (a.did : Int), .bool a.done, .int .i64 a.bad] 59)).setCell ⟨r, 2, none⟩ (.int .i64 ((n : Int) + 1))).drew.drew := ⟨_, rfl⟩
  rw [← hW1]
  obtain ⟨X, hX⟩ : ∃ X, X = w.heap.size := ⟨_, rfl⟩
  rw [← hX]
  have o1 : Only [r] w W1 := by rw [hW1]; exact (((Only.refl _ w).alloc _).setCell (Or.inl (by simp)) _).drew.drew
  have b1 : Blk W1 r 63 (runC m l (n + 1)) := by rw [hW1]; exact ((H.out.blk.alloc _).set_ 2 _).drew.drew
  have c1 : Blk W1 X 59 (stepC (xAt cs n)).toArray := by rw [hW1, hX, HXA.out]; exact ((Blk.new w _ _).far (by exact fun e => hrw e.symm) _).drew.drew
  have m1 : Mems W1 m B M K := H.out.mem.only o1 (fun k hk hm => H.out.far (by simp at hm; rw [← hm]; exact hk))
  have s1 := H.out.steps.only o1 (by simpa using H.out.lr)
  have hXf : X ∉ footM m B M := fun hc => by have := H.out.mem.is.foot_lt X hc; omega
  have hXr : X ≠ r := fun e => by have := H.out.blk.lt; omega
  have hs1 := o1.size
  have hlt1 : r < W1.heap.size ∧ X < W1.heap.size := ⟨b1.lt, c1.lt⟩
  obtain ⟨D, hD⟩ : ∃ D, D = (xAt cs n).did := ⟨_, rfl⟩
  have hD9 : D ≤ 9 := by rw [hD]; exact hdid
  have HD := hid hD
  have O1 := hid o1
  have B1 := hid b1
  have C1 := hid c1
  have M1 := hid m1
  have S1 := hid s1
  have XF := hid hXf
  have HX := hid hX
  have HLT := hid hlt1
  clear o1 b1 c1 m1 s1 hXf hX hW1 hs1 hlt1 hD u1z u2z ufz a0z a1z a2z u1y u2y ufy
  go_loopw [5] (fun i wr => ∃ (k : Nat) (M2 : MemS), k ≤ D ∧ i = .int .i64 k ∧ Hid (Mems wr m B M2 (K + k)) ∧ Hid (Went m B W1 M wr M2 k) ∧ Hid (k = 0 → M2 = M)) (fun i _ => (D - (intOf i).toNat))
  case atStart => exact ⟨0, M, by omega, rfl, M1.out, Went.refl _ _ _ _, fun _ => rfl⟩
  case round =>
    obtain ⟨k, M2, hk, rfl, hMs, hWt, hZe⟩ := hrel
    have b2 := hWt.out.blk B1.out H.out.far
    have c2 := hWt.out.blk C1.out XF.out
    have y0 : wr.cell? ⟨X, 0, none⟩ = some (.int .i64 (D : Int)) := by rw [HD.out]; exact c2.cell 0
    have z0 : wr.cell? ⟨r, 0, none⟩ = some (ptrV m) := b2.cell 0
    have z2 : wr.cell? ⟨r, 2, none⟩ = some (.int .i64 ((n : Int) + 1)) := b2.cell 2
    have zd0 : wr.drew.cell? ⟨r, 0, none⟩ = some (ptrV m) := z0
    have zd2 : wr.drew.cell? ⟨r, 2, none⟩ = some (.int .i64 ((n : Int) + 1)) := z2
    have j1 : (0 : Int) ≤ (k : Int) := by omega
    by_cases hlt : k < D
    · have j2 : (k : Int) < (D : Int) := by omega
      have hc4 : k % 4 = 0 ∨ k % 4 = 1 ∨ k % 4 = 2 ∨ k % 4 = 3 := by omega
      clear b2 c2
      rcases hc4 with hc | hc | hc | hc
      · have j3 : (k : Int) % 4 = 0 := by omega
        clear hc
        go_wp2_with fail
        refine (Load_p m B M2 (K + k) _ hMs.out).mono ?_
        rintro e w2 ⟨⟨v, rfl⟩, M3, h3, h4⟩
        have H3 := hid h3
        have H4 := hid (hWt.out.trans h4)
        clear h3 h4 hMs hWt y0 z0 z2 zd0 zd2
        go_wp2
        go_roundw
        case rel => exact ⟨k + 1, M3, by omega, by go_num, H3.out, H4.out, fun h => by omega⟩
        case measure => simp [intOf]; omega
      · have j3 : (k : Int) % 4 = 1 := by omega
        clear hc
        have HS := hid (Store_p m B M2 (K + k) ((n : Int) + 1) _ (hMs.out.only (Only.refl [] wr).drew (fun _ _ h => by cases h)) (by omega))
        have hwr : IntKind.u64.wrap ((n : Int) + 1) = (n : Int) + 1 := IntWalk.u64_in _ (by omega)
        go_wp2_with fail
        go_region_with (first | (go_at_call 65; refine HS.out.mono ?_; rintro e w2 ⟨⟨v, rfl⟩, M3, h3, h4⟩; have H3 := hid h3; have H4 := hid (hWt.out.trans h4.undrew); clear h3 h4))
        all_goals
          try go_simp
          try simp only [Act.put, List.setIfInBounds_toArray, List.set_cons_zero, List.set_cons_succ]
          clear hMs hWt y0 z0 z2 zd0 zd2
          go_wp2
          go_roundw
          case rel => exact ⟨k + 1, M3, by omega, by go_num, H3.out, H4.out, fun h => by omega⟩
          case measure => simp [intOf]; omega
      · have j3 : (k : Int) % 4 = 2 := by omega
        clear hc
        go_wp2_with fail
        refine (Flush_p m B M2 (K + k) _ hMs.out (by omega)).mono ?_
        rintro e w2 ⟨⟨v, rfl⟩, M3, h3, h4⟩
        have H3 := hid h3
        have H4 := hid (hWt.out.trans h4)
        clear h3 h4 hMs hWt y0 z0 z2 zd0 zd2
        go_wp2
        go_roundw
        case rel => exact ⟨k + 1, M3, by omega, by go_num, H3.out, H4.out, fun h => by omega⟩
        case measure => simp [intOf]; omega
      · have j3 : (k : Int) % 4 = 3 := by omega
        clear hc
        go_wp2_with fail
        refine (Fence_p m B M2 (K + k) _ hMs.out (by omega)).mono ?_
        rintro e w2 ⟨⟨v, rfl⟩, M3, h3, h4⟩
        have H3 := hid h3
        have H4 := hid (hWt.out.trans h4)
        clear h3 h4 hMs hWt y0 z0 z2 zd0 zd2
        go_wp2
        go_roundw
        case rel => exact ⟨k + 1, M3, by omega, by go_num, H3.out, H4.out, fun h => by omega⟩
        case measure => simp [intOf]; omega
    · obtain rfl : k = D := by omega
      have hf : StepPost w r m B M K l cs lb n (.returned (.tuple #[.bool (xAt cs n).done, .int .i64 (xAt cs n).bad])) wr.drew := by
        refine ⟨rfl, M2, ⟨b2.drew, ?_, ?_, hWt.out.far HLT.out.1 H.out.far, ?_, H.out.lr, ?_⟩, ?_, ?_, ?_, fun h => hZe.out (HD.out.trans h)⟩
        · rw [← HD.out]; exact hMs.out.only (Only.refl [] wr).drew (fun _ _ h => by cases h)
        · exact (S1.out.only hWt.out.only H.out.lfar).only (Only.refl [] wr).drew (by simp)
        · exact hWt.out.far (Nat.lt_of_lt_of_le H.out.lt O1.out.size) H.out.lfar
        · exact Nat.lt_of_lt_of_le H.out.lt (Nat.le_trans O1.out.size hWt.out.only.size)
        · exact ((O1.out.mono (fun x hx => by simp at hx; simp [hx])).trans hWt.out.only (fun x hx => Or.inl (by simp [hx]))).drew
        · exact fun k hk => by
            rcases hWt.out.foot k hk with h | h
            · exact Or.inl h
            · exact Or.inr (Nat.le_trans O1.out.size h)
        · have := hWt.out.tot
          rw [← HD.out]; exact this
      have HF := hid hf
      have y1 : wr.drew.cell? ⟨X, 1, none⟩ = some (.bool (xAt cs n).done) := c2.drew.cell 1
      have y2 : wr.drew.cell? ⟨X, 2, none⟩ = some (.int .i64 (xAt cs n).bad) := c2.drew.cell 2
      clear hf b2 c2 hMs hWt hk hlt
      go_wp2
      go_region
      all_goals
        try simp only [Act.put, List.setIfInBounds_toArray, List.set_cons_zero, List.set_cons_succ]
        go_wp2
        go_ret2
        exact HF.out

theorem step_z (r m : Nat) (B : MB) (M : MemS) (K : Nat) (l : Value) (cs : List StepT) (lb n : Nat) (hlen : cs.length ≤ 1000) (hn : n ≤ 1000) (hK : K ≤ 1000000) (hdid : (xAt cs n).did ≤ 9) (w : World) (h : RunOK w r m B M K l cs lb n) :
    Calls Try.prog 28 #[.pointer (some ⟨r, 0, none⟩)] w (StepPost w r m B M K l cs lb n) := by
  by_cases h0 : cs = []
  · exact step_none r m B M K l cs lb n h0 hn hK hdid w h
  · have hp : 0 < cs.length := Nat.pos_of_ne_zero (fun e => h0 (List.eq_nil_of_length_eq_zero e))
    by_cases hlt : n < cs.length
    · exact step_some r m B M K l cs lb n hlen hlt hn hK hdid w h
    · exact step_past r m B M K l cs lb n hlen (by omega) hp hn hK hdid w h

end Go.Proofs.Ytbkaemajjaiklaa
