/- A row of addresses sorted: how long a number is in bits; a row shaken. -/
import Derived.Lib.BitFns
import Derived.Lib.ItoaNum
import Derived.Lib.Strings
import Derived.Lib.Slices
import Derived.Lib.Small
import Derived.Lib.Walk
import Derived.Laws.Bits64b
import Derived.Sort.LotD5
import Derived.Sort.Row
import Derived.Test.YtbkaemajjaiklaaSortG
namespace Go.Proofs.Ytbkaemajjaiklaa
open Go.RowKit
open Go.Sort (swp ltInt PermIn permIn_refl permIn_trans swp_permIn)
set_option linter.unusedVariables false
set_option linter.unusedSimpArgs false

set_option maxRecDepth 100000 in
set_option maxHeartbeats 4000000 in
theorem Len64_s (x : Int) (w : World) (h0 : 0 ≤ x) (h1 : x ≤ 4294967295) :
    Calls Try.prog 126 #[.int .u64 x] w fun e w' => e = .returned (.int .i64 (Lib.bitLen x.toNat)) ∧ w' = w := by
  by_cases c1 : 65536 ≤ x
  · by_cases c2 : 16777216 ≤ x
    · have d1 : ¬ x / 65536 < 256 := by omega
      have y0 : 0 ≤ x / 65536 / 256 := by omega
      have y1 : x / 65536 / 256 ≤ 255 := by omega
      have hix := fun w => Lib.run_index_len8tab (P := Try.prog) w 9 .u8 (x / 65536 / 256) Try.underlying9 y0 y1
      have l8 := Lib.bitLen_le8' (x / 65536 / 256) y0 y1
      have e8 := Lib.len8_of (x / 65536 / 256) y0 y1
      obtain ⟨L, hL⟩ : ∃ L, L = Lib.bitLen (x / 65536 / 256).toNat := ⟨_, rfl⟩
      rw [← hL] at l8 e8
      rw [e8] at hix
      have fin : Hid (Lib.bitLen x.toNat = 24 + L) := by
        show Lib.bitLen x.toNat = 24 + L
        rw [hL]
        have e : (x / 65536 / 256).toNat = x.toNat / 16777216 := by omega
        rw [e]; exact Lib.bitLen_shift24 x.toNat (by omega) (by omega)
      have hLi : (L : Int) ≤ 8 := by omega
      have hL0 : (0 : Int) ≤ (L : Int) := by omega
      clear hL e8 l8
      go_enter Try.func126, Try.ntmps126
      go_wp2
      go_ret
      rw [fin.out]
      exact ⟨rfl, rfl⟩
    · have d1 : x / 65536 < 256 := by omega
      have y0 : 0 ≤ x / 65536 := by omega
      have y1 : x / 65536 ≤ 255 := by omega
      have hix := fun w => Lib.run_index_len8tab (P := Try.prog) w 9 .u8 (x / 65536) Try.underlying9 y0 y1
      have l8 := Lib.bitLen_le8' (x / 65536) y0 y1
      have e8 := Lib.len8_of (x / 65536) y0 y1
      obtain ⟨L, hL⟩ : ∃ L, L = Lib.bitLen (x / 65536).toNat := ⟨_, rfl⟩
      rw [← hL] at l8 e8
      rw [e8] at hix
      have fin : Hid (Lib.bitLen x.toNat = 16 + L) := by
        show Lib.bitLen x.toNat = 16 + L
        rw [hL]
        have e : (x / 65536).toNat = x.toNat / 65536 := by omega
        rw [e]; exact Lib.bitLen_shift16 x.toNat (by omega) (by omega)
      have hLi : (L : Int) ≤ 8 := by omega
      have hL0 : (0 : Int) ≤ (L : Int) := by omega
      clear hL e8 l8
      go_enter Try.func126, Try.ntmps126
      go_wp2
      go_ret
      rw [fin.out]
      exact ⟨rfl, rfl⟩
  · by_cases c2 : 256 ≤ x
    · have d1 : ¬ x < 256 := by omega
      have y0 : 0 ≤ x / 256 := by omega
      have y1 : x / 256 ≤ 255 := by omega
      have hix := fun w => Lib.run_index_len8tab (P := Try.prog) w 9 .u8 (x / 256) Try.underlying9 y0 y1
      have l8 := Lib.bitLen_le8' (x / 256) y0 y1
      have e8 := Lib.len8_of (x / 256) y0 y1
      obtain ⟨L, hL⟩ : ∃ L, L = Lib.bitLen (x / 256).toNat := ⟨_, rfl⟩
      rw [← hL] at l8 e8
      rw [e8] at hix
      have fin : Hid (Lib.bitLen x.toNat = 8 + L) := by
        show Lib.bitLen x.toNat = 8 + L
        rw [hL]
        have e : (x / 256).toNat = x.toNat / 256 := by omega
        rw [e]; exact Lib.bitLen_shift8 x.toNat (by omega) (by omega)
      have hLi : (L : Int) ≤ 8 := by omega
      have hL0 : (0 : Int) ≤ (L : Int) := by omega
      clear hL e8 l8
      go_enter Try.func126, Try.ntmps126
      go_wp2
      go_ret
      rw [fin.out]
      exact ⟨rfl, rfl⟩
    · have d1 : x < 256 := by omega
      have y0 : 0 ≤ x := by omega
      have y1 : x ≤ 255 := by omega
      have hix := fun w => Lib.run_index_len8tab (P := Try.prog) w 9 .u8 (x) Try.underlying9 y0 y1
      have l8 := Lib.bitLen_le8' (x) y0 y1
      have e8 := Lib.len8_of (x) y0 y1
      obtain ⟨L, hL⟩ : ∃ L, L = Lib.bitLen (x).toNat := ⟨_, rfl⟩
      rw [← hL] at l8 e8
      rw [e8] at hix
      have fin : Hid (Lib.bitLen x.toNat = L) := by
        show Lib.bitLen x.toNat = L
        rw [hL]
      have hLi : (L : Int) ≤ 8 := by omega
      have hL0 : (0 : Int) ≤ (L : Int) := by omega
      clear hL e8 l8
      go_enter Try.func126, Try.ntmps126
      go_wp2
      go_ret
      rw [fin.out]
      exact ⟨rfl, rfl⟩

theorem Len_s (x : Int) (w : World) (h0 : 0 ≤ x) (h1 : x ≤ 4294967295) :
    Calls Try.prog 93 #[.int .u64 x] w fun e w' => e = .returned (.int .i64 (Lib.bitLen x.toNat)) ∧ w' = w := by
  go_enter Try.func93, Try.ntmps93
  go_wp2_with (go_at_call 126; refine (Len64_s x _ h0 h1).mono ?_; rintro e w' ⟨rfl, rfl⟩)
  go_ret
  exact ⟨rfl, rfl⟩

/-- the two lengths in bits are one -/
theorem bitLen_z (x : Nat) (h : x < 2 ^ 64) : Lib.bitLen x = Go.Sort.bitsLen x := by
  have h0 := fun k => Go.Sort.bitsLen_le_iff x k
  by_cases hx : x = 0
  · subst hx; rfl
  · obtain ⟨h1, h2, h3⟩ := Lib.bitLenAux_bounds 64 x (by simpa using h) hx
    have h4 : Lib.bitLen x = Lib.bitLenAux 64 x := rfl
    rw [h4]
    generalize Lib.bitLenAux 64 x = q at *
    have a1 : Go.Sort.bitsLen x ≤ q := (h0 q).2 h3
    by_cases a2 : q ≤ Go.Sort.bitsLen x
    · omega
    · exfalso
      have a3 := (h0 (q - 1)).1 (by omega)
      omega
theorem two_pow_z (k : Nat) (hk : k ≤ 62) : IntKind.u64.wrap ((2 : Int) ^ k) = ((2 ^ k : Nat) : Int) := by
  have h : (2 : Nat) ^ k ≤ 2 ^ 62 := Nat.pow_le_pow_right (by decide) hk
  rw [IntKind.wrap_u64, show ((2 : Int) ^ k) = ((2 ^ k : Nat) : Int) by push_cast; rfl]
  generalize (2 : Nat) ^ k = p at h
  omega

set_option maxRecDepth 100000 in
set_option maxHeartbeats 4000000 in
theorem nextPow_s (m : Nat) (hm : m ≤ 1000000000) (w : World) :
    Calls Try.prog 130 #[.int .i64 (m : Int)] w fun e w' => e = .returned (.int .u64 ((2 ^ Go.Sort.bitsLen m : Nat) : Int)) ∧ w' = w := by
  have hc := Len_s (m : Int) w (by omega) (by omega)
  rw [Int.toNat_natCast, bitLen_z m (by omega)] at hc
  have hk : Go.Sort.bitsLen m ≤ 62 := (Go.Sort.bitsLen_le_iff m 62).2 (by omega)
  have hp := two_pow_z (Go.Sort.bitsLen m) hk
  have HC := hid hc
  have m0 : (0 : Int) ≤ (m : Int) := by omega
  have m9 : (m : Int) ≤ 1000000000 := by omega
  clear hc
  go_enter Try.func130, Try.ntmps130
  go_wp2_with fail
  refine HC.out.mono ?_
  rintro e w2 ⟨rfl, rfl⟩
  go_wp2
  go_ret
  exact ⟨rfl, rfl⟩

set_option maxRecDepth 100000 in
set_option maxHeartbeats 4000000 in
theorem xor_s (rb X : Nat) (hX : X < 18446744073709551616) (w : World) (h : Blk w rb 201 #[.int .u64 (X : Int)]) :
    Calls Try.prog 131 #[.pointer (some ⟨rb, 0, none⟩)] w fun e w' => (∃ C : Nat, C < 18446744073709551616 ∧ e = .returned (.int .u64 (C : Int)) ∧ Blk w' rb 201 #[.int .u64 (C : Int)]) ∧ Only [rb] w w' := by
  obtain ⟨A, hA⟩ : ∃ A : Nat, A = X ^^^ (X * 8192 % 18446744073709551616) := ⟨_, rfl⟩
  obtain ⟨B, hB⟩ : ∃ B : Nat, B = A ^^^ (A / 128) := ⟨_, rfl⟩
  obtain ⟨C, hC⟩ : ∃ C : Nat, C = B ^^^ (B * 131072 % 18446744073709551616) := ⟨_, rfl⟩
  have lA : A < 18446744073709551616 := by rw [hA]; exact Nat.xor_lt_two_pow (n := 64) (by omega) (by omega)
  have lB : B < 18446744073709551616 := by rw [hB]; exact Nat.xor_lt_two_pow (n := 64) (by omega) (by omega)
  have lC : C < 18446744073709551616 := by rw [hC]; exact Nat.xor_lt_two_pow (n := 64) (by omega) (by omega)
  have e1 : bits .xor .u64 (X : Int) (IntKind.u64.wrap ((X : Int) * 8192)) = (A : Int) := by
    rw [IntKind.wrap_u64, show ((X : Int) * 8192 % 18446744073709551616) = ((X * 8192 % 18446744073709551616 : Nat) : Int) by omega, bits_xor_u64_nat _ _ hX (by omega), hA]
  have e2 : bits .xor .u64 (A : Int) ((A : Int) / 128) = (B : Int) := by
    rw [show ((A : Int) / 128) = ((A / 128 : Nat) : Int) by omega, bits_xor_u64_nat _ _ lA (by omega), hB]
  have e3 : bits .xor .u64 (B : Int) (IntKind.u64.wrap ((B : Int) * 131072)) = (C : Int) := by
    rw [IntKind.wrap_u64, show ((B : Int) * 131072 % 18446744073709551616) = ((B * 131072 % 18446744073709551616 : Nat) : Int) by omega, bits_xor_u64_nat _ _ lB (by omega), hC]
  have LC := hid lC
  clear hA hB hC lA lB lC hX
  have hc : w.cell? ⟨rb, 0, none⟩ = some (.int .u64 (X : Int)) := h.cell 0
  have hf := h.frozen 0
  have hss : ∀ v v', (w.setCell ⟨rb, 0, none⟩ v).setCell ⟨rb, 0, none⟩ v' = w.setCell ⟨rb, 0, none⟩ v' := by
    intro v v'
    rw [Go.Sort.setCell_eq, Go.Sort.setCell_eq, Go.Sort.mapBlock_mapBlock, Go.Sort.setCell_eq]
    congr 1
    funext c
    simp
  have H := hid h
  clear h
  go_enter Try.func131, Try.ntmps131
  go_wp2
  go_region
  all_goals go_wp2
  all_goals go_region
  all_goals go_wp2
  all_goals go_region
  all_goals go_wp2
  go_ret
  refine ⟨⟨C, LC.out, rfl, H.out.set_ 0 _⟩, ?_⟩
  exact ((((Only.refl [rb] w).setCell (p := ⟨rb, 0, none⟩) (Or.inl (List.mem_singleton.2 rfl)) _).drew).drew).drew

set_option maxRecDepth 100000 in
set_option maxHeartbeats 4000000 in
theorem break_s (g n cap : Nat) (d : Array Int) (tl : List Value) (a b : Nat) (hab : a ≤ b) (hb : b ≤ n) (hn : n ≤ 1000000000) (w : World) (h : RowS w g n d tl) :
    Calls Try.prog 118 #[.slice (some ⟨g, 0, none⟩) n cap, .int .i64 (a : Int), .int .i64 (b : Int)] w fun e w' =>
      (∃ r, e = .returned r) ∧ (∃ d', RowS w' g n d' tl ∧ PermIn a b d d') ∧ Only [g] w w' := by
  obtain ⟨L, hL⟩ : ∃ L, L = b - a := ⟨_, rfl⟩
  have e1 : (b : Int) - (a : Int) = (L : Int) := by omega
  have w1 := wrapN (q := L) (by omega)
  have L0 : (0 : Int) ≤ (L : Int) := by omega
  have L9 : (L : Int) ≤ 1000000000 := by omega
  by_cases h8 : 8 ≤ L
  · have d8 : (8 : Int) ≤ (L : Int) := by omega
    have d8' : decide ((8 : Int) ≤ (L : Int)) = true := by simp; omega
    have HNP := hid (nextPow_s L (by omega))
    have H := hid h
    have HF := hid (show a ≤ b ∧ b ≤ n ∧ n ≤ 1000000000 ∧ L = b - a ∧ 8 ≤ L from ⟨hab, hb, hn, hL, h8⟩)
    clear h hab hb hn hL
    go_enter Try.func118, Try.ntmps118
    obtain ⟨rb, hrb⟩ : ∃ rb, rb = w.heap.size := ⟨_, rfl⟩
    obtain ⟨M, hM⟩ : ∃ M, M = 2 ^ Go.Sort.bitsLen L := ⟨_, rfl⟩
    have hM1 : 1 ≤ M := by rw [hM]; exact Nat.two_pow_pos _
    have hM2 : M ≤ 2 * L := by rw [hM]; exact Go.Sort.two_pow_bitsLen_le (by omega)
    rw [← hM] at HNP
    obtain ⟨q, hq⟩ : ∃ q, q = L / 4 := ⟨_, rfl⟩
    obtain ⟨q2, hq2⟩ : ∃ q2, q2 = 2 * q := ⟨_, rfl⟩
    obtain ⟨q3, hq3⟩ : ∃ q3, q3 = a + q2 := ⟨_, rfl⟩
    obtain ⟨i0, hi0⟩ : ∃ i, i = q3 - 1 := ⟨_, rfl⟩
    obtain ⟨i2, hi2⟩ : ∃ i, i = q3 + 1 := ⟨_, rfl⟩
    have e2 : ((L : Int)).tdiv 4 = (q : Int) := by rw [Int.tdiv_eq_ediv_of_nonneg (by omega)]; omega
    have e3 : (q : Int) * 2 = (q2 : Int) := by omega
    have e4 : (a : Int) + (q2 : Int) = (q3 : Int) := by omega
    have e5 : (q3 : Int) - 1 = (i0 : Int) := by have := HF.out; omega
    have e6 : (q3 : Int) + 1 = (i2 : Int) := by omega
    have wq := wrapN (q := q) (by omega)
    have wq2 := wrapN (q := q2) (by omega)
    have wq3 := wrapN (q := q3) (by have := HF.out; omega)
    have wq4 := wrapN (q := i0) (by have := HF.out; omega)
    have wq5 := wrapN (q := i2) (by have := HF.out; omega)
    have HQ := hid (show q = L / 4 ∧ q2 = 2 * q ∧ q3 = a + q2 ∧ i0 = q3 - 1 ∧ i2 = q3 + 1 from ⟨hq, hq2, hq3, hi0, hi2⟩)
    have HM := hid (show 1 ≤ M ∧ M ≤ 2 * L from ⟨hM1, hM2⟩)
    obtain ⟨W0, hW0⟩ : ∃ W0, W0 = w.alloc (.cells #[.int .u64 (L : Int)] 201) := ⟨_, rfl⟩
    have O0 : Hid (Only [g] w W0) := by rw [hW0]; exact (Only.refl _ _).alloc _
    have R0 : Hid (RowS W0 g n d tl) := by rw [hW0]; exact H.out.only ((Only.refl [] w).alloc _) (by simp)
    have X0 : Hid (Blk W0 rb 201 #[.int .u64 (L : Int)]) := by rw [hW0, hrb]; exact Blk.new w _ _
    have NE : Hid (rb ≠ g ∧ w.heap.size ≤ rb) := by have := H.out.blk.lt; exact ⟨by omega, by omega⟩
    clear hq hq2 hq3 hi0 hi2 hM hM1 hM2 h8
    go_wp2_with fail
    refine (HNP.out _).mono ?_
    rintro e w2 ⟨rfl, rfl⟩
    rw [← hrb, ← hW0]
    clear hrb hW0
    go_wp2
    go_loopw [9] (fun vi wr => ∃ (i v : Nat) (dk : Array Int), vi = .int .i64 (i : Int) ∧ Hid (i0 ≤ i ∧ i ≤ i2 + 1) ∧ Hid (v < 18446744073709551616 ∧ Blk wr rb 201 #[.int .u64 (v : Int)]) ∧ Hid (RowS wr g n dk tl) ∧ Hid (PermIn a b d dk) ∧ Hid (Only [g, rb] W0 wr)) (fun vi _ => i2 + 1 - (intOf vi).toNat)
    case atStart => exact ⟨i0, L, d, rfl, (by have := HQ.out; omega : i0 ≤ i0 ∧ i0 ≤ i2 + 1), ⟨by have := HF.out; omega, X0.out⟩, R0, permIn_refl d a b, Only.refl _ _⟩
    case round =>
      obtain ⟨i, v, dk, rfl, HI, hX, hR, hP, hO⟩ := hrel
      by_cases hle : i ≤ i2
      · have d1 : (i : Int) ≤ (i2 : Int) := by omega
        have HLE := hid hle
        clear hle
        go_wp2_with fail
        refine (xor_s rb v hX.out.1 wr hX.out.2).mono ?_
        rintro e w1 ⟨⟨C, hC, rfl, hB1⟩, hO1⟩
        obtain ⟨O, hO2⟩ : ∃ O : Nat, O = C &&& (M - 1) := ⟨_, rfl⟩
        have lO : O ≤ M - 1 := by rw [hO2]; exact Nat.and_le_right
        have eM : (M : Int) - 1 = ((M - 1 : Nat) : Int) := by have := HM.out; omega
        have wM : IntKind.u64.wrap ((M : Int) - 1) = ((M : Int) - 1) := by rw [IntKind.wrap_u64]; have := HM.out; have := HF.out; omega
        have eAnd : bits .and .u64 (C : Int) ((M : Int) - 1) = (O : Int) := by
          rw [eM, bits_and_u64_nat _ _ hC (by have := HM.out; have := HF.out; omega), hO2]
        have wO := wrapN (q := O) (by have := HM.out; have := HF.out; omega)
        have oM : O < M := by have := HM.out; omega
        clear hO2 eM lO
        by_cases hLO : L ≤ O
        · have dO : (L : Int) ≤ (O : Int) := by omega
          obtain ⟨j, hj⟩ : ∃ j, j = a + (O - L) := ⟨_, rfl⟩
          have eO : (O : Int) - (L : Int) = ((O - L : Nat) : Int) := by omega
          have wO2 := wrapN (q := O - L) (by have := HM.out; have := HF.out; omega)
          have hoL : O - L < L := by have := HM.out; omega
          obtain ⟨o2, ho2⟩ : ∃ o2, o2 = O - L := ⟨_, rfl⟩
          rw [← ho2] at eO wO2 hoL hj
          have ej : (a : Int) + (o2 : Int) = (j : Int) := by omega
          clear ho2 oM
          have wj := wrapN (q := j) (by have := HF.out; omega)
          have bi : i < n := by have := HI.out; have := HQ.out; have := HF.out; omega
          have bj : j < n := by have := HF.out; omega
          have ip : (0 : Int) ≤ (i : Int) := by omega
          have inn : (i : Int) < (n : Int) := by omega
          have i9 : (i : Int) ≤ 1000000000 := by have := HF.out; omega
          have jp : (0 : Int) ≤ (j : Int) := by omega
          have jn : (j : Int) < (n : Int) := by omega
          have hRn := hid (hR.out.only hO1 (by simpa using NE.out.1.symm))
          obtain ⟨x0, hx0⟩ : ∃ x, x = dk[i]! := ⟨_, rfl⟩
          obtain ⟨xq, hxq⟩ : ∃ x, x = dk[j]! := ⟨_, rfl⟩
          have c0 : w1.cell? ⟨g, i, none⟩ = some (.int .u64 x0) := by rw [hx0]; exact hRn.out.cell bi
          have cq : w1.cell? ⟨g, j, none⟩ = some (.int .u64 xq) := by rw [hxq]; exact hRn.out.cell bj
          have f0 := hRn.out.frozen i
          have fq := hRn.out.frozen j
          have HX0 := hid hx0
          have HXQ := hid hxq
          have B0 := hid bi
          have BQ := hid bj
          have HB1 := hid hB1
          have HO1 := hid (hO.out.trans hO1 (fun x hx => Or.inl (by simp at hx; simp [hx])))
          have HJ := hid (show a ≤ j ∧ j < b by have := HF.out; omega)
          have HIB := hid (show a ≤ i ∧ i < b by have := HI.out; have := HQ.out; have := HF.out; omega)
          have HC := hid hC
          clear hx0 hxq bi bj hB1 hO1 hj hC
          by_cases hEq : i = j
          all_goals
            go_wp2
            go_region
            all_goals go_wp2
            go_roundw
            case rel =>
              refine ⟨i + 1, C, swp dk i j, by go_num, (⟨by have := HI.out; omega, by have := HI.out; have := HLE.out; omega⟩ : i0 ≤ i + 1 ∧ i + 1 ≤ i2 + 1), ⟨HC.out, ?_⟩, ?_, ?_, ?_⟩
              · exact ((only_two w1 g _ _ _ _).drew).blk HB1.out (by simpa using NE.out.1)
              · first | exact (RowS.swpV hRn.out B0.out BQ.out HX0.out HXQ.out).drew | (subst hEq; exact (RowS.swpV hRn.out B0.out BQ.out HXQ.out HXQ.out).drew)
              · exact permIn_trans _ _ _ a b hP.out (swp_permIn dk a b i j HIB.out.1 HIB.out.2 HJ.out.1 HJ.out.2 (by rw [hR.out.size]; exact HF.out.2.1))
              · exact HO1.out.trans ((only_two w1 g _ _ _ _).drew) (fun x hx => Or.inl (by simp at hx; simp [hx]))
            case measure => simp [intOf]; have := HLE.out; omega
        · have dO : ¬ (L : Int) ≤ (O : Int) := by omega
          obtain ⟨j, hj⟩ : ∃ j, j = a + O := ⟨_, rfl⟩
          have hoL : O < L := by omega
          have ej : (a : Int) + (O : Int) = (j : Int) := by omega
          have wj := wrapN (q := j) (by have := HF.out; omega)
          have bi : i < n := by have := HI.out; have := HQ.out; have := HF.out; omega
          have bj : j < n := by have := HF.out; omega
          have ip : (0 : Int) ≤ (i : Int) := by omega
          have inn : (i : Int) < (n : Int) := by omega
          have i9 : (i : Int) ≤ 1000000000 := by have := HF.out; omega
          have jp : (0 : Int) ≤ (j : Int) := by omega
          have jn : (j : Int) < (n : Int) := by omega
          have hRn := hid (hR.out.only hO1 (by simpa using NE.out.1.symm))
          obtain ⟨x0, hx0⟩ : ∃ x, x = dk[i]! := ⟨_, rfl⟩
          obtain ⟨xq, hxq⟩ : ∃ x, x = dk[j]! := ⟨_, rfl⟩
          have c0 : w1.cell? ⟨g, i, none⟩ = some (.int .u64 x0) := by rw [hx0]; exact hRn.out.cell bi
          have cq : w1.cell? ⟨g, j, none⟩ = some (.int .u64 xq) := by rw [hxq]; exact hRn.out.cell bj
          have f0 := hRn.out.frozen i
          have fq := hRn.out.frozen j
          have HX0 := hid hx0
          have HXQ := hid hxq
          have B0 := hid bi
          have BQ := hid bj
          have HB1 := hid hB1
          have HO1 := hid (hO.out.trans hO1 (fun x hx => Or.inl (by simp at hx; simp [hx])))
          have HJ := hid (show a ≤ j ∧ j < b by have := HF.out; omega)
          have HIB := hid (show a ≤ i ∧ i < b by have := HI.out; have := HQ.out; have := HF.out; omega)
          have HC := hid hC
          clear hx0 hxq bi bj hB1 hO1 hj hC
          by_cases hEq : i = j
          all_goals
            go_wp2
            go_region
            all_goals go_wp2
            go_roundw
            case rel =>
              refine ⟨i + 1, C, swp dk i j, by go_num, (⟨by have := HI.out; omega, by have := HI.out; have := HLE.out; omega⟩ : i0 ≤ i + 1 ∧ i + 1 ≤ i2 + 1), ⟨HC.out, ?_⟩, ?_, ?_, ?_⟩
              · exact ((only_two w1 g _ _ _ _).drew).blk HB1.out (by simpa using NE.out.1)
              · first | exact (RowS.swpV hRn.out B0.out BQ.out HX0.out HXQ.out).drew | (subst hEq; exact (RowS.swpV hRn.out B0.out BQ.out HXQ.out HXQ.out).drew)
              · exact permIn_trans _ _ _ a b hP.out (swp_permIn dk a b i j HIB.out.1 HIB.out.2 HJ.out.1 HJ.out.2 (by rw [hR.out.size]; exact HF.out.2.1))
              · exact HO1.out.trans ((only_two w1 g _ _ _ _).drew) (fun x hx => Or.inl (by simp at hx; simp [hx]))
            case measure => simp [intOf]; have := HLE.out; omega
      · have d1 : ¬ (i : Int) ≤ (i2 : Int) := by omega
        clear hle
        go_wp2
        go_end0
        exact ⟨⟨_, rfl⟩, ⟨dk, hR.out, hP.out⟩, O0.out.trans hO.out (fun x hx => by simp at hx; rcases hx with rfl | rfl; exact Or.inl (by simp); exact Or.inr NE.out.2)⟩
  · have d8 : ¬ (8 : Int) ≤ (L : Int) := by omega
    have H := hid h
    clear h hab hb hn hL
    go_enter Try.func118, Try.ntmps118
    go_wp2
    go_end0
    exact ⟨⟨_, rfl⟩, ⟨d, H.out, permIn_refl d a b⟩, Only.refl _ _⟩

end Go.Proofs.Ytbkaemajjaiklaa
