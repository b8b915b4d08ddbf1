/- Contracts of the references of layer 3: Bytes, Header, Blocks, Block, Slabs. -/
import Derived.Test.YtbkaemajjaiklaaGreatGeoB
namespace Go.Proofs.YtbkaemajjaiklaaGreat
open Go.RowKit
set_option linter.unusedVariables false

set_option maxHeartbeats 400000 in
theorem RBytes_z (c : Int) (w : World) :
    Calls Tryz.prog 70 #[.int .i64 c] w fun e w' => e = .returned (.int .i64 (bytesZ c)) ∧ w = w' := by
  by_cases h1 : c < 1
  · have hz := hid (show bytesZ c = 0 from if_neg (by omega))
    go_enter Tryz.func70, Tryz.ntmps70
    go_wp2
    go_ret
    exact ⟨by rw [hz.out]; rfl, rfl⟩
  · by_cases h2 : 3 < c
    · have hz := hid (show bytesZ c = 0 from if_neg (by omega))
      go_enter Tryz.func70, Tryz.ntmps70
      go_wp2
      go_ret
      exact ⟨by rw [hz.out]; rfl, rfl⟩
    · have hz := hid (show bytesZ c = 64 * c from if_pos (by omega))
      go_enter Tryz.func70, Tryz.ntmps70
      go_wp2
      go_ret
      exact ⟨by rw [hz.out]; rfl, rfl⟩

set_option maxHeartbeats 400000 in
theorem RHeader_z (s : Int) (w : World) :
    Calls Tryz.prog 89 #[.int .i64 s] w fun e w' => e = .returned (.int .u64 (headerZ s)) ∧ w = w' := by
  by_cases h1 : s < 1
  · have hz := hid (show headerZ s = 0 from if_neg (by omega))
    go_enter Tryz.func89, Tryz.ntmps89
    go_wp2
    go_ret
    exact ⟨by rw [hz.out]; rfl, rfl⟩
  · by_cases h2 : 64 < s
    · have hz := hid (show headerZ s = 0 from if_neg (by omega))
      go_enter Tryz.func89, Tryz.ntmps89
      go_wp2
      go_ret
      exact ⟨by rw [hz.out]; rfl, rfl⟩
    · have hz := hid (show headerZ s = 1024 * s from if_pos (by omega))
      go_enter Tryz.func89, Tryz.ntmps89
      go_wp2
      go_ret
      exact ⟨by rw [hz.out]; rfl, rfl⟩

theorem blk_step (c k : Int) (hc : 1 ≤ c ∧ c ≤ 3) (hk : 0 ≤ k) : (64 + (k + 1) * bytesZ c ≤ 1024) = (k < blocksZ c) := by
  have h : c = 1 ∨ c = 2 ∨ c = 3 := by omega
  rcases h with rfl | rfl | rfl <;> simp [bytesZ, blocksZ] <;> omega

set_option maxHeartbeats 400000 in
theorem RBlocks_z (c : Int) (w : World) :
    Calls Tryz.prog 20 #[.int .i64 c] w fun e w' => e = .returned (.int .i64 (blocksZ c)) ∧ w = w' := by
  by_cases h : 1 ≤ c ∧ c ≤ 3
  · have hbz := hid (show bytesZ c = 64 * c from if_pos h)
    have hne : (bytesZ c == 0) = false := beq_eq_false_iff_ne.2 (by rw [hbz.out]; omega)
    have hle := bytesZ_le c
    obtain ⟨hl1, hl2⟩ := hle
    obtain ⟨hbl1, hbl2⟩ := blocksZ_le c
    go_enter Tryz.func20, Tryz.ntmps20
    go_wp2_with fail
    refine (RBytes_z _ _).mono ?_
    rintro e w2 ⟨rfl, rfl⟩
    go_wp2_with fail
    go_loop [3] (fun i => ∃ k : Nat, (k : Int) ≤ blocksZ c ∧ i = .int .i64 k) (fun i => (blocksZ c - intOf i).toNat)
    case atStart => exact ⟨0, by omega, rfl⟩
    case round =>
      obtain ⟨k, hk, rfl⟩ := hrel
      have hst := blk_step c k h (by omega)
      have hm0 : 0 ≤ ((k : Int) + 1) * bytesZ c := Int.mul_nonneg (by omega) (by omega)
      have hm1 : ((k : Int) + 1) * bytesZ c ≤ 16 * 192 := Int.mul_le_mul (by omega) hl2 hl1 (by omega)
      by_cases hlt : (k : Int) < blocksZ c
      · have hin : 64 + ((k : Int) + 1) * bytesZ c ≤ 1024 := by rw [hst]; exact hlt
        clear hst
        go_wp2_with fail
        refine (RBytes_z _ _).mono ?_
        rintro e w2 ⟨rfl, rfl⟩
        go_wp2
        go_round
        case rel => exact ⟨k + 1, by omega, by go_num⟩
        case measure => simp [intOf]; omega
      · have hin : ¬ 64 + ((k : Int) + 1) * bytesZ c ≤ 1024 := by rw [hst]; exact hlt
        have hz := hid (show blocksZ c = k by omega)
        clear hst
        go_wp2_with fail
        refine (RBytes_z _ _).mono ?_
        rintro e w2 ⟨rfl, rfl⟩
        go_wp2
        go_ret
        exact ⟨by rw [hz.out]; rfl, rfl⟩
  · have hz := hid (show blocksZ c = 0 by unfold blocksZ; rw [if_neg (by omega), if_neg (by omega), if_neg (by omega)])
    have hne : (bytesZ c == 0) = true := beq_iff_eq.2 (if_neg h)
    go_enter Tryz.func20, Tryz.ntmps20
    go_wp2_with fail
    refine (RBytes_z _ _).mono ?_
    rintro e w2 ⟨rfl, rfl⟩
    go_wp2
    go_ret
    exact ⟨by rw [hz.out]; rfl, rfl⟩


set_option maxHeartbeats 400000 in
theorem RBlock_z (s c j : Int) (w : World) :
    Calls Tryz.prog 58 #[.int .i64 s, .int .i64 c, .int .i64 j] w fun e w' => e = .returned (.int .u64 (blockZ s c j)) ∧ w = w' := by
  obtain ⟨b1, b2⟩ := blocksZ_le c
  obtain ⟨b3, b4⟩ := headerZ_le s
  by_cases hs : 1 ≤ s ∧ s ≤ 64
  · have hh : headerZ s = 1024 * s := if_pos hs
    have hne : (headerZ s == 0) = false := by rw [hh]; simp; omega
    have Hh := hid hh; clear hh
    by_cases hj0 : j < 0
    · have hz := hid (show blockZ s c j = 0 from if_neg (by omega))
      go_enter Tryz.func58, Tryz.ntmps58
      go_wp2_with fail
      refine (RHeader_z _ _).mono ?_
      rintro e w1 ⟨rfl, rfl⟩
      go_wp2
      go_ret
      exact ⟨by rw [hz.out]; rfl, rfl⟩
    · by_cases hj : j < blocksZ c
      · have hz := hid (show blockZ s c j = headerZ s + (64 + j * bytesZ c) by
          unfold blockZ; rw [if_pos ⟨hs.1, hs.2, by omega, hj⟩, Hh.out]; omega)
        obtain ⟨a1, a2⟩ := area_le c j (by omega) hj
        go_enter Tryz.func58, Tryz.ntmps58
        go_wp2_with fail
        refine (RHeader_z _ _).mono ?_
        rintro e w1 ⟨rfl, rfl⟩
        go_wp2_with fail
        refine (RBlocks_z _ _).mono ?_
        rintro e w1 ⟨rfl, rfl⟩
        go_wp2_with fail
        refine (RHeader_z _ _).mono ?_
        rintro e w1 ⟨rfl, rfl⟩
        go_wp2_with fail
        refine (RBytes_z _ _).mono ?_
        rintro e w1 ⟨rfl, rfl⟩
        go_wp2
        go_ret
        exact ⟨by rw [hz.out]; rfl, rfl⟩
      · have hz := hid (show blockZ s c j = 0 from if_neg (by omega))
        go_enter Tryz.func58, Tryz.ntmps58
        go_wp2_with fail
        refine (RHeader_z _ _).mono ?_
        rintro e w1 ⟨rfl, rfl⟩
        go_wp2_with fail
        refine (RBlocks_z _ _).mono ?_
        rintro e w1 ⟨rfl, rfl⟩
        go_wp2
        go_ret
        exact ⟨by rw [hz.out]; rfl, rfl⟩
  · have hz := hid (show blockZ s c j = 0 from if_neg (by omega))
    have hh : headerZ s = 0 := if_neg hs
    have hne : (headerZ s == 0) = true := by rw [hh]; rfl
    clear hh
    go_enter Tryz.func58, Tryz.ntmps58
    go_wp2_with fail
    refine (RHeader_z _ _).mono ?_
    rintro e w1 ⟨rfl, rfl⟩
    go_wp2
    go_ret
    exact ⟨by rw [hz.out]; rfl, rfl⟩

set_option maxHeartbeats 400000 in
theorem RSlabs_z (n : Int) (w : World) :
    Calls Tryz.prog 55 #[.int .i64 n] w fun e w' => e = .returned (.int .i64 (slabsZ n)) ∧ w = w' := by
  go_enter Tryz.func55, Tryz.ntmps55
  go_wp2_with fail
  go_loop [3] (fun i => ∃ k : Int, 1 ≤ k ∧ k ≤ 65 ∧ i = .int .i64 k ∧ Hid (∀ m, 1 ≤ m → m < k → 1024 + 1024 * m ≠ n)) (fun i => (65 - intOf i).toNat)
  case atStart => exact ⟨1, by omega, by omega, rfl, fun m h h' => by omega⟩
  case round =>
    obtain ⟨k, hk1, hk2, rfl, hN⟩ := hrel
    by_cases hlt : k ≤ 64
    · by_cases he : 1024 + 1024 * k = n
      · have he1 : (1024 + 1024 * k == n) = true := beq_iff_eq.2 he
        have hz := hid (show slabsZ n = k by unfold slabsZ; rw [if_pos (by omega)]; omega)
        clear he hN
        go_wp2
        go_ret
        exact ⟨by rw [hz.out]; rfl, rfl⟩
      · have he1 : (1024 + 1024 * k == n) = false := beq_eq_false_iff_ne.2 he
        have hN' : Hid (∀ m, 1 ≤ m → m < k + 1 → 1024 + 1024 * m ≠ n) := fun m h h' => by
          by_cases h2 : m = k
          · subst h2; exact he
          · exact hN.out m h (by omega)
        clear he hN
        go_wp2
        go_round
        case rel => exact ⟨k + 1, by omega, by omega, rfl, hN'⟩
        case measure => simp [intOf]; omega
    · have hz := hid (show slabsZ n = 0 by
        unfold slabsZ; rw [if_neg]; intro h
        exact hN.out (n / 1024 - 1) (by omega) (by omega) (by omega))
      clear hN
      go_wp2
      go_ret
      exact ⟨by rw [hz.out]; rfl, rfl⟩

end Go.Proofs.YtbkaemajjaiklaaGreat
