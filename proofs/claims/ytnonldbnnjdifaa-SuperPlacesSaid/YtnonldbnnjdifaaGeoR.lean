/- Contracts of the reference functions of layer 3. -/
import Derived.Test.YtnonldbnnjdifaaGeoD
namespace Go.Proofs.Ytnonldbnnjdifaa
open Go.RowKit
set_option linter.unusedVariables false

set_option maxHeartbeats 400000 in
theorem RBytes_z (c : Int) (w : World) :
    Calls Try.prog 21 #[.int .i64 c] w fun e w' => e = .returned (.int .i64 (bytesZ c)) ∧ w = w' := by
  by_cases h1 : c < 1
  · have hz := hid (show bytesZ c = 0 from if_neg (by omega))
    go_enter Try.func21, Try.ntmps21
    go_wp2
    go_ret
    exact ⟨by rw [hz.out]; rfl, rfl⟩
  · by_cases h2 : 3 < c
    · have hz := hid (show bytesZ c = 0 from if_neg (by omega))
      go_enter Try.func21, Try.ntmps21
      go_wp2
      go_ret
      exact ⟨by rw [hz.out]; rfl, rfl⟩
    · have hz := hid (show bytesZ c = 64 * c from if_pos (by omega))
      go_enter Try.func21, Try.ntmps21
      go_wp2
      go_ret
      exact ⟨by rw [hz.out]; rfl, rfl⟩

set_option maxHeartbeats 400000 in
theorem RClass_z (n : Int) (w : World) :
    Calls Try.prog 19 #[.int .i64 n] w fun e w' => e = .returned (.int .i64 (classZ n)) ∧ w = w' := by
  by_cases h1 : n < 0
  · have hz := hid (show classZ n = 0 from if_pos h1)
    go_enter Try.func19, Try.ntmps19
    go_wp2
    go_ret
    exact ⟨by rw [hz.out]; rfl, rfl⟩
  · by_cases h2 : n ≤ 56
    · have hz := hid (show classZ n = 1 by unfold classZ fitsZ; rw [if_neg h1, if_pos h2]; rfl)
      go_enter Try.func19, Try.ntmps19
      go_wp2
      go_ret
      exact ⟨by rw [hz.out]; rfl, rfl⟩
    · by_cases h3 : n ≤ 120
      · have hz := hid (show classZ n = 2 by unfold classZ fitsZ; rw [if_neg h1, if_neg h2, if_pos h3]; rfl)
        go_enter Try.func19, Try.ntmps19
        go_wp2
        go_ret
        exact ⟨by rw [hz.out]; rfl, rfl⟩
      · have hz := hid (show classZ n = 0 by unfold classZ fitsZ; rw [if_neg h1, if_neg h2, if_neg h3]; rfl)
        go_enter Try.func19, Try.ntmps19
        go_wp2
        go_ret
        exact ⟨by rw [hz.out]; rfl, rfl⟩

set_option maxHeartbeats 400000 in
theorem RHeader_z (s : Int) (w : World) :
    Calls Try.prog 38 #[.int .i64 s] w fun e w' => e = .returned (.int .u64 (headerZ s)) ∧ w = w' := by
  by_cases h1 : s < 1
  · have hz := hid (show headerZ s = 0 from if_neg (by omega))
    go_enter Try.func38, Try.ntmps38
    go_wp2
    go_ret
    exact ⟨by rw [hz.out]; rfl, rfl⟩
  · by_cases h2 : 64 < s
    · have hz := hid (show headerZ s = 0 from if_neg (by omega))
      go_enter Try.func38, Try.ntmps38
      go_wp2
      go_ret
      exact ⟨by rw [hz.out]; rfl, rfl⟩
    · have hz := hid (show headerZ s = 1024 * s from if_pos (by omega))
      go_enter Try.func38, Try.ntmps38
      go_wp2
      go_ret
      exact ⟨by rw [hz.out]; rfl, rfl⟩

set_option maxHeartbeats 400000 in
theorem RKey_z (b i : Int) (w : World) (h0 : 0 ≤ b) (hb1 : b ≤ 1099511627776) :
    Calls Try.prog 28 #[.int .u64 b, .int .i64 i] w fun e w' => e = .returned (.int .u64 (keyZ b i)) ∧ w = w' := by
  by_cases h1 : i < 0
  · have hz := hid (show keyZ b i = 0 from if_neg (by omega))
    go_enter Try.func28, Try.ntmps28
    go_wp2
    go_ret
    exact ⟨by rw [hz.out]; rfl, rfl⟩
  · by_cases h2 : 7 < i
    · have hz := hid (show keyZ b i = 0 from if_neg (by omega))
      go_enter Try.func28, Try.ntmps28
      go_wp2
      go_ret
      exact ⟨by rw [hz.out]; rfl, rfl⟩
    · have hz := hid (show keyZ b i = b + (64 + 16 * i) by unfold keyZ; rw [if_pos (by omega)]; omega)
      go_enter Try.func28, Try.ntmps28
      go_wp2
      go_ret
      exact ⟨by rw [hz.out]; rfl, rfl⟩

set_option maxHeartbeats 400000 in
theorem RField_z (b i : Int) (w : World) (h0 : 0 ≤ b) (hb1 : b ≤ 1099511627776) :
    Calls Try.prog 32 #[.int .u64 b, .int .i64 i] w fun e w' => e = .returned (.int .u64 (fieldZ b i)) ∧ w = w' := by
  by_cases h1 : i < 0
  · have hz := hid (show fieldZ b i = 0 from if_neg (by omega))
    go_enter Try.func32, Try.ntmps32
    go_wp2
    go_ret
    exact ⟨by rw [hz.out]; rfl, rfl⟩
  · by_cases h2 : 7 < i
    · have hz := hid (show fieldZ b i = 0 from if_neg (by omega))
      go_enter Try.func32, Try.ntmps32
      go_wp2
      go_ret
      exact ⟨by rw [hz.out]; rfl, rfl⟩
    · have hz := hid (show fieldZ b i = b + 8 * i from if_pos (by omega))
      go_enter Try.func32, Try.ntmps32
      go_wp2
      go_ret
      exact ⟨by rw [hz.out]; rfl, rfl⟩

theorem blk_step (c k : Int) (hc : 1 ≤ c ∧ c ≤ 3) (hk : 0 ≤ k) : (64 + (k + 1) * bytesZ c ≤ 1024) = (k < blocksZ c) := by
  have h : c = 1 ∨ c = 2 ∨ c = 3 := by omega
  rcases h with rfl | rfl | rfl <;> simp [bytesZ, blocksZ] <;> omega

set_option maxHeartbeats 400000 in
theorem RBlocks_z (c : Int) (w : World) :
    Calls Try.prog 23 #[.int .i64 c] w fun e w' => e = .returned (.int .i64 (blocksZ c)) ∧ w = w' := by
  by_cases h : 1 ≤ c ∧ c ≤ 3
  · have hbz := hid (show bytesZ c = 64 * c from if_pos h)
    have hne : (bytesZ c == 0) = false := beq_eq_false_iff_ne.2 (by rw [hbz.out]; omega)
    have hle := bytesZ_le c
    obtain ⟨hl1, hl2⟩ := hle
    obtain ⟨hbl1, hbl2⟩ := blocksZ_le c
    go_enter Try.func23, Try.ntmps23
    go_wp2_with fail
    refine (RBytes_z _ _).mono ?_
    rintro e w2 ⟨rfl, rfl⟩
    go_wp2_with fail
    go_loop [3] (fun i => ∃ k : Nat, (k : Int) ≤ blocksZ c ∧ i = .int .i64 k) (fun i => (blocksZ c - intOf i).toNat)
    case atStart => exact ⟨0, by omega, rfl⟩
    case round =>
      obtain ⟨k, hk, rfl⟩ := hrel
      have hst := blk_step c k h (by omega)
      have hm0 : 0 ≤ ((k : Int) + 1) * bytesZ c := Int.mul_nonneg (by omega) (by omega)
      have hm1 : ((k : Int) + 1) * bytesZ c ≤ 16 * 192 := Int.mul_le_mul (by omega) hl2 hl1 (by omega)
      by_cases hlt : (k : Int) < blocksZ c
      · have hin : 64 + ((k : Int) + 1) * bytesZ c ≤ 1024 := by rw [hst]; exact hlt
        clear hst
        go_wp2_with fail
        refine (RBytes_z _ _).mono ?_
        rintro e w2 ⟨rfl, rfl⟩
        go_wp2
        go_round
        case rel => exact ⟨k + 1, by omega, by go_num⟩
        case measure => simp [intOf]; omega
      · have hin : ¬ 64 + ((k : Int) + 1) * bytesZ c ≤ 1024 := by rw [hst]; exact hlt
        have hz := hid (show blocksZ c = k by omega)
        clear hst
        go_wp2_with fail
        refine (RBytes_z _ _).mono ?_
        rintro e w2 ⟨rfl, rfl⟩
        go_wp2
        go_ret
        exact ⟨by rw [hz.out]; rfl, rfl⟩
  · have hz := hid (show blocksZ c = 0 by unfold blocksZ; rw [if_neg (by omega), if_neg (by omega), if_neg (by omega)])
    have hne : (bytesZ c == 0) = true := beq_iff_eq.2 (if_neg h)
    go_enter Try.func23, Try.ntmps23
    go_wp2_with fail
    refine (RBytes_z _ _).mono ?_
    rintro e w2 ⟨rfl, rfl⟩
    go_wp2
    go_ret
    exact ⟨by rw [hz.out]; rfl, rfl⟩

end Go.Proofs.Ytnonldbnnjdifaa
