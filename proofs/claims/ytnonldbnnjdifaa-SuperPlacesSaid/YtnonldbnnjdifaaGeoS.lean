/- Contracts of the references of layer 3 that go over tables: Block, Slabs, Slab, Index. -/
import Derived.Test.YtnonldbnnjdifaaGeoR
namespace Go.Proofs.Ytnonldbnnjdifaa
open Go.RowKit
set_option linter.unusedVariables false

set_option maxHeartbeats 400000 in
theorem RBlock_z (s c j : Int) (w : World) :
    Calls Try.prog 26 #[.int .i64 s, .int .i64 c, .int .i64 j] w fun e w' => e = .returned (.int .u64 (blockZ s c j)) ∧ w = w' := by
  obtain ⟨b1, b2⟩ := blocksZ_le c
  obtain ⟨b3, b4⟩ := headerZ_le s
  by_cases hs : 1 ≤ s ∧ s ≤ 64
  · have hh : headerZ s = 1024 * s := if_pos hs
    have hne : (headerZ s == 0) = false := by rw [hh]; simp; omega
    have Hh := hid hh; clear hh
    by_cases hj0 : j < 0
    · have hz := hid (show blockZ s c j = 0 from if_neg (by omega))
      go_enter Try.func26, Try.ntmps26
      go_wp2_with fail
      refine (RHeader_z _ _).mono ?_
      rintro e w1 ⟨rfl, rfl⟩
      go_wp2
      go_ret
      exact ⟨by rw [hz.out]; rfl, rfl⟩
    · by_cases hj : j < blocksZ c
      · have hz := hid (show blockZ s c j = headerZ s + (64 + j * bytesZ c) by
          unfold blockZ; rw [if_pos ⟨hs.1, hs.2, by omega, hj⟩, Hh.out]; omega)
        obtain ⟨a1, a2⟩ := area_le c j (by omega) hj
        go_enter Try.func26, Try.ntmps26
        go_wp2_with fail
        refine (RHeader_z _ _).mono ?_
        rintro e w1 ⟨rfl, rfl⟩
        go_wp2_with fail
        refine (RBlocks_z _ _).mono ?_
        rintro e w1 ⟨rfl, rfl⟩
        go_wp2_with fail
        refine (RHeader_z _ _).mono ?_
        rintro e w1 ⟨rfl, rfl⟩
        go_wp2_with fail
        refine (RBytes_z _ _).mono ?_
        rintro e w1 ⟨rfl, rfl⟩
        go_wp2
        go_ret
        exact ⟨by rw [hz.out]; rfl, rfl⟩
      · have hz := hid (show blockZ s c j = 0 from if_neg (by omega))
        go_enter Try.func26, Try.ntmps26
        go_wp2_with fail
        refine (RHeader_z _ _).mono ?_
        rintro e w1 ⟨rfl, rfl⟩
        go_wp2_with fail
        refine (RBlocks_z _ _).mono ?_
        rintro e w1 ⟨rfl, rfl⟩
        go_wp2
        go_ret
        exact ⟨by rw [hz.out]; rfl, rfl⟩
  · have hz := hid (show blockZ s c j = 0 from if_neg (by omega))
    have hh : headerZ s = 0 := if_neg hs
    have hne : (headerZ s == 0) = true := by rw [hh]; rfl
    clear hh
    go_enter Try.func26, Try.ntmps26
    go_wp2_with fail
    refine (RHeader_z _ _).mono ?_
    rintro e w1 ⟨rfl, rfl⟩
    go_wp2
    go_ret
    exact ⟨by rw [hz.out]; rfl, rfl⟩

set_option maxHeartbeats 400000 in
theorem RSlabs_z (n : Int) (w : World) :
    Calls Try.prog 16 #[.int .i64 n] w fun e w' => e = .returned (.int .i64 (slabsZ n)) ∧ w = w' := by
  go_enter Try.func16, Try.ntmps16
  go_wp2_with fail
  go_loop [3] (fun i => ∃ k : Int, 1 ≤ k ∧ k ≤ 65 ∧ i = .int .i64 k ∧ Hid (∀ m, 1 ≤ m → m < k → 1024 + 1024 * m ≠ n)) (fun i => (65 - intOf i).toNat)
  case atStart => exact ⟨1, by omega, by omega, rfl, fun m h h' => by omega⟩
  case round =>
    obtain ⟨k, hk1, hk2, rfl, hN⟩ := hrel
    by_cases hlt : k ≤ 64
    · by_cases he : 1024 + 1024 * k = n
      · have he1 : (1024 + 1024 * k == n) = true := beq_iff_eq.2 he
        have hz := hid (show slabsZ n = k by unfold slabsZ; rw [if_pos (by omega)]; omega)
        clear he hN
        go_wp2
        go_ret
        exact ⟨by rw [hz.out]; rfl, rfl⟩
      · have he1 : (1024 + 1024 * k == n) = false := beq_eq_false_iff_ne.2 he
        have hN' : Hid (∀ m, 1 ≤ m → m < k + 1 → 1024 + 1024 * m ≠ n) := fun m h h' => by
          by_cases h2 : m = k
          · subst h2; exact he
          · exact hN.out m h (by omega)
        clear he hN
        go_wp2
        go_round
        case rel => exact ⟨k + 1, by omega, by omega, rfl, hN'⟩
        case measure => simp [intOf]; omega
    · have hz := hid (show slabsZ n = 0 by
        unfold slabsZ; rw [if_neg]; intro h
        exact hN.out (n / 1024 - 1) (by omega) (by omega) (by omega))
      clear hN
      go_wp2
      go_ret
      exact ⟨by rw [hz.out]; rfl, rfl⟩

set_option maxHeartbeats 400000 in
theorem RSlab_z (a : Int) (w : World) (h0 : 0 ≤ a) (h1 : a ≤ 18446744073709551615) :
    Calls Try.prog 36 #[.int .u64 a] w fun e w' => e = .returned (.int .i64 (slabZ a)) ∧ w = w' := by
  go_enter Try.func36, Try.ntmps36
  go_wp2_with fail
  go_loop [3] (fun i => ∃ k : Int, 1 ≤ k ∧ k ≤ 65 ∧ i = .int .i64 k ∧ Hid (k = 1 ∨ a < 1024 ∨ 1024 * k ≤ a)) (fun i => (65 - intOf i).toNat)
  case atStart => exact ⟨1, by omega, by omega, rfl, Or.inl rfl⟩
  case round =>
    obtain ⟨k, hk1, hk2, rfl, hN⟩ := hrel
    by_cases hlt : k ≤ 64
    · have hh : headerZ k = 1024 * k := if_pos ⟨hk1, hlt⟩
      obtain ⟨q1, q2⟩ := headerZ_le k
      by_cases hge : 1024 * k ≤ a
      · have g1 : headerZ k ≤ a := by omega
        by_cases hl2 : a < 1024 * k + 1024
        · have g2 : a < headerZ k + 1024 := by omega
          have hz := hid (show slabZ a = k by unfold slabZ; rw [if_pos (by omega)]; omega)
          clear hh hN
          go_wp2_with fail
          refine (RHeader_z _ _).mono ?_
          rintro e w1 ⟨rfl, rfl⟩
          go_wp2_with fail
          refine (RHeader_z _ _).mono ?_
          rintro e w1 ⟨rfl, rfl⟩
          go_wp2
          go_ret
          exact ⟨by rw [hz.out]; rfl, rfl⟩
        · have g2 : ¬ a < headerZ k + 1024 := by omega
          have hN' : Hid (k + 1 = 1 ∨ a < 1024 ∨ 1024 * (k + 1) ≤ a) := Or.inr (Or.inr (by omega))
          clear hh hN
          go_wp2_with fail
          refine (RHeader_z _ _).mono ?_
          rintro e w1 ⟨rfl, rfl⟩
          go_wp2_with fail
          refine (RHeader_z _ _).mono ?_
          rintro e w1 ⟨rfl, rfl⟩
          go_wp2
          go_round
          case rel => exact ⟨k + 1, by omega, by omega, rfl, hN'⟩
          case measure => simp [intOf]; omega
      · have g1 : ¬ headerZ k ≤ a := by omega
        have hN' : Hid (k + 1 = 1 ∨ a < 1024 ∨ 1024 * (k + 1) ≤ a) := by
          have := hN.out
          exact Or.inr (Or.inl (by omega))
        clear hh hN
        go_wp2_with fail
        refine (RHeader_z _ _).mono ?_
        rintro e w1 ⟨rfl, rfl⟩
        go_wp2
        go_round
        case rel => exact ⟨k + 1, by omega, by omega, rfl, hN'⟩
        case measure => simp [intOf]; omega
    · have hz := hid (show slabZ a = 0 by
        have := hN.out
        unfold slabZ; rw [if_neg (by omega)])
      clear hN
      go_wp2
      go_ret
      exact ⟨by rw [hz.out]; rfl, rfl⟩

theorem blockZ_slab (i c j : Int) (hi : 1 ≤ i ∧ i ≤ 64) (hj : 0 ≤ j) (hl : j < blocksZ c) : slabZ (blockZ i c j) = i ∧ 0 < blockZ i c j := by
  obtain ⟨a1, a2⟩ := area_le c j hj hl
  unfold blockZ; rw [if_pos ⟨hi.1, hi.2, hj, hl⟩]
  refine ⟨?_, by omega⟩
  unfold slabZ; rw [if_pos (by omega)]; omega

theorem idxZ_no64 (a c : Int) (h0 : 0 ≤ a) (h : ∀ i, 1 ≤ i → i < 65 → ∀ j, 0 ≤ j → j < blocksZ c → blockZ i c j ≠ a) : idxZ a c = -1 := by
  refine idxZ_none a c h0 fun j hj hl => ?_
  have hs := slabZ_le a
  by_cases h1 : 1 ≤ slabZ a
  · exact Or.inl (h _ h1 (by omega) j hj hl)
  · by_cases ha : a = 0
    · exact Or.inr ha
    · left; unfold blockZ; rw [if_neg (by omega)]; omega

set_option maxHeartbeats 800000 in
theorem RIndex_z (a c : Int) (w : World) (h0 : 0 ≤ a) :
    Calls Try.prog 34 #[.int .u64 a, .int .i64 c] w fun e w' => e = .returned (.int .i64 (idxZ a c)) ∧ w = w' := by
  obtain ⟨b1, b2⟩ := blocksZ_le c
  go_enter Try.func34, Try.ntmps34
  go_wp2_with fail
  go_loop [5, 6] (fun i _ => ∃ k : Int, 1 ≤ k ∧ k ≤ 65 ∧ i = .int .i64 k ∧ Hid (∀ i, 1 ≤ i → i < k → ∀ j, 0 ≤ j → j < blocksZ c → blockZ i c j ≠ a)) (fun i _ => (65 - intOf i).toNat)
  case atStart => exact ⟨1, by omega, by omega, rfl, fun i h h' => by omega⟩
  case round =>
    obtain ⟨k, hk1, hk2, rfl, hN⟩ := hrel
    by_cases hlt : k ≤ 64
    · go_wp2_with fail
      go_loop [6] (fun i => ∃ m : Int, 0 ≤ m ∧ m ≤ blocksZ c ∧ i = .int .i64 m ∧ Hid (∀ j, 0 ≤ j → j < m → blockZ k c j ≠ a)) (fun i => (blocksZ c - intOf i).toNat)
      case atStart => exact ⟨0, by omega, by omega, rfl, fun i h h' => by omega⟩
      case round =>
        obtain ⟨m, hm1, hm2, rfl, hM⟩ := hrel
        by_cases hlm : m < blocksZ c
        · by_cases he : blockZ k c m = a
          · have he1 : (blockZ k c m == a) = true := beq_iff_eq.2 he
            have hbs := blockZ_slab k c m ⟨hk1, hlt⟩ hm1 hlm
            have hz := hid (show idxZ a c = m from idxZ_at a c m h0 hm1 hlm (by rw [← he, hbs.1]) (by omega))
            clear he hN hM hbs
            go_wp2_with fail
            refine (RBlocks_z _ _).mono ?_
            rintro e w1 ⟨rfl, rfl⟩
            go_wp2_with fail
            refine (RBlock_z _ _ _ _).mono ?_
            rintro e w1 ⟨rfl, rfl⟩
            go_wp2
            go_ret
            exact ⟨by rw [hz.out]; rfl, rfl⟩
          · have he1 : (blockZ k c m == a) = false := beq_eq_false_iff_ne.2 he
            have hM' : Hid (∀ j, 0 ≤ j → j < m + 1 → blockZ k c j ≠ a) := fun j h h' => by
              by_cases h2 : j = m
              · subst h2; exact he
              · exact hM.out j h (by omega)
            clear he hM
            go_wp2_with fail
            refine (RBlocks_z _ _).mono ?_
            rintro e w1 ⟨rfl, rfl⟩
            go_wp2_with fail
            refine (RBlock_z _ _ _ _).mono ?_
            rintro e w1 ⟨rfl, rfl⟩
            go_wp2
            go_round
            case rel => exact ⟨m + 1, by omega, by omega, rfl, hM'⟩
            case measure => simp [intOf]; omega
        · have hN' : Hid (∀ i, 1 ≤ i → i < k + 1 → ∀ j, 0 ≤ j → j < blocksZ c → blockZ i c j ≠ a) := fun i h h' => by
            by_cases h2 : i = k
            · subst h2; exact fun j hj hl => hM.out j hj (by omega)
            · exact hN.out i h (by omega)
          clear hM hN
          go_wp2_with fail
          refine (RBlocks_z _ _).mono ?_
          rintro e w1 ⟨rfl, rfl⟩
          go_wp2
          go_round
          case rel => exact ⟨k + 1, by omega, by omega, rfl, hN'⟩
          case measure => simp [intOf]; omega
    · have hz := hid (idxZ_no64 a c h0 fun i h h' => hN.out i h (by omega))
      clear hN
      go_wp2
      go_ret
      exact ⟨by rw [hz.out]; rfl, rfl⟩

end Go.Proofs.Ytnonldbnnjdifaa
