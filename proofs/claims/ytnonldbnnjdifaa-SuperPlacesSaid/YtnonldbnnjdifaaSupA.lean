/- Contracts of levee/super's functions and of the references' for layer 4. -/
import Derived.Test.YtnonldbnnjdifaaLawGeo
import Derived.Deep.QuietTactic
import Derived.BigQuiet
namespace Go.Proofs.Ytnonldbnnjdifaa
open Go.RowKit
set_option linter.unusedVariables false

def mayZ (sz r n : Int) : Bool := decide (0 < slabsZ n) && (sz == n) && idxB r 3 && decide (slabZ r ≤ slabsZ n)

theorem slabsZ_pos {n : Int} (h : 0 < slabsZ n) : 0 ≤ n ∧ n ≤ 66560 := by
  unfold slabsZ at h
  split at h <;> omega

set_option maxHeartbeats 1000000 in
theorem May_z (sz r n : Int) (w : World) (q1 : 0 ≤ sz) (q2 : sz ≤ 18446744073709551615) (a1 : 0 ≤ r) (a2 : r ≤ 18446744073709551615) (b1 : -9223372036854775808 ≤ n) (b2 : n ≤ 9223372036854775807) :
    Calls Try.prog 43 #[.agg #[.int .u64 sz, .int .u64 r], .int .i64 n] w fun e w' => e = .returned (.bool (mayZ sz r n)) ∧ Below w.heap.size w w' := by
  have hB : ∀ v, Below (w.heap.size + 1) (w.alloc (.cells #[.int .u64 sz, .int .u64 r] 40)) v → Below w.heap.size w v := fun v h => ((Below.refl _ _).alloc (Nat.le_refl _) _).trans (h.mono (by omega))
  by_cases h1 : 0 < slabsZ n
  · have hp := slabsZ_pos h1
    obtain ⟨p1, p2⟩ := hp
    by_cases h2 : sz = n
    · have e2 : (sz == n) = true := beq_iff_eq.2 h2
      by_cases h3 : idxB r 3 = true
      · by_cases h4 : slabZ r ≤ slabsZ n
        · have hz := hid (show mayZ sz r n = true by unfold mayZ; rw [decide_eq_true h1, e2, h3, decide_eq_true h4]; rfl)
          clear h2
          go_enter Try.func43, Try.ntmps43
          go_wp2_with fail
          refine (Slabs_z _ _ b1 b2).mono ?_
          rintro e w1 ⟨rfl, rfl⟩
          go_wp2_with fail
          refine (Index_z _ _ _ a1 a2).mono ?_
          rintro e v1 ⟨rfl, hb1⟩
          have c0 := hb1.cell (p := ⟨w.heap.size, 0, none⟩) (by simp)
          have c1 := hb1.cell (p := ⟨w.heap.size, 1, none⟩) (by simp)
          go_wp2_with fail
          refine (Slab_z _ _ a1 a2).mono ?_
          rintro e w1 ⟨rfl, rfl⟩
          go_wp2
          go_ret
          exact ⟨by rw [hz.out]; rfl, hB _ (by simpa using hb1)⟩
        · have e4 : decide (slabZ r ≤ slabsZ n) = false := decide_eq_false h4
          have hz := hid (show mayZ sz r n = false by unfold mayZ; rw [e4]; simp)
          clear h2
          go_enter Try.func43, Try.ntmps43
          go_wp2_with fail
          refine (Slabs_z _ _ b1 b2).mono ?_
          rintro e w1 ⟨rfl, rfl⟩
          go_wp2_with fail
          refine (Index_z _ _ _ a1 a2).mono ?_
          rintro e v1 ⟨rfl, hb1⟩
          have c0 := hb1.cell (p := ⟨w.heap.size, 0, none⟩) (by simp)
          have c1 := hb1.cell (p := ⟨w.heap.size, 1, none⟩) (by simp)
          go_wp2_with fail
          refine (Slab_z _ _ a1 a2).mono ?_
          rintro e w1 ⟨rfl, rfl⟩
          go_wp2
          go_ret
          exact ⟨by rw [hz.out]; rfl, hB _ (by simpa using hb1)⟩
      · have h3' : idxB r 3 = false := by simpa using h3
        have hz := hid (show mayZ sz r n = false by unfold mayZ; rw [h3']; simp)
        clear h2 h3
        go_enter Try.func43, Try.ntmps43
        go_wp2_with fail
        refine (Slabs_z _ _ b1 b2).mono ?_
        rintro e w1 ⟨rfl, rfl⟩
        go_wp2_with fail
        refine (Index_z _ _ _ a1 a2).mono ?_
        rintro e v1 ⟨rfl, hb1⟩
        have c0 := hb1.cell (p := ⟨w.heap.size, 0, none⟩) (by simp)
        have c1 := hb1.cell (p := ⟨w.heap.size, 1, none⟩) (by simp)
        go_wp2
        go_ret
        exact ⟨by rw [hz.out]; rfl, hB _ (by simpa using hb1)⟩
    · have e2 : (sz == n) = false := beq_eq_false_iff_ne.2 h2
      have hz := hid (show mayZ sz r n = false by unfold mayZ; rw [e2]; simp)
      clear h2
      go_enter Try.func43, Try.ntmps43
      go_wp2_with fail
      refine (Slabs_z _ _ b1 b2).mono ?_
      rintro e w1 ⟨rfl, rfl⟩
      go_wp2_with fail
      refine (Index_z _ _ _ a1 a2).mono ?_
      rintro e v1 ⟨rfl, hb1⟩
      have c0 := hb1.cell (p := ⟨w.heap.size, 0, none⟩) (by simp)
      have c1 := hb1.cell (p := ⟨w.heap.size, 1, none⟩) (by simp)
      go_wp2
      go_ret
      exact ⟨by rw [hz.out]; rfl, hB _ (by simpa using hb1)⟩
  · skip
    have hz := hid (show mayZ sz r n = false by unfold mayZ; rw [decide_eq_false h1]; simp)
    go_enter Try.func43, Try.ntmps43
    go_wp2_with fail
    refine (Slabs_z _ _ b1 b2).mono ?_
    rintro e w1 ⟨rfl, rfl⟩
    go_wp2_with fail
    refine (Index_z _ _ _ a1 a2).mono ?_
    rintro e v1 ⟨rfl, hb1⟩
    have c0 := hb1.cell (p := ⟨w.heap.size, 0, none⟩) (by simp)
    have c1 := hb1.cell (p := ⟨w.heap.size, 1, none⟩) (by simp)
    go_wp2
    go_ret
    exact ⟨by rw [hz.out]; rfl, hB _ (by simpa using hb1)⟩

theorem RBlock_zq (s c j : Int) (w : World) :
    Calls Try.prog 26 #[.int .i64 s, .int .i64 c, .int .i64 j] w fun e w' => e = .returned (.int .u64 (blockZ s c j)) ∧ w' = w :=
  (RBlock_z s c j w).mono fun e w' ⟨h, h'⟩ => ⟨h, h'.symm⟩

theorem may_hit {sz r n i j : Int} (h1 : 0 < slabsZ n) (h2 : sz = n) (a1 : 0 ≤ r) (hi : 1 ≤ i ∧ i ≤ slabsZ n) (hj : 0 ≤ j ∧ j < 5) (h : blockZ i 3 j = r) : mayZ sz r n = true := by
  have hs := slabsZ_le n
  have hbs := blockZ_slab i 3 j ⟨hi.1, by omega⟩ hj.1 hj.2
  have hx := idx_at hj.1 (idxZ_at r 3 j a1 hj.1 hj.2 (by rw [← h, hbs.1]) (by omega))
  unfold mayZ
  rw [decide_eq_true h1, beq_iff_eq.2 h2, hx.2, ← h, hbs.1, decide_eq_true hi.2]; rfl

theorem may_miss {sz r n : Int} (a1 : 0 ≤ r) (h : ∀ i, 1 ≤ i → i < slabsZ n + 1 → ∀ j, 0 ≤ j → j < 5 → blockZ i 3 j ≠ r) : mayZ sz r n = false := by
  unfold mayZ
  by_cases h3 : idxB r 3 = true
  · by_cases h4 : slabZ r ≤ slabsZ n
    · exfalso
      have hr : idxZ r 3 = -1 := by
        refine idxZ_none r 3 a1 fun j hj hl => ?_
        by_cases hs : 1 ≤ slabZ r
        · exact Or.inl (h _ hs (by omega) j hj hl)
        · by_cases ha : r = 0
          · exact Or.inr ha
          · left; unfold blockZ; rw [if_neg (by omega)]; omega
      rw [(idx_no hr).2] at h3
      exact absurd h3 (by decide)
    · rw [decide_eq_false h4]; simp
  · have h3' : idxB r 3 = false := by simpa using h3
    rw [h3']; simp

set_option maxHeartbeats 1000000 in
theorem RMay_z (sz r n : Int) (w : World) (q1 : 0 ≤ sz) (q2 : sz ≤ 18446744073709551615) (a1 : 0 ≤ r) (a2 : r ≤ 18446744073709551615) (b1 : -9223372036854775808 ≤ n) (b2 : n ≤ 9223372036854775807) :
    Calls Try.prog 41 #[.agg #[.int .u64 sz, .int .u64 r], .int .i64 n] w fun e w' => e = .returned (.bool (mayZ sz r n)) ∧ Below w.heap.size w w' := by
  obtain ⟨z1, z2⟩ := slabsZ_le n
  have hB : ∀ v, Below (w.heap.size + 1) (w.alloc (.cells #[.int .u64 sz, .int .u64 r] 40)) v → Below w.heap.size w v := fun v h => ((Below.refl _ _).alloc (Nat.le_refl _) _).trans (h.mono (by omega))
  by_cases h1 : 0 < slabsZ n
  · have e1 : (slabsZ n == 0) = false := beq_eq_false_iff_ne.2 (by omega)
    have hp := slabsZ_pos h1
    obtain ⟨p1, p2⟩ := hp
    by_cases h2 : sz = n
    · have e2 : (sz != n) = false := by simp [h2]
      have H2 := hid h2
      clear h2
      go_enter Try.func41, Try.ntmps41
      go_wp2_with fail
      refine (RSlabs_z _ _).mono ?_
      rintro e w1 ⟨rfl, rfl⟩
      go_wp2_with fail
      go_loopw [6, 7] (fun i _ wr => ∃ k : Int, 1 ≤ k ∧ k ≤ slabsZ n + 1 ∧ i = .int .i64 k ∧ Below (w.heap.size + 1) (w.alloc (.cells #[.int .u64 sz, .int .u64 r] 40)) wr ∧ Hid (∀ i, 1 ≤ i → i < k → ∀ j, 0 ≤ j → j < 5 → blockZ i 3 j ≠ r)) (fun i _ _ => (65 - intOf i).toNat)
      case atStart => exact ⟨1, by omega, by omega, rfl, Below.refl _ _, fun i h h' => by omega⟩
      case round =>
        obtain ⟨k, hk1, hk2, rfl, hb, hN⟩ := hrel
        by_cases hlt : k ≤ slabsZ n
        · go_wp2_with fail
          go_loopw [7] (fun i wr => ∃ m : Int, 0 ≤ m ∧ m ≤ 5 ∧ i = .int .i64 m ∧ Below (w.heap.size + 1) (w.alloc (.cells #[.int .u64 sz, .int .u64 r] 40)) wr ∧ Hid (∀ j, 0 ≤ j → j < m → blockZ k 3 j ≠ r)) (fun i _ => (5 - intOf i).toNat)
          case atStart => exact ⟨0, by omega, by omega, rfl, hb, fun i h h' => by omega⟩
          case round =>
            obtain ⟨m, hm1, hm2, rfl, hb', hM⟩ := hrel
            clear hb
            have c1 := hb'.cell (p := ⟨w.heap.size, 1, none⟩) (by simp)
            by_cases hlm : m < 5
            · by_cases he : blockZ k 3 m = r
              · have he1 : (blockZ k 3 m == r) = true := beq_iff_eq.2 he
                have hz := hid (may_hit h1 H2.out a1 ⟨hk1, hlt⟩ ⟨hm1, hlm⟩ he)
                clear he hN hM
                go_wp2
                go_quiet ((go_at_call 26; exact Calls.quiet_of_same (RBlock_zq _ _ _ _)))
                go_wp2
                go_ret
                exact ⟨by rw [hz.out]; rfl, hB _ (below_drewN hb' _)⟩
              · have he1 : (blockZ k 3 m == r) = false := beq_eq_false_iff_ne.2 he
                have hM' : Hid (∀ j, 0 ≤ j → j < m + 1 → blockZ k 3 j ≠ r) := fun j h h' => by
                  by_cases h2 : j = m
                  · subst h2; exact he
                  · exact hM.out j h (by omega)
                clear he hM
                go_wp2
                go_quiet ((go_at_call 26; exact Calls.quiet_of_same (RBlock_zq _ _ _ _)))
                go_wp2
                go_roundw
                case rel => exact ⟨m + 1, by omega, by omega, rfl, below_drewN hb' _, hM'⟩
                case measure => simp [intOf]; omega
            · have hN' : Hid (∀ i, 1 ≤ i → i < k + 1 → ∀ j, 0 ≤ j → j < 5 → blockZ i 3 j ≠ r) := fun i h h' => by
                by_cases h2 : i = k
                · subst h2; exact fun j hj hl => hM.out j hj (by omega)
                · exact hN.out i h (by omega)
              clear hN hM
              go_wp2
              go_roundw
              case rel => exact ⟨k + 1, by omega, by omega, rfl, hb', hN'⟩
              case measure => simp [intOf]; omega
        · have hz := hid (may_miss (sz := sz) (n := n) a1 fun i h h' => hN.out i h (by omega))
          clear hN
          go_wp2
          go_ret
          exact ⟨by rw [hz.out]; rfl, hB _ hb⟩
    · have e2 : (sz != n) = true := by simp [h2]
      have hz := hid (show mayZ sz r n = false by unfold mayZ; rw [beq_eq_false_iff_ne.2 h2]; simp)
      clear h2
      go_enter Try.func41, Try.ntmps41
      go_wp2_with fail
      refine (RSlabs_z _ _).mono ?_
      rintro e w1 ⟨rfl, rfl⟩
      go_wp2
      go_ret
      exact ⟨by rw [hz.out]; rfl, hB _ (Below.refl _ _)⟩
  · have e1 : (slabsZ n == 0) = true := beq_iff_eq.2 (by omega)
    have hz := hid (show mayZ sz r n = false by unfold mayZ; rw [decide_eq_false h1]; simp)
    go_enter Try.func41, Try.ntmps41
    go_wp2_with fail
    refine (RSlabs_z _ _).mono ?_
    rintro e w1 ⟨rfl, rfl⟩
    go_wp2
    go_ret
    exact ⟨by rw [hz.out]; rfl, hB _ (Below.refl _ _)⟩

end Go.Proofs.Ytnonldbnnjdifaa
