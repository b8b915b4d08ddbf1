/- Contracts of levee/geo.Index (a loop that calls Block) and levee/geo.Class (a closure handed to slices.IndexFunc). -/
import Derived.Test.YtbkaemajjaiklaaGreatGeoB
namespace Go.Proofs.YtbkaemajjaiklaaGreat
open Go.RowKit
set_option linter.unusedVariables false

/-- which block of class c begins at a; -1: none -/
def idxZ (a c : Int) : Int :=
  if 1 ≤ slabZ a ∧ 1 ≤ c ∧ c ≤ 3 ∧ 0 ≤ a % 1024 - 64 ∧ (a % 1024 - 64) % (64 * c) = 0 ∧ (a % 1024 - 64) / (64 * c) < blocksZ c then (a % 1024 - 64) / (64 * c) else -1

def idxI (a c : Int) : Int := if idxZ a c = -1 then 0 else idxZ a c
def idxB (a c : Int) : Bool := !(idxZ a c == -1)
theorem idx_at {a c j : Int} (h0 : 0 ≤ j) (h : idxZ a c = j) : idxI a c = j ∧ idxB a c = true := by
  unfold idxI idxB; rw [h, if_neg (by omega)]; exact ⟨rfl, by rw [beq_eq_false_iff_ne.2 (show j ≠ -1 by omega)]; rfl⟩
theorem idx_no {a c : Int} (h : idxZ a c = -1) : idxI a c = 0 ∧ idxB a c = false := by
  unfold idxI idxB; rw [h]; exact ⟨rfl, rfl⟩

theorem idxZ_lt (a c : Int) : -1 ≤ idxZ a c ∧ (0 ≤ blocksZ c → idxZ a c < blocksZ c ∨ idxZ a c = -1) := by
  unfold idxZ
  split
  · rename_i h
    have : 0 ≤ (a % 1024 - 64) / (64 * c) := Int.ediv_nonneg h.2.2.2.1 (by omega)
    omega
  · omega

theorem idxZ_at (a c j : Int) (h0 : 0 ≤ a) (hj : 0 ≤ j) (hl : j < blocksZ c) (h : blockZ (slabZ a) c j = a) (hp : 0 < a) : idxZ a c = j := by
  have hs := slabZ_le a
  have hc : c = 1 ∨ c = 2 ∨ c = 3 ∨ blocksZ c = 0 := by unfold blocksZ; split <;> (try split) <;> (try split) <;> omega
  have h64 : 1 ≤ slabZ a := by
    unfold blockZ at h
    split at h <;> omega
  have hq : slabZ a = a / 1024 := by unfold slabZ at h64 ⊢; split at h64 <;> (try split) <;> omega
  unfold blockZ at h
  rw [if_pos ⟨h64, hs.2, hj, hl⟩] at h
  unfold idxZ
  rcases hc with rfl | rfl | rfl | hc
  · simp [blocksZ, bytesZ] at hl h ⊢; rw [if_pos (by omega)]; omega
  · simp [blocksZ, bytesZ] at hl h ⊢; rw [if_pos (by omega)]; omega
  · simp [blocksZ, bytesZ] at hl h ⊢; rw [if_pos (by omega)]; omega
  · omega

theorem idxZ_none (a c : Int) (h0 : 0 ≤ a) (h : ∀ j, 0 ≤ j → j < blocksZ c → blockZ (slabZ a) c j ≠ a ∨ a = 0) : idxZ a c = -1 := by
  unfold idxZ
  split
  · rename_i hh
    exfalso
    obtain ⟨h1, h2, h3, h4, h5, h6⟩ := hh
    have hs := slabZ_le a
    have hq : slabZ a = a / 1024 := by unfold slabZ at h1 ⊢; split at h1 <;> (try split) <;> omega
    have hk := h ((a % 1024 - 64) / (64 * c)) (Int.ediv_nonneg h4 (by omega)) h6
    have hc : c = 1 ∨ c = 2 ∨ c = 3 := by omega
    unfold blockZ at hk
    rw [if_pos ⟨h1, hs.2, Int.ediv_nonneg h4 (by omega), h6⟩] at hk
    rcases hc with rfl | rfl | rfl
    · simp [bytesZ] at hk h5; omega
    · simp [bytesZ] at hk h5; omega
    · simp [bytesZ] at hk h5; omega
  · rfl

set_option maxHeartbeats 400000 in
theorem Index_z (a c : Int) (w : World) (h0 : 0 ≤ a) (h1 : a ≤ 18446744073709551615) :
    Calls Tryz.prog 149 #[.int .u64 a, .int .i64 c] w fun e w' =>
      e = .returned (.tuple #[.int .i64 (idxI a c), .bool (idxB a c)]) ∧ Below w.heap.size w w' := by
  obtain ⟨b1, b2⟩ := blocksZ_le c
  go_enter Tryz.func149, Tryz.ntmps149
  go_wp2_with fail
  refine (Blocks_z _ _).mono ?_
  rintro e w1 ⟨rfl, hb1⟩
  go_wp2_with fail
  go_loopw [6, 7, 10] (fun _ _ i wr => ∃ k : Nat, (k : Int) ≤ blocksZ c ∧ i = .int .i64 k ∧ Below w.heap.size w wr ∧ Hid (∀ j, 0 ≤ j → j < (k : Int) → blockZ (slabZ a) c j ≠ a ∨ a = 0)) (fun _ _ i _ => (blocksZ c - intOf i).toNat)
  case atStart => exact ⟨0, by omega, rfl, hb1, fun j h h' => by omega⟩
  case round =>
    obtain ⟨k, hk, rfl, hb, hN⟩ := hrel
    clear hb1
    by_cases hlt : (k : Int) < blocksZ c
    · go_wp2_with fail
      refine (Slab_z _ _ h0 h1).mono ?_
      rintro e w2 ⟨rfl, rfl⟩
      go_wp2_with fail
      refine (Block_z _ _ _ _).mono ?_
      rintro e w2 ⟨rfl, hb2⟩
      have hb3 := hb.trans (hb2.mono hb.size)
      clear hb2
      by_cases he : blockZ (slabZ a) c k = a
      · have he1 : (blockZ (slabZ a) c k == a) = true := beq_iff_eq.2 he
        by_cases hp : 0 < a
        · have hp1 : 0 < blockZ (slabZ a) c k := by omega
          have hz := hid (idx_at (by omega) (idxZ_at a c k h0 (by omega) hlt he hp))
          clear he hN
          go_wp2
          go_ret2
          exact ⟨by rw [hz.out.1, hz.out.2]; rfl, hb3⟩
        · have hp1 : ¬ 0 < blockZ (slabZ a) c k := by omega
          have hN' : Hid (∀ j, 0 ≤ j → j < ((k + 1 : Nat) : Int) → blockZ (slabZ a) c j ≠ a ∨ a = 0) := fun j hj hj' => Or.inr (by omega)
          clear he hN
          go_wp2
          go_roundw
          case rel => exact ⟨k + 1, by omega, by go_num, hb3, hN'⟩
          case measure => simp [intOf]; omega
      · have he1 : (blockZ (slabZ a) c k == a) = false := beq_eq_false_iff_ne.2 he
        have hN' : Hid (∀ j, 0 ≤ j → j < ((k + 1 : Nat) : Int) → blockZ (slabZ a) c j ≠ a ∨ a = 0) := fun j hj hj' => by
          by_cases h : j = k
          · subst h; exact Or.inl he
          · exact hN.out j hj (by omega)
        clear he hN
        go_wp2
        go_roundw
        case rel => exact ⟨k + 1, by omega, by go_num, hb3, hN'⟩
        case measure => simp [intOf]; omega
    · have hz := hid (idx_no (idxZ_none a c h0 (fun j h h' => hN.out j h (by omega))))
      clear hN
      go_wp2
      go_ret2
      exact ⟨by rw [hz.out.1, hz.out.2]; rfl, hb⟩

end Go.Proofs.YtbkaemajjaiklaaGreat
