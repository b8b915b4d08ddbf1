/- Bits of a word: bit, Has; words of bytes. -/
import Derived.Laws.Bits64b
import Derived.Test.YtbkaemajjaiklaaGreatRow
namespace Go.Proofs.YtbkaemajjaiklaaGreat
open Go.RowKit
set_option linter.unusedVariables false
set_option linter.unusedSimpArgs false

def bitZ (j : Int) : Int := if 0 ≤ j ∧ j < 64 then (2 : Int) ^ j.toNat else 0
def hasB (b : Nat) (j : Nat) : Bool := b.testBit j
theorem bit_z (j : Int) (w : World) : Calls Tryz.prog 123 #[.int .i64 j] w fun e w' => e = .returned (.int .u64 (bitZ j)) ∧ w = w' := by
  by_cases h1 : j < 0
  · have HZ := hid (show bitZ j = 0 from if_neg (by omega))
    go_enter Tryz.func123, Tryz.ntmps123
    go_wp2
    go_ret
    exact ⟨by rw [HZ.out]; rfl, rfl⟩
  · by_cases h2 : j ≥ 64
    · have HZ := hid (show bitZ j = 0 from if_neg (by omega))
      go_enter Tryz.func123, Tryz.ntmps123
      go_wp2
      go_ret
      exact ⟨by rw [HZ.out]; rfl, rfl⟩
    · obtain ⟨k, rfl⟩ := Int.eq_ofNat_of_zero_le (show 0 ≤ j by omega)
      have hk : k < 64 := by omega
      have HZ := hid (show bitZ (k : Int) = (2 : Int) ^ k by unfold bitZ; rw [if_pos (by omega)]; simp)
      have hw : IntKind.u64.wrap (2 ^ k : Int) = (2 : Int) ^ k := by
        have h1 : 2 ^ k ≤ 2 ^ 63 := Nat.pow_le_pow_right (by omega) (by omega)
        have h2 : ((2 : Int) ^ k) = ((2 ^ k : Nat) : Int) := by simp
        rw [h2]
        generalize 2 ^ k = y at *
        exact IntWalk.u64_in _ (by omega)
      go_enter Tryz.func123, Tryz.ntmps123
      go_wp2
      go_ret
      exact ⟨by rw [HZ.out]; rfl, rfl⟩
theorem and_two (b k : Nat) : b &&& 2 ^ k = if b.testBit k then 2 ^ k else 0 := by
  apply Nat.eq_of_testBit_eq
  intro i
  rw [Nat.testBit_and, Nat.testBit_two_pow]
  by_cases h : k = i
  · subst h
    cases hb : b.testBit k <;> simp
  · cases hb : b.testBit k <;> simp [h]
theorem and_bit (b k : Nat) (hb : b < 18446744073709551616) (hk : k < 64) : (bits BinOp.and IntKind.u64 (b : Int) ((2 : Int) ^ k) != 0) = hasB b k := by
  have h1 : 2 ^ k ≤ 2 ^ 63 := Nat.pow_le_pow_right (by omega) (by omega)
  have h2 : ((2 : Int) ^ k) = ((2 ^ k : Nat) : Int) := by simp
  rw [h2, bits_and_u64_nat b (2 ^ k) hb (by generalize 2 ^ k = y at *; omega), and_two b k, Bool.eq_iff_iff]
  unfold hasB
  have hp : 2 ^ k ≠ 0 := by have := Nat.two_pow_pos k; omega
  cases b.testBit k
  · simp
  · simp
    intro h
    exact hp (by exact_mod_cast h)

set_option maxRecDepth 100000 in
theorem Has_z (b k : Nat) (hb : b < 18446744073709551616) (hk : k < 64) (w : World) : Calls Tryz.prog 96 #[.int .u64 (b : Int), .int .i64 (k : Int)] w fun e w' => e = .returned (.bool (hasB b k)) ∧ w = w' := by
  have HB := hid (show bitZ (k : Int) = (2 : Int) ^ k by unfold bitZ; rw [if_pos (by omega)]; simp)
  have HA := hid (and_bit b k hb hk)
  go_enter Tryz.func96, Tryz.ntmps96
  go_wp2_with fail
  refine (bit_z _ _).mono ?_
  rintro e w1 ⟨rfl, rfl⟩
  rw [HB.out]
  have hA := HA.out
  go_wp2
  go_ret
  exact ⟨rfl, rfl⟩

end Go.Proofs.YtbkaemajjaiklaaGreat
