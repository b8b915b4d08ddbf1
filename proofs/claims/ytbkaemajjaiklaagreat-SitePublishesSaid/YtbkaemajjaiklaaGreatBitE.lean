/- Bits of a word: one set, one cleared. -/
import Derived.Test.YtbkaemajjaiklaaGreatBitM
namespace Go.Proofs.YtbkaemajjaiklaaGreat
open Go.RowKit
set_option linter.unusedVariables false
set_option linter.unusedSimpArgs false

def setB (b k : Nat) : Nat := b ||| 2 ^ k
def clrB (b k : Nat) : Nat := ((BitVec.ofNat 64 b) &&& ~~~(BitVec.ofNat 64 (2 ^ k))).toNat
theorem bits_andNot_u64 (a b : Nat) : bits .andNot .u64 (a : Int) (b : Int) = (((BitVec.ofNat 64 a) &&& ~~~(BitVec.ofNat 64 b)).toNat : Int) := by
  show IntKind.u64.wrap ((BitVec.ofInt 64 (a : Int) &&& ~~~(BitVec.ofInt 64 (b : Int))).toNat : Int) = _
  rw [BitVec.ofInt_natCast, BitVec.ofInt_natCast, IntKind.wrap_u64]
  have := (BitVec.ofNat 64 a &&& ~~~(BitVec.ofNat 64 b)).isLt
  omega
theorem setB_bit (b k i : Nat) : (setB b k).testBit i = (b.testBit i || decide (k = i)) := by
  unfold setB
  rw [Nat.testBit_or, Nat.testBit_two_pow]
theorem clrB_bit (b k i : Nat) (hi : i < 64) (hk : k < 64) : (clrB b k).testBit i = (b.testBit i && !decide (k = i)) := by
  unfold clrB
  rw [BitVec.testBit_toNat, BitVec.getLsbD_and, BitVec.getLsbD_not, BitVec.getLsbD_ofNat, BitVec.getLsbD_ofNat, Nat.testBit_two_pow]
  simp [hi]
theorem setB_lt {b k : Nat} (hb : b < 18446744073709551616) (hk : k < 64) : setB b k < 18446744073709551616 := by
  have h1 : 2 ^ k ≤ 2 ^ 63 := Nat.pow_le_pow_right (by omega) (by omega)
  have := Nat.or_lt_two_pow (x := b) (y := 2 ^ k) (n := 64) (by omega) (by generalize 2 ^ k = y at *; omega)
  unfold setB
  omega
theorem clrB_lt (b k : Nat) : clrB b k < 18446744073709551616 := by
  have := (BitVec.ofNat 64 b &&& ~~~(BitVec.ofNat 64 (2 ^ k))).isLt
  unfold clrB
  omega

set_option maxRecDepth 100000 in
theorem Set_z (b k : Nat) (hb : b < 18446744073709551616) (hk : k < 64) (w : World) : Calls Tryz.prog 150 #[.int .u64 (b : Int), .int .i64 (k : Int)] w fun e w' => e = .returned (.int .u64 (setB b k : Int)) ∧ w = w' := by
  have hB : bitZ (k : Int) = ((2 ^ k : Nat) : Int) := by unfold bitZ; rw [if_pos (by omega)]; simp
  obtain ⟨y, hy⟩ : ∃ y, y = 2 ^ k := ⟨_, rfl⟩
  have h1 : 2 ^ k ≤ 2 ^ 63 := Nat.pow_le_pow_right (by omega) (by omega)
  rw [← hy] at hB h1
  have hA := bits_or_u64_nat b y hb (by omega)
  have HB := hid hB
  have HA := hid hA
  have HY := hid hy
  clear hB hA hy h1
  go_enter Tryz.func150, Tryz.ntmps150
  go_wp2_with fail
  refine (bit_z _ _).mono ?_
  rintro e w1 ⟨rfl, rfl⟩
  rw [HB.out]
  go_wp2
  go_ret
  exact ⟨by rw [HA.out, HY.out]; rfl, rfl⟩
set_option maxRecDepth 100000 in
theorem Clear_z (b k : Nat) (hb : b < 18446744073709551616) (hk : k < 64) (w : World) : Calls Tryz.prog 151 #[.int .u64 (b : Int), .int .i64 (k : Int)] w fun e w' => e = .returned (.int .u64 (clrB b k : Int)) ∧ w = w' := by
  have hB : bitZ (k : Int) = ((2 ^ k : Nat) : Int) := by unfold bitZ; rw [if_pos (by omega)]; simp
  obtain ⟨y, hy⟩ : ∃ y, y = 2 ^ k := ⟨_, rfl⟩
  rw [← hy] at hB
  have HB := hid hB
  have HA := hid (bits_andNot_u64 b y)
  have HY := hid hy
  clear hB hy
  go_enter Tryz.func151, Tryz.ntmps151
  go_wp2_with fail
  refine (bit_z _ _).mono ?_
  rintro e w1 ⟨rfl, rfl⟩
  rw [HB.out]
  go_wp2
  go_ret
  exact ⟨by rw [HA.out, HY.out]; rfl, rfl⟩

end Go.Proofs.YtbkaemajjaiklaaGreat
