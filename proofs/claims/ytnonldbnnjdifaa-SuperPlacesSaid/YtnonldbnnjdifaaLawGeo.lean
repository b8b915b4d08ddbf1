/- The walks of the statements of layer 3 (geo): each call returns true, and no memory that was there is turned. -/
import Derived.Test.YtnonldbnnjdifaaGeoS
namespace Go.Proofs.Ytnonldbnnjdifaa
open Go.RowKit
set_option linter.unusedVariables false

set_option maxHeartbeats 1000000 in
theorem known03 (w : World) : Calls Try.prog 24 #[] w fun e w' => e = .returned (.bool true) ∧ Below w.heap.size w w' := by
  have k1 : idxI 2880 3 = 4 := by decide
  have k2 : idxB 2880 3 = true := by decide
  have k3 : idxI 2880 1 = 12 := by decide
  have k4 : idxB 2880 1 = true := by decide
  have k5 : slabsZ 2048 = 1 := by decide
  have k6 : slabsZ 1024 = 0 := by decide
  have k7 : blockZ 2 3 4 = 2880 := by decide
  have k8 : slabZ 2880 = 2 := by decide
  have k9 : sizeZ 64 = 66560 := by decide
  have k10 : classZ 57 = 2 := by decide
  have k11 : keyZ 2880 7 = 3056 := by decide
  have k12 : ptrZ 2880 0 = 2952 := by decide
  have k13 : fieldZ 2880 3 = 2904 := by decide
  go_enter Try.func24, Try.ntmps24
  go_wp2_with fail
  refine (Index_z _ _ _ (by omega) (by omega)).mono ?_
  rintro e v1 ⟨rfl, hb1⟩
  go_wp2_with fail
  refine (Index_z _ _ _ (by omega) (by omega)).mono ?_
  rintro e v2 ⟨rfl, hb2⟩
  go_wp2_with fail
  refine (Slabs_z _ _ (by omega) (by omega)).mono ?_
  rintro e w1 ⟨rfl, rfl⟩
  go_wp2_with fail
  refine (Slabs_z _ _ (by omega) (by omega)).mono ?_
  rintro e w1 ⟨rfl, rfl⟩
  go_wp2_with fail
  refine (Block_z _ _ _ _).mono ?_
  rintro e v3 ⟨rfl, hb3⟩
  go_wp2_with fail
  refine (Slab_z _ _ (by omega) (by omega)).mono ?_
  rintro e w1 ⟨rfl, rfl⟩
  go_wp2_with fail
  refine (Size_z _ _).mono ?_
  rintro e w1 ⟨rfl, rfl⟩
  go_wp2_with fail
  refine (Class_z _ _ (by omega) (by omega)).mono ?_
  rintro e v4 ⟨rfl, hb4⟩
  go_wp2_with fail
  refine (Key_z _ _ _ (by omega) (by omega)).mono ?_
  rintro e w1 ⟨rfl, rfl⟩
  go_wp2_with fail
  refine (Ptr_z _ _ _ (by omega) (by omega)).mono ?_
  rintro e w1 ⟨rfl, rfl⟩
  go_wp2_with fail
  refine (Field_z _ _ _ (by omega) (by omega)).mono ?_
  rintro e w1 ⟨rfl, rfl⟩
  go_wp2
  go_ret
  refine ⟨rfl, ?_⟩
  exact bx (bx (bx hb1 hb2) hb3) hb4

theorem sizeZ_slabs (n : Int) (h : 0 < slabsZ n) : sizeZ (slabsZ n) = n := by
  unfold slabsZ at h ⊢
  split at h
  · rename_i hh; rw [if_pos hh]; unfold sizeZ; rw [if_pos (by omega)]; omega
  · omega
theorem slabsZ_le (n : Int) : 0 ≤ slabsZ n ∧ slabsZ n ≤ 64 := by unfold slabsZ; split <;> omega

set_option maxHeartbeats 1000000 in
theorem GeoSizes_walk (size slabs n class_ : Int) (w : World) (a1 : -9223372036854775808 ≤ size) (a2 : size ≤ 9223372036854775807) (q1 : -9223372036854775808 ≤ slabs) (q2 : slabs ≤ 9223372036854775807) (a3 : -9223372036854775808 ≤ n) (a4 : n ≤ 9223372036854775807) (q3 : -9223372036854775808 ≤ class_) (q4 : class_ ≤ 9223372036854775807) :
    Calls Try.prog 3 #[.int .i64 size, .int .i64 slabs, .int .i64 n, .int .i64 class_] w fun e w' => e = .returned (.bool true) ∧ Below w.heap.size w w' := by
  clear q1 q2 q3 q4
  have hcase : (1 ≤ slabs ∧ slabs ≤ 64 ∧ (sizeZ slabs == 1024 + 1024 * slabs) = true) ∨ (¬ (1 ≤ slabs ∧ slabs ≤ 64) ∧ (sizeZ slabs == 0) = true) := by
    unfold sizeZ
    by_cases h : 1 ≤ slabs ∧ slabs ≤ 64
    · left; rw [if_pos h]; exact ⟨h.1, h.2, beq_iff_eq.2 (by omega)⟩
    · right; rw [if_neg h]; exact ⟨h, rfl⟩
  rcases hcase with ⟨s1, s2, hsz⟩ | ⟨hs, hsz⟩
  all_goals
    by_cases hp : 0 < slabsZ size
    · have e1 : (sizeZ (slabsZ size) == size) = true := beq_iff_eq.2 (sizeZ_slabs size hp)
      go_enter Try.func3, Try.ntmps3
      go_wp2_with fail
      refine (Slabs_z _ _ a1 a2).mono ?_
      rintro e w1 ⟨rfl, rfl⟩
      go_wp2_with fail
      all_goals
        refine (RSlabs_z _ _).mono ?_
        rintro e w1 ⟨rfl, rfl⟩
        go_wp2_with fail
        refine (RSlabs_z _ _).mono ?_
        rintro e w1 ⟨rfl, rfl⟩
        go_wp2_with fail
        refine (Size_z _ _).mono ?_
        rintro e w1 ⟨rfl, rfl⟩
        go_wp2_with fail
        refine (Size_z _ _).mono ?_
        rintro e w1 ⟨rfl, rfl⟩
        go_wp2_with fail
        refine (Class_z _ _ a3 a4).mono ?_
        rintro e v1 ⟨rfl, hb1⟩
        go_wp2_with fail
        refine (RClass_z _ _).mono ?_
        rintro e w1 ⟨rfl, rfl⟩
        go_wp2_with fail
        refine (Bytes_z _ _).mono ?_
        rintro e v2 ⟨rfl, hb2⟩
        go_wp2_with fail
        refine (RBytes_z _ _).mono ?_
        rintro e w1 ⟨rfl, rfl⟩
        go_wp2_with fail
        refine (Blocks_z _ _).mono ?_
        rintro e v3 ⟨rfl, hb3⟩
        go_wp2_with fail
        refine (RBlocks_z _ _).mono ?_
        rintro e w1 ⟨rfl, rfl⟩
        go_wp2_with fail
        refine (known03 _).mono ?_
        rintro e v4 ⟨rfl, hb4⟩
        go_wp2
        go_ret
        exact ⟨rfl, bx (bx (bx hb1 hb2) hb3) hb4⟩
    · go_enter Try.func3, Try.ntmps3
      go_wp2_with fail
      refine (Slabs_z _ _ a1 a2).mono ?_
      rintro e w1 ⟨rfl, rfl⟩
      go_wp2_with fail
      all_goals
        refine (RSlabs_z _ _).mono ?_
        rintro e w1 ⟨rfl, rfl⟩
        go_wp2_with fail
        refine (RSlabs_z _ _).mono ?_
        rintro e w1 ⟨rfl, rfl⟩
        go_wp2_with fail
        refine (Size_z _ _).mono ?_
        rintro e w1 ⟨rfl, rfl⟩
        go_wp2_with fail
        refine (Class_z _ _ a3 a4).mono ?_
        rintro e v1 ⟨rfl, hb1⟩
        go_wp2_with fail
        refine (RClass_z _ _).mono ?_
        rintro e w1 ⟨rfl, rfl⟩
        go_wp2_with fail
        refine (Bytes_z _ _).mono ?_
        rintro e v2 ⟨rfl, hb2⟩
        go_wp2_with fail
        refine (RBytes_z _ _).mono ?_
        rintro e w1 ⟨rfl, rfl⟩
        go_wp2_with fail
        refine (Blocks_z _ _).mono ?_
        rintro e v3 ⟨rfl, hb3⟩
        go_wp2_with fail
        refine (RBlocks_z _ _).mono ?_
        rintro e w1 ⟨rfl, rfl⟩
        go_wp2_with fail
        refine (known03 _).mono ?_
        rintro e v4 ⟨rfl, hb4⟩
        go_wp2
        go_ret
        exact ⟨rfl, bx (bx (bx hb1 hb2) hb3) hb4⟩

set_option maxHeartbeats 1000000 in
theorem GeoFinds_walk (a c : Int) (w : World) (a1 : 0 ≤ a) (a2 : a ≤ 18446744073709551615) (q1 : -9223372036854775808 ≤ c) (q2 : c ≤ 9223372036854775807) :
    Calls Try.prog 7 #[.int .u64 a, .int .i64 c] w fun e w' => e = .returned (.bool true) ∧ Below w.heap.size w w' := by
  clear q1 q2
  have hl : (a - a % 64 == a / 64 * 64) = true := beq_iff_eq.2 (by omega)
  have hi := idxZ_lt a c
  by_cases h : idxZ a c = -1
  · have hh := idx_no h
    obtain ⟨h1, h2⟩ := hh
    have g1 : decide (0 ≤ idxZ a c) = false := decide_eq_false (by omega)
    have g2 : (if idxZ a c < 0 then 0 else idxZ a c) = 0 := if_pos (by omega)
    clear h hi
    go_enter Try.func7, Try.ntmps7
    go_wp2_with fail
    refine (Index_z _ _ _ a1 a2).mono ?_
    rintro e v1 ⟨rfl, hb1⟩
    go_wp2_with fail
    refine (RIndex_z _ _ _ a1).mono ?_
    rintro e w1 ⟨rfl, rfl⟩
    go_wp2_with fail
    refine (Slab_z _ _ a1 a2).mono ?_
    rintro e w1 ⟨rfl, rfl⟩
    go_wp2_with fail
    refine (RSlab_z _ _ a1 a2).mono ?_
    rintro e w1 ⟨rfl, rfl⟩
    go_wp2_with fail
    refine (Line_z _ _ a1 a2).mono ?_
    rintro e w1 ⟨rfl, rfl⟩
    go_wp2_with fail
    refine (known03 _).mono ?_
    rintro e v2 ⟨rfl, hb2⟩
    go_wp2
    go_ret
    exact ⟨rfl, bx hb1 hb2⟩
  · have h0 : 0 ≤ idxZ a c := by omega
    have hh := idx_at h0 rfl
    obtain ⟨h1, h2⟩ := hh
    clear h hi
    go_enter Try.func7, Try.ntmps7
    go_wp2_with fail
    refine (Index_z _ _ _ a1 a2).mono ?_
    rintro e v1 ⟨rfl, hb1⟩
    go_wp2_with fail
    refine (RIndex_z _ _ _ a1).mono ?_
    rintro e w1 ⟨rfl, rfl⟩
    go_wp2_with fail
    refine (Slab_z _ _ a1 a2).mono ?_
    rintro e w1 ⟨rfl, rfl⟩
    go_wp2_with fail
    refine (RSlab_z _ _ a1 a2).mono ?_
    rintro e w1 ⟨rfl, rfl⟩
    go_wp2_with fail
    refine (Line_z _ _ a1 a2).mono ?_
    rintro e w1 ⟨rfl, rfl⟩
    go_wp2_with fail
    refine (known03 _).mono ?_
    rintro e v2 ⟨rfl, hb2⟩
    go_wp2
    go_ret
    exact ⟨rfl, bx hb1 hb2⟩

set_option maxHeartbeats 1000000 in
theorem GeoNodes_walk (b i : Int) (w : World) (a1 : 0 ≤ b) (a2 : b ≤ 18446744073709551615) (q1 : -9223372036854775808 ≤ i) (q2 : i ≤ 9223372036854775807) :
    Calls Try.prog 5 #[.int .u64 b, .int .i64 i] w fun e w' => e = .returned (.bool true) ∧ Below w.heap.size w w' := by
  clear q1 q2
  by_cases h : 1099511627776 < b
  · go_enter Try.func5, Try.ntmps5
    go_wp2_with fail
    refine (known03 _).mono ?_
    rintro e v1 ⟨rfl, hb1⟩
    go_wp2
    go_ret
    exact ⟨rfl, hb1⟩
  · have h' : b ≤ 1099511627776 := by omega
    by_cases hi : 0 ≤ i ∧ i ≤ 7
    · have k0 : keyZ b i = b + 64 + 16 * i := if_pos hi
      have k1 : (keyZ b i != 0) = true := by simp; omega
      have k2 : (ptrZ b i == keyZ b i + 8) = true := beq_iff_eq.2 (by rw [k0]; exact if_pos hi)
      have k3 : 0 ≤ keyZ b i := by omega
      have k4 : keyZ b i ≤ 1099511628000 := by omega
      clear k0
      go_enter Try.func5, Try.ntmps5
      go_wp2_with fail
      refine (RKey_z _ _ _ a1 h').mono ?_
      rintro e w1 ⟨rfl, rfl⟩
      go_wp2_with fail
      refine (Key_z _ _ _ a1 h').mono ?_
      rintro e w1 ⟨rfl, rfl⟩
      go_wp2_with fail
      refine (Ptr_z _ _ _ a1 h').mono ?_
      rintro e w1 ⟨rfl, rfl⟩
      go_wp2_with fail
      refine (Field_z _ _ _ a1 h').mono ?_
      rintro e w1 ⟨rfl, rfl⟩
      go_wp2_with fail
      refine (RField_z _ _ _ a1 h').mono ?_
      rintro e w1 ⟨rfl, rfl⟩
      go_wp2_with fail
      refine (known03 _).mono ?_
      rintro e v1 ⟨rfl, hb1⟩
      go_wp2
      go_ret
      exact ⟨rfl, hb1⟩
    · have k0 : keyZ b i = 0 := if_neg hi
      have k5 : ptrZ b i = 0 := if_neg hi
      go_enter Try.func5, Try.ntmps5
      go_wp2_with fail
      refine (RKey_z _ _ _ a1 h').mono ?_
      rintro e w1 ⟨rfl, rfl⟩
      go_wp2_with fail
      refine (Key_z _ _ _ a1 h').mono ?_
      rintro e w1 ⟨rfl, rfl⟩
      go_wp2_with fail
      refine (Ptr_z _ _ _ a1 h').mono ?_
      rintro e w1 ⟨rfl, rfl⟩
      go_wp2_with fail
      refine (Field_z _ _ _ a1 h').mono ?_
      rintro e w1 ⟨rfl, rfl⟩
      go_wp2_with fail
      refine (RField_z _ _ _ a1 h').mono ?_
      rintro e w1 ⟨rfl, rfl⟩
      go_wp2_with fail
      refine (known03 _).mono ?_
      rintro e v1 ⟨rfl, hb1⟩
      go_wp2
      go_ret
      exact ⟨rfl, hb1⟩

theorem geo_blocks_facts (s c j : Int) (hs : 1 ≤ s ∧ s ≤ 64) (hj : 0 ≤ j ∧ j < blocksZ c) :
    headerZ s = 1024 * s ∧ bitsZ s = headerZ s + 8 ∧ blockZ s c j = headerZ s + 64 + j * bytesZ c ∧ idxZ (blockZ s c j) c = j ∧ slabZ (blockZ s c j) = s ∧ 0 ≤ j * bytesZ c ∧ j * bytesZ c ≤ 896 ∧ j * bytesZ c + bytesZ c ≤ 960 ∧ (blockZ s c j) % 64 = 0 := by
  have h1 : headerZ s = 1024 * s := if_pos hs
  have h2 : bitsZ s = headerZ s + 8 := by rw [h1]; exact if_pos hs
  have h3 : blockZ s c j = headerZ s + 64 + j * bytesZ c := by rw [h1]; exact if_pos ⟨hs.1, hs.2, hj.1, hj.2⟩
  obtain ⟨a1, a2⟩ := area_le c j hj.1 hj.2
  have h4 := blockZ_slab s c j hs hj.1 hj.2
  have hc : c = 1 ∨ c = 2 ∨ c = 3 := by
    have := hj.2; unfold blocksZ at this; split at this <;> (try split at this) <;> (try split at this) <;> omega
  refine ⟨h1, h2, h3, idxZ_at _ c j (by omega) hj.1 hj.2 (by rw [h4.1]) h4.2, h4.1, a1, a2, ?_, ?_⟩
  · have := hj.2
    rcases hc with rfl | rfl | rfl <;> simp [bytesZ, blocksZ] at this ⊢ <;> omega
  · rw [h3, h1]
    rcases hc with rfl | rfl | rfl <;> simp [bytesZ] <;> omega

set_option maxHeartbeats 1000000 in
theorem GeoBlocks_walk (s c j : Int) (w : World) (q1 : -9223372036854775808 ≤ s) (q2 : s ≤ 9223372036854775807) (q3 : -9223372036854775808 ≤ c) (q4 : c ≤ 9223372036854775807) (q5 : -9223372036854775808 ≤ j) (q6 : j ≤ 9223372036854775807) :
    Calls Try.prog 8 #[.int .i64 s, .int .i64 c, .int .i64 j] w fun e w' => e = .returned (.bool true) ∧ Below w.heap.size w w' := by
  clear q1 q2 q3 q4 q5 q6
  obtain ⟨y1, y2⟩ := headerZ_le s
  by_cases hs : 1 ≤ s ∧ s ≤ 64
  · have h0 : headerZ s = 1024 * s := if_pos hs
    have hb0 : (bitsZ s != headerZ s + 8) = false := by rw [h0]; simp; exact if_pos hs
    have hn : (headerZ s == 0) = false := by rw [h0]; simp; omega
    have hn' : (headerZ s != 0) = true := by rw [h0]; simp; omega
    by_cases hj : 0 ≤ j ∧ j < blocksZ c
    · obtain ⟨-, -, f3, f4, f5, f6, f7, f8, f9⟩ := geo_blocks_facts s c j hs hj
      have g1 : (blockZ s c j == 0) = false := by simp; omega
      have g2 := idx_at hj.1 f4
      obtain ⟨g3, g4⟩ := g2
      obtain ⟨z1, z2⟩ := bytesZ_le c
      have g5 : 0 ≤ blockZ s c j := by omega
      have g6 : blockZ s c j ≤ 66560 := by omega
      have g7 : headerZ s + 64 ≤ blockZ s c j := by omega
      have g8 : blockZ s c j + bytesZ c ≤ headerZ s + 1024 := by omega
      have g9 : (blockZ s c j - blockZ s c j % 64 == blockZ s c j) = true := by rw [f9]; simp
      clear hs hj f3 f4 f6 f7 f8 f9 h0
      go_enter Try.func8, Try.ntmps8
      go_wp2_with fail
      refine (RHeader_z _ _).mono ?_
      rintro e w1 ⟨rfl, rfl⟩
      go_wp2_with fail
      refine (RBlock_z _ _ _ _).mono ?_
      rintro e w1 ⟨rfl, rfl⟩
      go_wp2_with fail
      refine (Header_z _ _).mono ?_
      rintro e w1 ⟨rfl, rfl⟩
      go_wp2_with fail
      refine (Block_z _ _ _ _).mono ?_
      rintro e v1 ⟨rfl, hb1⟩
      go_wp2_with fail
      refine (Bits_z _ _).mono ?_
      rintro e w1 ⟨rfl, rfl⟩
      go_wp2_with fail
      refine (Index_z _ _ _ g5 (by omega)).mono ?_
      rintro e v2 ⟨rfl, hb2⟩
      go_wp2_with fail
      refine (Slab_z _ _ g5 (by omega)).mono ?_
      rintro e w1 ⟨rfl, rfl⟩
      go_wp2_with fail
      refine (Bytes_z _ _).mono ?_
      rintro e v3 ⟨rfl, hb3⟩
      go_wp2_with fail
      refine (Line_z _ _ g5 (by omega)).mono ?_
      rintro e w1 ⟨rfl, rfl⟩
      go_wp2_with fail
      refine (known03 _).mono ?_
      rintro e v4 ⟨rfl, hb4⟩
      go_wp2
      go_ret
      exact ⟨rfl, bx (bx (bx hb1 hb2) hb3) hb4⟩
    · have g1 : blockZ s c j = 0 := if_neg (by omega)
      clear hs hj h0
      go_enter Try.func8, Try.ntmps8
      go_wp2_with fail
      refine (RHeader_z _ _).mono ?_
      rintro e w1 ⟨rfl, rfl⟩
      go_wp2_with fail
      refine (RBlock_z _ _ _ _).mono ?_
      rintro e w1 ⟨rfl, rfl⟩
      go_wp2_with fail
      refine (Header_z _ _).mono ?_
      rintro e w1 ⟨rfl, rfl⟩
      go_wp2_with fail
      refine (Block_z _ _ _ _).mono ?_
      rintro e v1 ⟨rfl, hb1⟩
      go_wp2_with fail
      refine (Bits_z _ _).mono ?_
      rintro e w1 ⟨rfl, rfl⟩
      go_wp2_with fail
      refine (known03 _).mono ?_
      rintro e v2 ⟨rfl, hb2⟩
      go_wp2
      go_ret
      exact ⟨rfl, bx hb1 hb2⟩
  · have h0 : headerZ s = 0 := if_neg hs
    have hb0 : bitsZ s = 0 := if_neg hs
    have g1 : blockZ s c j = 0 := if_neg (by omega)
    clear hs
    go_enter Try.func8, Try.ntmps8
    go_wp2_with fail
    refine (RHeader_z _ _).mono ?_
    rintro e w1 ⟨rfl, rfl⟩
    go_wp2_with fail
    refine (RBlock_z _ _ _ _).mono ?_
    rintro e w1 ⟨rfl, rfl⟩
    go_wp2_with fail
    refine (Header_z _ _).mono ?_
    rintro e w1 ⟨rfl, rfl⟩
    go_wp2_with fail
    refine (Block_z _ _ _ _).mono ?_
    rintro e v1 ⟨rfl, hb1⟩
    go_wp2_with fail
    refine (Bits_z _ _).mono ?_
    rintro e w1 ⟨rfl, rfl⟩
    go_wp2_with fail
    refine (known03 _).mono ?_
    rintro e v2 ⟨rfl, hb2⟩
    go_wp2
    go_ret
    exact ⟨rfl, bx hb1 hb2⟩

end Go.Proofs.Ytnonldbnnjdifaa
