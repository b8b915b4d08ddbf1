/- The walks of GeoApart and GeoWhole. -/
import Derived.Test.YtnonldbnnjdifaaLawGeo
namespace Go.Proofs.Ytnonldbnnjdifaa
open Go.RowKit
set_option linter.unusedVariables false

theorem blockZ_pos {s c j : Int} (h : ¬ blockZ s c j = 0) : (1 ≤ s ∧ s ≤ 64) ∧ (0 ≤ j ∧ j < blocksZ c) := by
  unfold blockZ at h
  split at h
  · omega
  · exact absurd rfl h

theorem area_lt (c j k : Int) (h0 : 0 ≤ j) (h : j < k) (hk : k < blocksZ c) : j * bytesZ c + bytesZ c ≤ k * bytesZ c ∧ 64 ≤ bytesZ c := by
  have hc : c = 1 ∨ c = 2 ∨ c = 3 := by
    unfold blocksZ at hk; split at hk <;> (try split at hk) <;> (try split at hk) <;> omega
  rcases hc with rfl | rfl | rfl <;> simp [bytesZ] <;> omega
theorem bytes_pos (c j : Int) (h0 : 0 ≤ j) (h : j < blocksZ c) : 64 ≤ bytesZ c := by
  have hc : c = 1 ∨ c = 2 ∨ c = 3 := by
    unfold blocksZ at h; split at h <;> (try split at h) <;> (try split at h) <;> omega
  rcases hc with rfl | rfl | rfl <;> simp [bytesZ]

set_option maxHeartbeats 2000000 in
theorem GeoApart_eq (s c j c2 j2 : Int) (w : World) :
    Calls Try.prog 4 #[.int .i64 s, .int .i64 c, .int .i64 j, .int .i64 s, .int .i64 c2, .int .i64 j2] w fun e w' => e = .returned (.bool true) ∧ Below w.heap.size w w' := by
  by_cases h1 : blockZ s c j = 0
  · skip
    go_enter Try.func4, Try.ntmps4
    go_wp2_with fail
    refine (Block_z _ _ _ _).mono ?_
    rintro e v1 ⟨rfl, hb1⟩
    go_wp2_with fail
    refine (Block_z _ _ _ _).mono ?_
    rintro e v2 ⟨rfl, hb2⟩
    go_wp2_with fail
    refine (RBlock_z _ _ _ _).mono ?_
    rintro e w1 ⟨rfl, rfl⟩
    go_wp2_with fail
    refine (known03 _).mono ?_
    rintro e v3 ⟨rfl, hb3⟩
    go_wp2
    go_ret
    exact ⟨rfl, bx (bx hb1 hb2) hb3⟩
  · have h1' : (blockZ s c j == 0) = false := beq_eq_false_iff_ne.2 h1
    by_cases h2 : blockZ s c j2 = 0
    · clear h1
      go_enter Try.func4, Try.ntmps4
      go_wp2_with fail
      refine (Block_z _ _ _ _).mono ?_
      rintro e v1 ⟨rfl, hb1⟩
      go_wp2_with fail
      refine (Block_z _ _ _ _).mono ?_
      rintro e v2 ⟨rfl, hb2⟩
      go_wp2_with fail
      refine (RBlock_z _ _ _ _).mono ?_
      rintro e w1 ⟨rfl, rfl⟩
      go_wp2_with fail
      refine (RBlock_z _ _ _ _).mono ?_
      rintro e w1 ⟨rfl, rfl⟩
      go_wp2_with fail
      refine (known03 _).mono ?_
      rintro e v3 ⟨rfl, hb3⟩
      go_wp2
      go_ret
      exact ⟨rfl, bx (bx hb1 hb2) hb3⟩
    · have h2' : (blockZ s c j2 == 0) = false := beq_eq_false_iff_ne.2 h2
      by_cases hj : j = j2
      · subst hj
        clear h1 h2
        go_enter Try.func4, Try.ntmps4
        go_wp2_with fail
        refine (Block_z _ _ _ _).mono ?_
        rintro e v1 ⟨rfl, hb1⟩
        go_wp2_with fail
        refine (Block_z _ _ _ _).mono ?_
        rintro e v2 ⟨rfl, hb2⟩
        go_wp2_with fail
        refine (RBlock_z _ _ _ _).mono ?_
        rintro e w1 ⟨rfl, rfl⟩
        go_wp2_with fail
        refine (RBlock_z _ _ _ _).mono ?_
        rintro e w1 ⟨rfl, rfl⟩
        go_wp2_with fail
        refine (known03 _).mono ?_
        rintro e v3 ⟨rfl, hb3⟩
        go_wp2
        go_ret
        exact ⟨rfl, bx (bx hb1 hb2) hb3⟩
      · have hj' : (j == j2) = false := beq_eq_false_iff_ne.2 hj
        obtain ⟨ps, pj⟩ := blockZ_pos h1
        obtain ⟨-, pj2⟩ := blockZ_pos h2
        obtain ⟨f1, -, f3, -, -, f6, f7, f8, -⟩ := geo_blocks_facts s c j ps pj
        obtain ⟨-, -, k3, -, -, k6, k7, k8, -⟩ := geo_blocks_facts s c j2 ps pj2
        have z1 := bytes_pos c j pj.1 pj.2
        obtain ⟨-, z2⟩ := bytesZ_le c
        have n1 : 0 < bytesZ c := by omega
        have a1 : 1024 ≤ blockZ s c j := by omega
        have a2 : blockZ s c j + bytesZ c ≤ 66560 := by omega
        have a3 : 0 ≤ blockZ s c j2 := by omega
        have a4 : blockZ s c j2 ≤ 66560 := by omega
        have a5 : ¬ blockZ s c j + bytesZ c ≤ headerZ s := by omega
        have a6 : headerZ s + 64 ≤ blockZ s c j := by omega
        have a7 : 0 ≤ headerZ s := by omega
        have a8 : headerZ s ≤ 65536 := by omega
        by_cases hlt : j < j2
        · obtain ⟨g1, -⟩ := area_lt c j j2 pj.1 hlt pj2.2
          have d1 : blockZ s c j + bytesZ c ≤ blockZ s c j2 := by omega
          clear h1 h2 hj hlt ps pj pj2 f1 f3 f6 f7 f8 k3 k6 k7 k8 g1
          go_enter Try.func4, Try.ntmps4
          go_wp2_with fail
          refine (Block_z _ _ _ _).mono ?_
          rintro e v1 ⟨rfl, hb1⟩
          go_wp2_with fail
          refine (Block_z _ _ _ _).mono ?_
          rintro e v2 ⟨rfl, hb2⟩
          go_wp2_with fail
          refine (RBlock_z _ _ _ _).mono ?_
          rintro e w1 ⟨rfl, rfl⟩
          go_wp2_with fail
          refine (RBlock_z _ _ _ _).mono ?_
          rintro e w1 ⟨rfl, rfl⟩
          go_wp2_with fail
          refine (Bytes_z _ _).mono ?_
          rintro e v3 ⟨rfl, hb3⟩
          go_wp2_with fail
          refine (Bytes_z _ _).mono ?_
          rintro e v4 ⟨rfl, hb4⟩
          go_wp2_with fail
          refine (Header_z _ _).mono ?_
          rintro e w1 ⟨rfl, rfl⟩
          go_wp2_with fail
          refine (known03 _).mono ?_
          rintro e v5 ⟨rfl, hb5⟩
          go_wp2
          go_ret
          exact ⟨rfl, bx (bx (bx (bx hb1 hb2) hb3) hb4) hb5⟩
        · obtain ⟨g1, -⟩ := area_lt c j2 j pj2.1 (by omega) pj.2
          have d1 : ¬ blockZ s c j + bytesZ c ≤ blockZ s c j2 := by omega
          have d2 : blockZ s c j2 + bytesZ c ≤ blockZ s c j := by omega
          clear h1 h2 hj hlt ps pj pj2 f1 f3 f6 f7 f8 k3 k6 k7 k8 g1
          go_enter Try.func4, Try.ntmps4
          go_wp2_with fail
          refine (Block_z _ _ _ _).mono ?_
          rintro e v1 ⟨rfl, hb1⟩
          go_wp2_with fail
          refine (Block_z _ _ _ _).mono ?_
          rintro e v2 ⟨rfl, hb2⟩
          go_wp2_with fail
          refine (RBlock_z _ _ _ _).mono ?_
          rintro e w1 ⟨rfl, rfl⟩
          go_wp2_with fail
          refine (RBlock_z _ _ _ _).mono ?_
          rintro e w1 ⟨rfl, rfl⟩
          go_wp2_with fail
          refine (Bytes_z _ _).mono ?_
          rintro e v3 ⟨rfl, hb3⟩
          go_wp2_with fail
          refine (Bytes_z _ _).mono ?_
          rintro e v4 ⟨rfl, hb4⟩
          go_wp2_with fail
          refine (Header_z _ _).mono ?_
          rintro e w1 ⟨rfl, rfl⟩
          go_wp2_with fail
          refine (known03 _).mono ?_
          rintro e v5 ⟨rfl, hb5⟩
          go_wp2
          go_ret
          exact ⟨rfl, bx (bx (bx (bx hb1 hb2) hb3) hb4) hb5⟩

set_option maxHeartbeats 2000000 in
theorem GeoApart_ne (s c j s2 c2 j2 : Int) (w : World) (hne : (s == s2) = false) :
    Calls Try.prog 4 #[.int .i64 s, .int .i64 c, .int .i64 j, .int .i64 s2, .int .i64 c2, .int .i64 j2] w fun e w' => e = .returned (.bool true) ∧ Below w.heap.size w w' := by
  by_cases h1 : blockZ s c j = 0
  · skip
    go_enter Try.func4, Try.ntmps4
    go_wp2_with fail
    refine (Block_z _ _ _ _).mono ?_
    rintro e v1 ⟨rfl, hb1⟩
    go_wp2_with fail
    refine (Block_z _ _ _ _).mono ?_
    rintro e v2 ⟨rfl, hb2⟩
    go_wp2_with fail
    refine (RBlock_z _ _ _ _).mono ?_
    rintro e w1 ⟨rfl, rfl⟩
    go_wp2_with fail
    refine (known03 _).mono ?_
    rintro e v3 ⟨rfl, hb3⟩
    go_wp2
    go_ret
    exact ⟨rfl, bx (bx hb1 hb2) hb3⟩
  · have h1' : (blockZ s c j == 0) = false := beq_eq_false_iff_ne.2 h1
    by_cases h2 : blockZ s2 c2 j2 = 0
    · clear h1
      go_enter Try.func4, Try.ntmps4
      go_wp2_with fail
      refine (Block_z _ _ _ _).mono ?_
      rintro e v1 ⟨rfl, hb1⟩
      go_wp2_with fail
      refine (Block_z _ _ _ _).mono ?_
      rintro e v2 ⟨rfl, hb2⟩
      go_wp2_with fail
      refine (RBlock_z _ _ _ _).mono ?_
      rintro e w1 ⟨rfl, rfl⟩
      go_wp2_with fail
      refine (RBlock_z _ _ _ _).mono ?_
      rintro e w1 ⟨rfl, rfl⟩
      go_wp2_with fail
      refine (known03 _).mono ?_
      rintro e v3 ⟨rfl, hb3⟩
      go_wp2
      go_ret
      exact ⟨rfl, bx (bx hb1 hb2) hb3⟩
    · have h2' : (blockZ s2 c2 j2 == 0) = false := beq_eq_false_iff_ne.2 h2
      obtain ⟨ps, pj⟩ := blockZ_pos h1
      obtain ⟨ps2, pj2⟩ := blockZ_pos h2
      obtain ⟨f1, -, f3, -, -, f6, f7, f8, -⟩ := geo_blocks_facts s c j ps pj
      obtain ⟨k1, -, k3, -, -, k6, k7, k8, -⟩ := geo_blocks_facts s2 c2 j2 ps2 pj2
      have z1 := bytes_pos c j pj.1 pj.2
      have y1 := bytes_pos c2 j2 pj2.1 pj2.2
      obtain ⟨-, z2⟩ := bytesZ_le c
      obtain ⟨-, y2⟩ := bytesZ_le c2
      have n1 : 0 < bytesZ c := by omega
      have n2 : 0 < bytesZ c2 := by omega
      have a1 : 1024 ≤ blockZ s c j := by omega
      have a2 : blockZ s c j + bytesZ c ≤ 66560 := by omega
      have a3 : 0 ≤ blockZ s2 c2 j2 := by omega
      have a4 : blockZ s2 c2 j2 ≤ 66560 := by omega
      have a7 : 0 ≤ headerZ s2 := by omega
      have a8 : headerZ s2 ≤ 65536 := by omega
      have hn := beq_eq_false_iff_ne.1 hne
      by_cases hlt : s < s2
      · have d1 : blockZ s c j + bytesZ c ≤ blockZ s2 c2 j2 := by omega
        have a5 : blockZ s c j + bytesZ c ≤ headerZ s2 := by omega
        clear h1 h2 hn hlt ps pj ps2 pj2 f1 f3 f6 f7 f8 k1 k3 k6 k7 k8
        go_enter Try.func4, Try.ntmps4
        go_wp2_with fail
        refine (Block_z _ _ _ _).mono ?_
        rintro e v1 ⟨rfl, hb1⟩
        go_wp2_with fail
        refine (Block_z _ _ _ _).mono ?_
        rintro e v2 ⟨rfl, hb2⟩
        go_wp2_with fail
        refine (RBlock_z _ _ _ _).mono ?_
        rintro e w1 ⟨rfl, rfl⟩
        go_wp2_with fail
        refine (RBlock_z _ _ _ _).mono ?_
        rintro e w1 ⟨rfl, rfl⟩
        go_wp2_with fail
        refine (Bytes_z _ _).mono ?_
        rintro e v3 ⟨rfl, hb3⟩
        go_wp2_with fail
        refine (Bytes_z _ _).mono ?_
        rintro e v4 ⟨rfl, hb4⟩
        go_wp2_with fail
        refine (Header_z _ _).mono ?_
        rintro e w1 ⟨rfl, rfl⟩
        go_wp2_with fail
        refine (known03 _).mono ?_
        rintro e v5 ⟨rfl, hb5⟩
        go_wp2
        go_ret
        exact ⟨rfl, bx (bx (bx (bx hb1 hb2) hb3) hb4) hb5⟩
      · have d1 : ¬ blockZ s c j + bytesZ c ≤ blockZ s2 c2 j2 := by omega
        have d2 : blockZ s2 c2 j2 + bytesZ c2 ≤ blockZ s c j := by omega
        have a5 : ¬ blockZ s c j + bytesZ c ≤ headerZ s2 := by omega
        have a6 : headerZ s2 + 64 ≤ blockZ s c j := by omega
        clear h1 h2 hn hlt ps pj ps2 pj2 f1 f3 f6 f7 f8 k1 k3 k6 k7 k8
        go_enter Try.func4, Try.ntmps4
        go_wp2_with fail
        refine (Block_z _ _ _ _).mono ?_
        rintro e v1 ⟨rfl, hb1⟩
        go_wp2_with fail
        refine (Block_z _ _ _ _).mono ?_
        rintro e v2 ⟨rfl, hb2⟩
        go_wp2_with fail
        refine (RBlock_z _ _ _ _).mono ?_
        rintro e w1 ⟨rfl, rfl⟩
        go_wp2_with fail
        refine (RBlock_z _ _ _ _).mono ?_
        rintro e w1 ⟨rfl, rfl⟩
        go_wp2_with fail
        refine (Bytes_z _ _).mono ?_
        rintro e v3 ⟨rfl, hb3⟩
        go_wp2_with fail
        refine (Bytes_z _ _).mono ?_
        rintro e v4 ⟨rfl, hb4⟩
        go_wp2_with fail
        refine (Header_z _ _).mono ?_
        rintro e w1 ⟨rfl, rfl⟩
        go_wp2_with fail
        refine (known03 _).mono ?_
        rintro e v5 ⟨rfl, hb5⟩
        go_wp2
        go_ret
        exact ⟨rfl, bx (bx (bx (bx hb1 hb2) hb3) hb4) hb5⟩

theorem GeoApart_walk (s c j s2 c2 j2 : Int) (w : World) (q1 : -9223372036854775808 ≤ s) (q2 : s ≤ 9223372036854775807) (q3 : -9223372036854775808 ≤ c) (q4 : c ≤ 9223372036854775807) (q5 : -9223372036854775808 ≤ j) (q6 : j ≤ 9223372036854775807)
    (r1 : -9223372036854775808 ≤ s2) (r2 : s2 ≤ 9223372036854775807) (r3 : -9223372036854775808 ≤ c2) (r4 : c2 ≤ 9223372036854775807) (r5 : -9223372036854775808 ≤ j2) (r6 : j2 ≤ 9223372036854775807) :
    Calls Try.prog 4 #[.int .i64 s, .int .i64 c, .int .i64 j, .int .i64 s2, .int .i64 c2, .int .i64 j2] w fun e w' => e = .returned (.bool true) ∧ Below w.heap.size w w' := by
  by_cases h : s = s2
  · subst h; exact GeoApart_eq s c j c2 j2 w
  · exact GeoApart_ne s c j s2 c2 j2 w (beq_eq_false_iff_ne.2 h)

set_option maxHeartbeats 2000000 in
theorem GeoWhole_walk (w : World) : Calls Try.prog 6 #[] w fun e w' => e = .returned (.bool true) ∧ Below w.heap.size w w' := by
  go_enter Try.func6, Try.ntmps6
  go_wp2_with fail
  go_loopw [1, 2] (fun i _ wr => ∃ k : Int, 1 ≤ k ∧ k ≤ 4 ∧ i = .int .i64 k ∧ Below w.heap.size w wr) (fun i _ _ => (4 - intOf i).toNat)
  case atStart => exact ⟨1, by omega, by omega, rfl, Below.refl _ _⟩
  case round =>
    obtain ⟨k, hk1, hk2, rfl, hb⟩ := hrel
    have hk : k = 1 ∨ k = 2 ∨ k = 3 ∨ k = 4 := by omega
    clear hk1 hk2
    rcases hk with rfl | rfl | rfl | rfl
    · have e1 : blocksZ 1 = 15 := by decide
      have e2 : bytesZ 1 = 64 := by decide
      have e3 : blockZ 1 1 15 = 0 := by decide
      have e4 : blockZ 1 1 14 = 1984 := by decide
      go_wp2_with fail
      refine (Blocks_z _ _).mono ?_
      rintro e v1 ⟨rfl, hb1⟩
      go_wp2_with fail
      refine (Bytes_z _ _).mono ?_
      rintro e v2 ⟨rfl, hb2⟩
      go_wp2_with fail
      refine (Bytes_z _ _).mono ?_
      rintro e v3 ⟨rfl, hb3⟩
      go_wp2_with fail
      refine (Block_z _ _ _ _).mono ?_
      rintro e v4 ⟨rfl, hb4⟩
      go_wp2_with fail
      refine (Block_z _ _ _ _).mono ?_
      rintro e v5 ⟨rfl, hb5⟩
      go_wp2
      go_roundw
      case rel => exact ⟨2, by omega, by omega, rfl, hb.trans ((bx (bx (bx (bx hb1 hb2) hb3) hb4) hb5).mono hb.size)⟩
      case measure => simp [intOf]
    · have e1 : blocksZ 2 = 7 := by decide
      have e2 : bytesZ 2 = 128 := by decide
      have e3 : blockZ 1 2 7 = 0 := by decide
      have e4 : blockZ 1 2 6 = 1856 := by decide
      go_wp2_with fail
      refine (Blocks_z _ _).mono ?_
      rintro e v1 ⟨rfl, hb1⟩
      go_wp2_with fail
      refine (Bytes_z _ _).mono ?_
      rintro e v2 ⟨rfl, hb2⟩
      go_wp2_with fail
      refine (Bytes_z _ _).mono ?_
      rintro e v3 ⟨rfl, hb3⟩
      go_wp2_with fail
      refine (Block_z _ _ _ _).mono ?_
      rintro e v4 ⟨rfl, hb4⟩
      go_wp2_with fail
      refine (Block_z _ _ _ _).mono ?_
      rintro e v5 ⟨rfl, hb5⟩
      go_wp2
      go_roundw
      case rel => exact ⟨3, by omega, by omega, rfl, hb.trans ((bx (bx (bx (bx hb1 hb2) hb3) hb4) hb5).mono hb.size)⟩
      case measure => simp [intOf]
    · have e1 : blocksZ 3 = 5 := by decide
      have e2 : bytesZ 3 = 192 := by decide
      have e3 : blockZ 1 3 5 = 0 := by decide
      have e4 : blockZ 1 3 4 = 1856 := by decide
      go_wp2_with fail
      refine (Blocks_z _ _).mono ?_
      rintro e v1 ⟨rfl, hb1⟩
      go_wp2_with fail
      refine (Bytes_z _ _).mono ?_
      rintro e v2 ⟨rfl, hb2⟩
      go_wp2_with fail
      refine (Bytes_z _ _).mono ?_
      rintro e v3 ⟨rfl, hb3⟩
      go_wp2_with fail
      refine (Block_z _ _ _ _).mono ?_
      rintro e v4 ⟨rfl, hb4⟩
      go_wp2_with fail
      refine (Block_z _ _ _ _).mono ?_
      rintro e v5 ⟨rfl, hb5⟩
      go_wp2
      go_roundw
      case rel => exact ⟨4, by omega, by omega, rfl, hb.trans ((bx (bx (bx (bx hb1 hb2) hb3) hb4) hb5).mono hb.size)⟩
      case measure => simp [intOf]
    · have e1 : ptrZ 192 7 = 376 := by decide
      have e2 : bytesZ 3 = 192 := by decide
      have e3 : keyZ 192 0 = 256 := by decide
      have e4 : fieldZ 192 7 = 248 := by decide
      go_wp2_with fail
      refine (Ptr_z _ _ _ (by omega) (by omega)).mono ?_
      rintro e w1 ⟨rfl, rfl⟩
      go_wp2_with fail
      refine (Bytes_z _ _).mono ?_
      rintro e v1 ⟨rfl, hb1⟩
      go_wp2_with fail
      refine (Key_z _ _ _ (by omega) (by omega)).mono ?_
      rintro e w1 ⟨rfl, rfl⟩
      go_wp2_with fail
      refine (Field_z _ _ _ (by omega) (by omega)).mono ?_
      rintro e w1 ⟨rfl, rfl⟩
      go_wp2_with fail
      refine (known03 _).mono ?_
      rintro e v2 ⟨rfl, hb2⟩
      go_wp2
      go_ret
      exact ⟨rfl, hb.trans ((bx hb1 hb2).mono hb.size)⟩

end Go.Proofs.Ytnonldbnnjdifaa
