/- Contracts of the references' words and bits: Take, Has, Put. -/
import Derived.Test.YtbkaemajjaiklaaPmO
import Derived.Test.YtbkaemajjaiklaaBitA
namespace Go.Proofs.Ytbkaemajjaiklaa
open Go.RowKit
set_option linter.unusedVariables false
set_option linter.unusedSimpArgs false

set_option maxRecDepth 100000 in
set_option maxHeartbeats 1000000 in
theorem Take_r (p : Option Addr) (cap : Nat) (bs : List Int) (a : Nat) (ha : a + 8 ≤ bs.length) (hl : bs.length ≤ 9223372036854775807) (w : World) (h : BytesIn w p cap bs) :
    Calls Try.prog 79 #[.slice p bs.length cap, .int .i64 (a : Int)] w fun e w' => e = .returned (.int .u64 (leW ((bs.drop a).take 8))) ∧ w = w' := by
  obtain ⟨b, off, rfl, hbl, hbc⟩ := h.2.2 (by omega)
  obtain ⟨N, hN⟩ : ∃ N, N = bs.length := ⟨_, rfl⟩
  rw [← hN] at ha hl ⊢
  obtain ⟨cs, hcs⟩ : ∃ cs, cs = (bs.drop a).take 8 := ⟨_, rfl⟩
  have hcl : cs.length = 8 := by rw [hcs]; simp; omega
  have hby : ∀ j c, cs[j]? = some c → w.cell? ⟨b, off + (a + j), none⟩ = some (.int .u8 c) ∧ 0 ≤ c ∧ c < 256 := by
    intro j c hj
    have hj8 : j < 8 := by have := (List.getElem?_eq_some_iff.1 hj).1; omega
    rw [hcs, List.getElem?_take, if_pos hj8, List.getElem?_drop] at hj
    exact ⟨hbc _ _ hj, h.2.1 c (List.mem_of_getElem? hj)⟩
  rw [← hcs]
  have HBY := hid hby
  have HCL := hid hcl
  clear h hbc hby hcl hcs hN
  go_enter Try.func79, Try.ntmps79
  go_wp2
  go_loop [5, 6] (fun v i => ∃ k : Nat, k ≤ 8 ∧ i = .int .i64 ((k : Int) - 1) ∧ v = .int .u64 (leW (cs.drop k))) (fun _ i => ((intOf i) + 1).toNat)
  case atStart =>
    refine ⟨8, by omega, rfl, ?_⟩
    rw [List.drop_of_length_le (by have := HCL.out; omega)]; rfl
  case round =>
    obtain ⟨k, hk, rfl, rfl⟩ := hrel
    by_cases hlt : 0 < k
    · obtain ⟨j, rfl⟩ : ∃ j, k = j + 1 := ⟨k - 1, by omega⟩
      have ej : (((j + 1 : Nat)) : Int) - 1 = (j : Int) := by omega
      rw [ej]
      obtain ⟨c, hc⟩ : ∃ c, cs[j]? = some c := ⟨_, List.getElem?_eq_getElem (by have := HCL.out; omega)⟩
      obtain ⟨y0, y1, y2⟩ := HBY.out j c hc
      have hw : Hid (leW (cs.drop j) = c + 256 * leW (cs.drop (j + 1))) := by
        show _ = _
        obtain ⟨hjl, hcj⟩ := List.getElem?_eq_some_iff.1 hc
        rw [List.drop_eq_getElem_cons hjl, hcj]; rfl
      have hb := leW_bounds (bs := cs.drop (j + 1)) (fun z hz => by
        obtain ⟨m, hm⟩ := List.getElem?_of_mem (List.mem_of_mem_drop hz)
        exact (HBY.out m z hm).2)
      have hp : (2 : Int) ^ (8 * (cs.drop (j + 1)).length) ≤ 2 ^ 56 := by
        have h4 := Nat.pow_le_pow_right (n := 2) (by omega) (show 8 * (cs.drop (j + 1)).length ≤ 56 by simp; have := HCL.out; omega)
        exact_mod_cast h4
      have h56 : ((2 : Int) ^ 56) = 72057594037927936 := by decide
      obtain ⟨V, hV⟩ : ∃ V, V = leW (cs.drop (j + 1)) := ⟨_, rfl⟩
      rw [← hV] at hw hb ⊢
      have v0 : 0 ≤ V := hb.1
      have v1 : V * 256 + c < 18446744073709551616 := by omega
      have v2 : V * 256 < 18446744073709551616 := by omega
      have i0 : (0 : Int) ≤ (j : Int) := by omega
      have i1 : (0 : Int) ≤ (a : Int) + (j : Int) := by omega
      have i2 : (a : Int) + (j : Int) < (N : Int) := by omega
      have i3 : ((a : Int) + (j : Int)).toNat = a + j := by omega
      have i4 : IntKind.u64.wrap (V * 256) = V * 256 := IntWalk.u64_in _ (by omega)
      have i5 : IntKind.u64.wrap (V * 256 + c) = V * 256 + c := IntWalk.u64_in _ (by omega)
      have i6 : IntKind.u64.wrap c = c := IntWalk.u64_in _ (by omega)
      clear hc hb hp h56 hV
      go_wp2
      go_round
      case rel => exact ⟨j, by omega, by first | rfl | go_num, by rw [hw.out]; try (congr 1; omega)⟩
      case measure => simp [intOf]
    · obtain rfl : k = 0 := by omega
      have i1 : ¬ ((((0 : Nat)) : Int) - 1 ≥ 0) := by omega
      rw [List.drop_zero]
      go_wp2
      go_ret
      exact ⟨rfl, rfl⟩

set_option maxRecDepth 100000 in
theorem RHas_r (b j : Nat) (hb : b < 18446744073709551616) (hj : j < 64) (w : World) :
    Calls Try.prog 109 #[.int .u64 (b : Int), .int .i64 (j : Int)] w fun e w' => e = .returned (.bool (hasB b j)) ∧ w = w' := by
  have i1 : (0 : Int) ≤ (j : Int) := by omega
  have i2 : ¬ (j : Int) > 63 := by omega
  go_enter Try.func109, Try.ntmps109
  go_wp2
  go_loop [0, 5] (fun v i => ∃ k : Nat, k ≤ j ∧ i = .int .i64 k ∧ v = .int .u64 ((b / 2 ^ k : Nat) : Int)) (fun _ i => (j - (intOf i).toNat))
  case atStart => exact ⟨0, by omega, rfl, by simp⟩
  case round =>
    obtain ⟨k, hk, rfl, rfl⟩ := hrel
    have hle : b / 2 ^ k ≤ b := Nat.div_le_self _ _
    by_cases hlt : k < j
    · have k1 : (k : Int) < (j : Int) := by omega
      have e2 : b / 2 ^ (k + 1) = b / 2 ^ k / 2 := by rw [Nat.pow_succ, Nat.div_div_eq_div_mul]
      have HE := hid e2
      obtain ⟨V, hV⟩ : ∃ V, V = b / 2 ^ k := ⟨_, rfl⟩
      rw [← hV] at HE hle ⊢
      have v1 : (V : Int) < 18446744073709551616 := by omega
      have v0 : (0 : Int) ≤ (V : Int) := by omega
      clear e2 hV
      go_wp2
      go_round
      case rel => exact ⟨k + 1, by omega, by go_num, by rw [HE.out]; try (congr 1)⟩
      case measure => simp [intOf]; omega
    · obtain rfl : k = j := by omega
      have k1 : ¬ (k : Int) < (k : Int) := by omega
      have hT : Hid (hasB b k = decide (b / 2 ^ k % 2 = 1)) := Nat.testBit_eq_decide_div_mod_eq
      obtain ⟨V, hV⟩ : ∃ V, V = b / 2 ^ k := ⟨_, rfl⟩
      rw [← hV] at hT hle ⊢
      have v1 : (V : Int) < 18446744073709551616 := by omega
      have v0 : (0 : Int) ≤ (V : Int) := by omega
      clear hV
      go_wp2
      go_ret
      refine ⟨?_, rfl⟩
      have hB : ((V : Int) % 2 == 1) = decide (V % 2 = 1) := by
        rw [Bool.eq_iff_iff]; simp; omega
      rw [hT.out, ← hB]
      rfl

end Go.Proofs.Ytbkaemajjaiklaa
