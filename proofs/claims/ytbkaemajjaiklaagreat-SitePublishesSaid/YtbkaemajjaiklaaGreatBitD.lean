/- A word of an image (slab). -/
import Derived.Test.YtbkaemajjaiklaaGreatPmX
namespace Go.Proofs.YtbkaemajjaiklaaGreat
open Go.RowKit
set_option linter.unusedVariables false
set_option linter.unusedSimpArgs false

set_option maxRecDepth 100000 in
set_option maxHeartbeats 1000000 in
theorem word_s (p : Option Addr) (cap : Nat) (bs : List Int) (a : Nat) (ha : a + 8 ≤ bs.length) (hl : bs.length ≤ 9223372036854775807) (w : World) (h : BytesIn w p cap bs) :
    Calls Tryz.prog 46 #[.slice p bs.length cap, .int .u64 (a : Int)] w fun e w' => e = .returned (.int .u64 (leW ((bs.drop a).take 8))) ∧ w = w' := by
  obtain ⟨b, off, rfl, hbl, hbc⟩ := h.2.2 (by omega)
  obtain ⟨N, hN⟩ : ∃ N, N = bs.length := ⟨_, rfl⟩
  rw [← hN] at ha hl ⊢
  obtain ⟨cs, hcs⟩ : ∃ cs, cs = (bs.drop a).take 8 := ⟨_, rfl⟩
  have hcl : cs.length = 8 := by rw [hcs]; simp; omega
  have hby : ∀ j c, cs[j]? = some c → w.cell? ⟨b, off + (a + j), none⟩ = some (.int .u8 c) ∧ 0 ≤ c ∧ c < 256 := by
    intro j c hj
    have hj8 : j < 8 := by have := (List.getElem?_eq_some_iff.1 hj).1; omega
    rw [hcs, List.getElem?_take, if_pos hj8, List.getElem?_drop] at hj
    exact ⟨hbc _ _ hj, h.2.1 c (List.mem_of_getElem? hj)⟩
  rw [← hcs]
  have HBY := hid hby
  have HCL := hid hcl
  clear h hbc hby hcl hcs hN
  go_enter Tryz.func46, Tryz.ntmps46
  go_wp2
  go_loop [4, 6] (fun v i => ∃ k : Nat, k ≤ 8 ∧ i = .int .u64 k ∧ v = .int .u64 (leW (cs.take k))) (fun _ i => (8 - (intOf i).toNat))
  case atStart => exact ⟨0, by omega, rfl, rfl⟩
  case round =>
    obtain ⟨k, hk, rfl, rfl⟩ := hrel
    by_cases hlt2 : k < 8
    · obtain ⟨c, hc⟩ : ∃ c, cs[k]? = some c := ⟨_, List.getElem?_eq_getElem (by have := HCL.out; omega)⟩
      obtain ⟨y0, y1, y2⟩ := HBY.out k c hc
      have i1 : (0 : Int) ≤ k := by omega
      have i2 : (k : Int) < 8 := by omega
      have i3 : IntKind.u64.wrap ((a : Int) + (k : Int)) = ((a + k : Nat) : Int) := by rw [IntWalk.u64_in _ (by omega)]; simp
      have i4 : (0 : Int) ≤ ((a + k : Nat) : Int) := by omega
      have i5 : ((a + k : Nat) : Int) < (N : Int) := by omega
      have HC := hid hc
      have hw : Hid (bits BinOp.or IntKind.u64 (leW (cs.take k)) (IntKind.u64.wrap (c * 2 ^ (8 * k))) = leW (cs.take (k + 1))) := by
        have hl : (cs.take k).length = k := by have := HCL.out; simp; omega
        have h1 := leW_bounds (bs := cs.take k) (fun z hz => by
          obtain ⟨j, hj⟩ := List.getElem?_of_mem (List.mem_of_mem_take hz)
          exact (HBY.out j z hj).2)
        rw [hl] at h1
        show bits _ _ _ _ = _
        rw [or_word h1.1 h1.2 y1 y2 hlt2]
        have h2 := leW_snoc (cs.take k) c
        rw [hl] at h2
        rw [← h2]
        congr 1
        obtain ⟨hkl, hck⟩ := List.getElem?_eq_some_iff.1 HC.out
        rw [List.take_succ_eq_append_getElem hkl, hck]
      clear hc
      go_wp2
      go_round
      case rel => exact ⟨k + 1, by omega, by go_num, by rw [hw.out]⟩
      case measure => simp [intOf]; omega
    · obtain rfl : k = 8 := by omega
      have ht : cs.take 8 = cs := List.take_of_length_le (by have := HCL.out; omega)
      rw [ht]
      clear hk hlt2
      go_wp2
      go_ret
      exact ⟨rfl, rfl⟩

end Go.Proofs.YtbkaemajjaiklaaGreat
