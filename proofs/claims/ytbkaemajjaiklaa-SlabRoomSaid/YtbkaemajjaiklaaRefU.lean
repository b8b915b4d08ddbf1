/- Contracts of the references' bits: Bits, May. -/
import Derived.Maps.AppendAt
import Derived.Deep.AppendLies
import Derived.Test.YtbkaemajjaiklaaRefT
import Derived.Test.YtbkaemajjaiklaaBitC
import Derived.Test.YtbkaemajjaiklaaFreeM

namespace Go.Proofs.Ytbkaemajjaiklaa
open Go.RowKit
set_option linter.unusedVariables false
set_option linter.unusedSimpArgs false

theorem own_base {w : World} {base : Nat} {e : TypeId} {size n : Nat} {v : Value} {xs : List Value} (h : w.ownsRow base e size v n xs) : ∀ k, v.ownBlock = some k → base ≤ k := by
  intro k hk
  rcases h.2 with ⟨h1, _⟩ | ⟨g, cap, cur, h1, h2, _⟩
  · rw [h1] at hk; cases hk
  · rw [h1] at hk
    have : g = k := by simpa [Value.ownBlock] using hk
    omega
theorem info_int : (Try.prog.info? 3).map (fun i => (i.zero, i.size, i.bytes)) = some (some (.int .i64 0), 1, 8) := by kernel_rfl
def bitV (j : Fin 64) : Value := .int .i64 (j.val : Int)

set_option maxRecDepth 100000 in
set_option maxHeartbeats 1000000 in
theorem RBits_r (b : Nat) (hb : b < 18446744073709551616) (w : World) :
    Calls Try.prog 82 #[.int .u64 (b : Int)] w fun e w' => ∃ v, e = .returned v ∧ w'.ownsRow w.heap.size 3 1 v (setBits b).length ((setBits b).map bitV) ∧ Below w.heap.size w w' := by
  obtain ⟨i0, hi, hz0, hz1, hz2⟩ := info_parts info_int
  have HB := hid hb
  clear hb
  go_enter Try.func82, Try.ntmps82
  go_wp2
  go_loopw [3, 4] (fun v i wr => ∃ k : Nat, k ≤ 64 ∧ i = .int .i64 k ∧ Hid (wr.ownsRow w.heap.size 3 1 v (bitsTo b k).length ((bitsTo b k).map bitV) ∧ Below w.heap.size w wr)) (fun _ i _ => (64 - (intOf i).toNat))
  case atStart => exact ⟨0, by omega, rfl, World.ownsRow_nil _ _ _ _, Below.refl _ _⟩
  case round =>
    obtain ⟨k, hk, rfl, hI⟩ := hrel
    by_cases hlt : k < 64
    · have i2 : (k : Int) < 64 := by omega
      go_wp2_with fail
      refine (RHas_r b k HB.out hlt wr).mono ?_
      rintro e w1 ⟨rfl, rfl⟩
      cases hh : hasB b k
      · have hT := hid (show bitsTo b (k + 1) = bitsTo b k by rw [bitsTo_succ hlt, hh]; rfl)
        go_wp2
        go_roundw
        case rel => exact ⟨k + 1, by omega, by go_num, by rw [hT.out]; exact hI⟩
        case measure => simp [intOf]; omega
      · have hT := hid (show bitsTo b (k + 1) = bitsTo b k ++ [⟨k, hlt⟩] by rw [bitsTo_succ hlt, hh]; rfl)
        have hl := bitsTo_length b k
        have h63 : (bitsTo b k).length + 1 ≤ maxLen := by unfold maxLen; omega
        have hby : ((bitsTo b k).length + 1) * 8 ≤ 140737488355328 := by omega
        have HS := hid hI.out.2.size
        have HO := hid (hI.out.1.alloc (.cells #[.int .i64 (k : Int)] 3))
        go_wp2_with (at_builtin; go_must (refine wpList_append_own_at _ rfl _ _ 146 rfl w.heap.size 3 i0 (.int .i64 0) 1 8 Try.underlying146 hi hz0 hz1 hz2 rfl (by decide) _ _ _ rfl HO.out ⟨wr.heap.size, 0, none⟩ 1 1 [.int .i64 (k : Int)] rfl rfl (World.news_of_block (Blk.new wr 3 #[.int .i64 (k : Int)])) (by simp [Value.oneCell']) h63 hby (by have := HS.out; simp; omega) ?_); intro v' w1 hown' hgrow _ hat)
        go_roundw
        case rel =>
          refine ⟨k + 1, by omega, by go_num, ?_⟩
          rw [hT.out]
          refine ⟨by simpa [bitV] using hown', ?_⟩
          exact belGrown (ba hI.out.2 _) hgrow (Nat.le_refl _) (fun r hr => own_base hI.out.1 r hr)
        case measure => simp [intOf]; omega
    · obtain rfl : k = 64 := by omega
      have hS : bitsTo b 64 = setBits b := rfl
      rw [hS] at hI
      go_wp2
      go_ret
      exact ⟨_, rfl, hI.out.1, hI.out.2⟩

theorem setBits_sorted (b : Nat) : (setBits b).Pairwise fun x y => x.val < y.val := by
  unfold setBits
  refine List.Pairwise.filter _ ?_
  exact List.pairwise_lt_finRange 64
theorem mayBits_last {b : Nat} {n : Int} {xs : List (Fin 64)} {x : Fin 64} (h : setBits b = xs ++ [x]) : mayBits b n = decide ((x.val : Int) < n) := by
  by_cases hx : (x.val : Int) < n
  · rw [decide_eq_true hx]
    refine mayBits_true fun y hy => ?_
    rw [h] at hy
    rcases List.mem_append.1 hy with hy | hy
    · have hs := setBits_sorted b
      rw [h] at hs
      have := (List.pairwise_append.1 hs).2.2 y hy x (by simp)
      omega
    · simp at hy; subst hy; exact hx
  · rw [decide_eq_false hx]
    exact mayBits_false (pre := setBits b) (List.prefix_refl _) ⟨x, by rw [h]; simp, hx⟩

set_option maxRecDepth 100000 in
set_option maxHeartbeats 1000000 in
theorem RMay_r (b : Nat) (n : Int) (hb : b < 18446744073709551616) (w : World) :
    Calls Try.prog 80 #[.int .u64 (b : Int), .int .i64 n] w fun e w' => e = .returned (.bool (mayBits b n)) ∧ Below w.heap.size w w' := by
  have HR := hid (RBits_r b hb w)
  clear hb
  go_enter Try.func80, Try.ntmps80
  go_wp2_with fail
  refine HR.out.mono ?_
  rintro e w2 ⟨v, rfl, hv, hbel⟩
  have HBEL := hid hbel
  by_cases h0 : setBits b = []
  · have hm : Hid (mayBits b n = true) := mayBits_true (by rw [h0]; simp)
    rw [h0] at hv
    rcases hv.2 with ⟨rfl, _⟩ | ⟨g, cap, cur, rfl, _⟩
    · clear hv hbel h0
      go_wp2
      go_ret
      exact ⟨by rw [hm.out]; rfl, HBEL.out⟩
    · clear hv hbel h0
      go_wp2
      go_ret
      exact ⟨by rw [hm.out]; rfl, HBEL.out⟩
  · obtain ⟨xs, x, hx⟩ : ∃ xs x, setBits b = xs ++ [x] := ⟨_, _, (List.dropLast_concat_getLast h0).symm⟩
    have hm := hid (mayBits_last (n := n) hx)
    obtain ⟨L, hL⟩ : ∃ L, L = xs.length := ⟨_, rfl⟩
    have hlen : (setBits b).length = L + 1 := by rw [hx, hL]; simp
    rcases hv.2 with ⟨_, hz⟩ | ⟨g, cap, cur, rfl, hg, hh, hc, hmx, hsz, htk⟩
    · rw [hlen] at hz; omega
    · rw [hlen] at hc ⊢
      rw [hlen, Nat.mul_one] at htk
      have hlt := setBits_sorted b
      have y0 : w2.cell? ⟨g, L, none⟩ = some (.int .i64 (x.val : Int)) := by
        have h1 : (cur.toList.take (L + 1))[L]? = some (bitV x) := by rw [htk, hx]; simp [hL]
        rw [List.getElem?_take, if_pos (by omega)] at h1
        rw [cell_of_row w2 g L cur _ _ hh]
        simpa [bitV] using h1
      have l64 : (L : Int) < 64 := by
        have h2 := bitsTo_length b 64
        have h3 : bitsTo b 64 = setBits b := rfl
        rw [h3, hlen] at h2
        omega
      have l0 : (0 : Int) ≤ (L : Int) := by omega
      have e1 : (((L + 1 : Nat)) : Int) - 1 = (L : Int) := by omega
      have e2 : (L : Int) + 1 - 1 = (L : Int) := by omega
      have t0 : (((L : Int) + 1) == 0) = false := by simp; omega
      have l1 : (L : Int) < (L : Int) + 1 := by omega
      clear hv hbel h0 hx hL hlen hg hh hmx hsz htk hlt
      go_wp2
      go_ret
      exact ⟨by rw [hm.out]; rfl, HBEL.out⟩

end Go.Proofs.Ytbkaemajjaiklaa
