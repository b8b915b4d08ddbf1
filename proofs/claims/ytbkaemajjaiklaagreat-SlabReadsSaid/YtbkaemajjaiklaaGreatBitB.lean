/- The set bits of a word: a contract for a loop over them. -/
import Derived.Test.YtbkaemajjaiklaaGreatBitA
import Derived.Test.YtbkaemajjaiklaaGreatChunk
namespace Go.Proofs.YtbkaemajjaiklaaGreat
open Go.RowKit Go.Shelf
set_option linter.unusedVariables false
set_option linter.unusedSimpArgs false

attribute [local go_sem] Oper.semAt_some

def setBits (b : Nat) : List (Fin 64) := (List.finRange 64).filter fun j => hasB b j.val
def bitsTo (b i : Nat) : List (Fin 64) := ((List.finRange 64).take i).filter fun j => hasB b j.val
theorem bitsTo_succ {b i : Nat} (hi : i < 64) : bitsTo b (i + 1) = if hasB b i then bitsTo b i ++ [⟨i, hi⟩] else bitsTo b i := by
  unfold bitsTo
  rw [List.take_succ_eq_append_getElem (by simpa using hi), List.filter_append]
  simp only [List.getElem_finRange, List.filter_cons, List.filter_nil]
  by_cases h : hasB b i = true
  · simp [h]
  · simp [h]
theorem bitsTo_length (b i : Nat) : (bitsTo b i).length ≤ i := by
  unfold bitsTo
  exact Nat.le_trans (List.length_filter_le _ _) (by simp; omega)
theorem bitsTo_prefix (b i : Nat) : bitsTo b i <+: setBits b := by
  unfold bitsTo setBits
  exact List.IsPrefix.filter _ (List.take_prefix _ _)

set_option maxRecDepth 100000 in
set_option maxHeartbeats 2000000 in
theorem Bits1_in (n b : Nat) (hb : b < 18446744073709551616) (F : List Nat) (N0 l Bs : Nat) (J Jx : List (Fin 64) → World → Prop) (W : World)
    (hJ : AbidesFrom W.heap.size J) (hBs : Bs < N0) (hBs' : Bs ∉ F) (hN : N0 ≤ W.heap.size)
    (hY : ∀ pre (x : Fin 64) W1, J pre W1 → pre.length < 64 → YieldAt Fence.wide (n - 1) Tryz.prog l #[.int .i64 (x.val : Int)] W1 fun e W' =>
      (e = .returned (.bool true) ∧ J (pre ++ [x]) W' ∧ KeepN F N0 W1 W') ∨ (e = .returned (.bool false) ∧ Jx (pre ++ [x]) W'))
    (hs : W.cell? ⟨Bs, 0, none⟩ = some (.int .u64 (b : Int))) (h0 : J [] W) :
    CallsIn Fence.wide n Tryz.prog 95 #[.func (.yield l) #[] #[], .pointer (some ⟨Bs, 0, none⟩)] W fun e W' => (∃ v, e = .returned v) ∧
      ((∃ ys, ys = setBits b ∧ J ys W') ∨ (∃ pre, pre <+: setBits b ∧ Jx pre W')) := by
  refine callsIn_of_wp Tryz.func95 rfl trivial ?_ rfl
  simp only [Tryz.ntmps95, List.size_toArray, List.length_cons, List.length_nil, Nat.reduceAdd, Nat.reduceSub, Array.replicate_succ, Array.replicate_zero, List.push_toArray, List.append_toArray, List.nil_append, List.cons_append]
  have HS := hid hs
  clear hs
  gi_wp2_with fail
  gi_loopw [4] (fun i wr => ∃ k : Nat, k ≤ 64 ∧ i = .int .i64 k ∧ J (bitsTo b k) wr ∧ KeepN F N0 W wr) (fun i _ => (64 - (intOf i).toNat))
  case atStart => exact ⟨0, by omega, rfl, h0, KeepN.refl _ _ _⟩
  case round =>
    obtain ⟨i, hi, rfl, hJi, hK⟩ := hrel
    have x1 := (hK.cell (p := ⟨Bs, 0, none⟩) hBs hBs').trans HS.out
    by_cases hlt : i < 64
    · have i1 : (0 : Int) ≤ (i : Int) := by omega
      have i2 : (i : Int) < 64 := by omega
      gi_wp2_with fail
      refine ⟨trivial, (fun h => by simp [Fence.wide] at h), (callsIn_wide.2 (Has_z b i hb hlt _)).mono ?_⟩
      rintro e w1 ⟨rfl, rfl⟩
      cases hh : hasB b i
      · have hT := hid (show bitsTo b (i + 1) = bitsTo b i by rw [bitsTo_succ hlt, hh]; rfl)
        gi_wp2
        refine ⟨(by intro f h; simp at h), ?_⟩
        gi_wp2
        go_roundw
        case rel => exact ⟨i + 1, by omega, by go_num, by rw [hT.out]; exact hJi, hK⟩
        case measure => simp [intOf]; omega
      · obtain ⟨fn, tmps, assign, body, hy, hR⟩ := hY _ (⟨i, hlt⟩ : Fin 64) _ hJi (by have := bitsTo_length b i; omega)
        have hT : bitsTo b i ++ [⟨i, hlt⟩] = bitsTo b (i + 1) := by rw [bitsTo_succ hlt, hh]; rfl
        have HR := hid hR
        have HT := hid hT
        clear hR hJi hT
        gi_wp2_with fail
        refine ⟨fun h => by simp [Fence.wide] at h, HR.out.mono ?_⟩
        rintro e W3 (⟨rfl, hJ3, hk3⟩ | ⟨rfl, hJx3⟩)
        · rw [HT.out] at hJ3
          have K3 := hid (hK.trans hk3)
          clear hK hk3 x1 hy
          gi_wp2
          go_roundw
          case rel => exact ⟨i + 1, by omega, by go_num, hJ3, K3.out⟩
          case measure => simp [intOf]; omega
        · rw [HT.out] at hJx3
          gi_wp2
          refine bodyPost_ret (results_none rfl _ _ _) rfl ?_
          exact ⟨⟨_, rfl⟩, .inr ⟨_, bitsTo_prefix b (i + 1), hJx3⟩⟩
    · obtain rfl : i = 64 := by omega
      have hJ5 : J (setBits b) wr := hJi
      have i2 : ¬ (64 : Int) < 64 := by omega
      gi_wp2
      go_end0
      first | exact ⟨⟨_, rfl⟩, .inl ⟨_, rfl, hJ5⟩⟩ | exact ⟨⟨_, rfl⟩, .inl hJ5⟩ | exact .inl hJ5

theorem Bits_stops (n b : Nat) (hb : b < 18446744073709551616) (F : List Nat) (N0 Bs : Nat) (w : World) (hBs : Bs < N0) (hBs' : Bs ∉ F) (hN : N0 ≤ w.heap.size)
    (hs : w.cell? ⟨Bs, 0, none⟩ = some (.int .u64 (b : Int))) :
    SeqStopsK Fence.wide n Tryz.prog 95 #[.pointer (some ⟨Bs, 0, none⟩)] (fun x : Fin 64 => #[.int .i64 (x.val : Int)]) (KeepN F N0) (fun ys => ys = setBits b) (fun pre => pre <+: setBits b) 64 w := by
  intro l J Jx W hW hJ _ hY h0
  have h1 := (hW.cell (p := ⟨Bs, 0, none⟩) (World.block_lt_of_cell? w _ hs)).trans hs
  exact Bits1_in n b hb F N0 l Bs J Jx W hJ hBs hBs' (Nat.le_trans hN hW.size) hY h1 h0

set_option maxRecDepth 100000 in
theorem Bits_make (n : Nat) (b : Int) (w : World) :
    CallsIn Fence.wide n Tryz.prog 52 #[.int .u64 b] w fun e w' => e = .returned (.func (.func 95) #[] #[.pointer (some ⟨w.heap.size, 0, none⟩)]) ∧ w' = w.alloc (.cells #[.int .u64 b] 23) := by
  refine callsIn_of_wp Tryz.func52 rfl trivial ?_ rfl
  simp only [Tryz.ntmps52, List.size_toArray, List.length_cons, List.length_nil, Nat.reduceAdd, Nat.reduceSub, Array.replicate_succ, Array.replicate_zero, List.push_toArray, List.append_toArray, List.nil_append, List.cons_append]
  gi_wp2
  go_ret
  exact ⟨rfl, rfl⟩

end Go.Proofs.YtbkaemajjaiklaaGreat
