/- The map's iterator (All, All$1) as a contract for a loop over it; bounds, May. -/
import Derived.RangeFuncNested
import Derived.RangeFuncBound
import Derived.RangeFuncCalls
import Derived.RangeFuncLeaves
import Derived.RangeFuncBox
import Derived.Shelf.Abstract
import Derived.Shelf.RegionOpen
import Derived.OwnWalkIn
import Derived.TacticsInMore
import Derived.LoopNIn
import Derived.LoopIn
import Derived.Test.YtdhnacajgmjmlaaMapB
namespace Go.Proofs.Ytdhnacajgmjmlaa
open Go.RowKit Go.Shelf
set_option linter.unusedVariables false

attribute [local go_sem] Oper.semAt_some

theorem grown_of_below {w w' : World} (h : Below w.heap.size w w') : w.grownBy w' none :=
  ⟨h.os, h.tape, h.output, h.size, fun k hk _ => h.block k hk⟩

def boundsErr (lo hi lim : Int) : Int := if lo > hi ∨ lim < 1 ∨ lim > 256 then 2 else 0

set_option maxRecDepth 100000 in
set_option maxHeartbeats 1000000 in
theorem bounds_z (lo hi lim : Int) (w : World) : Calls Try.prog 67 #[.int .u64 lo, .int .u64 hi, .int .i64 lim] w fun e w' => e = .returned (.int .i64 (boundsErr lo hi lim)) ∧ w = w' := by
  by_cases h1 : lo > hi
  · have he : boundsErr lo hi lim = 2 := if_pos (Or.inl h1)
    rw [he]
    go_enter Try.func67, Try.ntmps67
    go_wp2
    go_ret
    exact ⟨rfl, rfl⟩
  · by_cases h2 : lim < 1
    · have he : boundsErr lo hi lim = 2 := if_pos (Or.inr (Or.inl h2))
      rw [he]
      go_enter Try.func67, Try.ntmps67
      go_wp2
      go_ret
      exact ⟨rfl, rfl⟩
    · by_cases h3 : lim > 256
      · have he : boundsErr lo hi lim = 2 := if_pos (Or.inr (Or.inr h3))
        rw [he]
        go_enter Try.func67, Try.ntmps67
        go_wp2
        go_ret
        exact ⟨rfl, rfl⟩
      · have he : boundsErr lo hi lim = 0 := if_neg (by omega)
        rw [he]
        go_enter Try.func67, Try.ntmps67
        go_wp2
        go_ret
        exact ⟨rfl, rfl⟩

/-! ### what a loop's body may turn: some blocks, and the row that one of them holds -/
def ft (F : List Nat) (O : Nat) (A : World) : List Nat := F ++ ((A.cell? ⟨O, 0, none⟩).bind Value.ownBlock).toList
theorem mem_ft {F : List Nat} {O : Nat} {A : World} {x : Nat} : x ∈ ft F O A ↔ x ∈ F ∨ (A.cell? ⟨O, 0, none⟩).bind Value.ownBlock = some x := by simp [ft, Option.mem_toList]
structure KeepF (F : List Nat) (O : Nat) (A B : World) : Prop where
  size : A.heap.size ≤ B.heap.size
  block : ∀ k o, A.heap[k]? = some o → o.isCells = true → k ∉ ft F O A → B.heap[k]? = some o
  foot : ∀ x, x ∈ ft F O B → x ∈ ft F O A ∨ A.heap.size ≤ x
section
variable {F : List Nat} {O : Nat} {A B C : World}
theorem KeepF.refl (F : List Nat) (O : Nat) (A : World) : KeepF F O A A := ⟨Nat.le_refl _, fun _ _ h _ _ => h, fun _ h => Or.inl h⟩
theorem KeepF.trans (h : KeepF F O A B) (k : KeepF F O B C) : KeepF F O A C := by
  refine ⟨Nat.le_trans h.size k.size, fun x o hx ho hn => ?_, fun x hx => ?_⟩
  · have h1 := h.block x o hx ho hn
    have hlt : x < A.heap.size := (Array.getElem?_eq_some_iff.1 hx).1
    exact k.block x o h1 ho fun hm => by rcases h.foot x hm with h2 | h2; exact hn h2; omega
  · rcases k.foot x hx with h1 | h1
    · exact h.foot x h1
    · exact Or.inr (Nat.le_trans h.size h1)
theorem KeepF.of_cell (hs : A.heap.size ≤ B.heap.size) (hc : B.cell? ⟨O, 0, none⟩ = A.cell? ⟨O, 0, none⟩) (hb : ∀ k o, A.heap[k]? = some o → o.isCells = true → k ∉ ft F O A → B.heap[k]? = some o) : KeepF F O A B :=
  ⟨hs, hb, fun x hx => Or.inl (by rw [mem_ft] at hx ⊢; rw [← hc]; exact hx)⟩
theorem KeepF.below (h : Below A.heap.size A B) (hO : O < A.heap.size) : KeepF F O A B :=
  .of_cell h.size (World.cell?_of_block (w := A) (h.block O hO)) fun k o hk _ _ => (h.block k (Array.getElem?_eq_some_iff.1 hk).1).trans hk
theorem KeepF.putObj {l : Nat} {o o' : Obj} (hl : A.heap[l]? = some o) (ho : o.isCells = false) (hO : O ≠ l) : KeepF F O A (A.putObj l o') := by
  have hg := grownBy_putObj' A l o'
  have hne : ∀ (k : Nat) (o : Obj), A.heap[k]? = some o → o.isCells = true → (A.putObj l o').heap[k]? = some o := fun k ob hk hc => by
    have hlt : k < A.heap.size := (Array.getElem?_eq_some_iff.1 hk).1
    refine (hg.block k hlt (fun e => ?_)).trans hk
    have e' : k = l := by simpa using e
    subst e'
    rw [hl] at hk; cases hk; rw [ho] at hc; cases hc
  refine .of_cell hg.size ?_ fun k o hk hc _ => hne k o hk hc
  by_cases hlt : O < A.heap.size
  · exact World.cell?_of_block (w := A) (hg.block O hlt (by simpa using hO))
  · exact World.cell?_of_block (w := A) (a := ⟨O, 0, none⟩) (World.putObj_heap_other hO)
/-- only F's blocks have turned, and the row is O's as it was, or a new one -/
theorem KeepF.of_only (h : Only (ft F O A) A B) (hf : ∀ x, (B.cell? ⟨O, 0, none⟩).bind Value.ownBlock = some x → x ∈ ft F O A ∨ A.heap.size ≤ x) : KeepF F O A B :=
  ⟨h.size, fun k o hk _ hn => (h.block k (Array.getElem?_eq_some_iff.1 hk).1 hn).trans hk, fun x hx => by
    rw [mem_ft] at hx
    rcases hx with hx | hx
    · exact Or.inl (mem_ft.2 (Or.inl hx))
    · exact hf x hx⟩
/-- F and O alone say what may turn, when O holds no row -/
theorem KeepF.of_flat (h : Only F A B) (hf : (B.cell? ⟨O, 0, none⟩).bind Value.ownBlock = none) : KeepF F O A B :=
  .of_only (h.mono fun x hx => mem_ft.2 (Or.inl hx)) fun x hx => by rw [hf] at hx; cases hx
theorem KeepF.own {base : Nat} {e : TypeId} {size n : Nat} {v : Value} {xs : List Value} (h : KeepF F O A B) (hr : A.ownsRow base e size v n xs) (hn : ∀ k, v.ownBlock = some k → k ∉ ft F O A) : B.ownsRow base e size v n xs := by
  refine ⟨hr.1, ?_⟩
  rcases hr.2 with h1 | ⟨g, cap, cur, hv, hg, hh, r⟩
  · exact Or.inl h1
  · refine Or.inr ⟨g, cap, cur, hv, hg, ?_, r⟩
    exact h.block g _ hh rfl (hn g (by rw [hv]; rfl))
end

set_option maxRecDepth 100000 in
set_option maxHeartbeats 2000000 in
theorem All1_in (n : Nat) (ps : PairL) (p : Value) (F : List Nat) (O : Nat) (l Bn : Nat) (J Jx : PairL → World → Prop) (W : World) (hO : O < W.heap.size) (hF : ∀ x, x ∈ ft F O W → x < W.heap.size)
    (hJ : AbidesFrom W.heap.size J)
    (hY : ∀ pre x W1, J pre W1 → pre.length < ps.length → YieldAt Fence.wide (n - 1) Try.prog l #[.int .u64 x.1, .string x.2] W1 fun e W' =>
      (e = .returned (.bool true) ∧ J (pre ++ [x]) W' ∧ KeepF F O W1 W') ∨ (e = .returned (.bool false) ∧ Jx (pre ++ [x]) W'))
    (hc : W.cell? ⟨Bn, 0, none⟩ = some p) (hm : MapAny W p ps) (h0 : J [] W) :
    CallsIn Fence.wide n Try.prog 68 #[.func (.yield l) #[] #[], .pointer (some ⟨Bn, 0, none⟩)] W fun e W' => (∃ v, e = .returned v) ∧
      ((∃ ys, ys = ps ∧ J ys W') ∨ (∃ pre, pre <+: ps ∧ Jx pre W')) := by
  have hfew := hm.few
  refine callsIn_of_wp Try.func68 rfl trivial ?_ rfl
  simp only [Try.ntmps68, List.size_toArray, List.length_cons, List.length_nil, Nat.reduceAdd, Nat.reduceSub, Array.replicate_succ, Array.replicate_zero, List.push_toArray, List.append_toArray, List.nil_append, List.cons_append]
  gi_wp2_with fail
  refine ⟨trivial, (fun h => by simp [Fence.wide] at h), (callsIn_wide.2 (Pairs_any p ps W hm)).mono ?_⟩
  rintro e v1 ⟨v', rfl, hr, hb1⟩
  have hJ1 := hJ _ _ _ none h0 (grown_of_below hb1) (fun r h => by cases h)
  have hft1 : ∀ x, x ∈ ft F O v1 → x < W.heap.size := fun x hx => hF x ((KeepF.below (F := F) hb1 hO).foot x hx |>.elim id fun h => by
    rw [mem_ft] at hx ⊢
    have hc1 : v1.cell? ⟨O, 0, none⟩ = W.cell? ⟨O, 0, none⟩ := World.cell?_of_block (w := W) (hb1.block O hO)
    rw [hc1] at hx; exact hx)
  have hnf : ∀ k, v'.ownBlock = some k → k ∉ ft F O v1 := fun k hk hm => by have := (row_lt hr k hk).1; have := hft1 k hm; omega
  have hO1 : O < v1.heap.size := Nat.lt_of_lt_of_le hO hb1.size
  have HR := hid (row_zero hr)
  have HNF := hid hnf
  obtain ⟨N, hN⟩ : ∃ N, N = ps.length := ⟨_, rfl⟩
  clear hm hc h0 hb1 hft1 hnf
  rcases hr.2 with ⟨rfl, hl0⟩ | ⟨g, cap, cur, rfl, hg, _⟩
  · have hps : ps = [] := List.eq_nil_of_length_eq_zero hl0
    subst hps
    clear hr
    gi_wp2_with fail
    gi_loopw [4, 8] (fun _ p wr => p = .int .i64 0 ∧ wr = v1) (fun _ _ _ => 0)
    case atStart => exact ⟨rfl, rfl⟩
    case round =>
      obtain ⟨rfl, rfl⟩ := hrel
      gi_wp2
      go_end0
      exact ⟨⟨_, rfl⟩, .inl ⟨_, rfl, hJ1⟩⟩
  · clear hr hg
    rw [← hN] at HR
    gi_wp2_with fail
    rw [← hN]
    have HN := hid hN
    clear hN
    gi_loopw [4, 8] (fun _ p wr => ∃ i : Nat, i ≤ N ∧ p = .int .i64 i ∧ J (ps.take i) wr ∧ KeepF F O v1 wr) (fun _ p _ => (N - intOf p).toNat)
    case atStart => exact ⟨0, by omega, rfl, hJ1, KeepF.refl _ _ _⟩
    case round =>
      obtain ⟨i, hi, rfl, hJi, hK⟩ := hrel
      by_cases hlt : i < N
      · have hil : i < ps.length := by have := HN.out; omega
        have hrow := hK.own HR.out HNF.out
        have x1 := (hrow.cellAt (i * 2) (by omega)).trans (pc_at ps i hil).1
        have x2 := (hrow.cellAt (i * 2 + 1) (by omega)).trans (pc_at ps i hil).2
        have i1 : (0 : Int) ≤ (i : Int) := by omega
        have i2 : (i : Int) < (N : Int) := by omega
        have hBel : Below wr.heap.size wr (wr.alloc (.cells #[.int .u64 (ps[i]'hil).1, .string (ps[i]'hil).2] 52)) := ba (Below.refl _ _) _
        have hJ2 := hJ _ _ _ none hJi (grown_of_below hBel) (fun r h => by cases h)
        have hK2 : KeepF F O v1 _ := hK.trans (KeepF.below hBel (Nat.lt_of_lt_of_le hO1 hK.size))
        obtain ⟨fn, tmps, assign, body, hy, hR⟩ := hY _ (ps[i]'hil) _ hJ2 (by simp; omega)
        have hT : ps.take i ++ [ps[i]'hil] = ps.take (i + 1) := by simp
        clear hrow hBel hJ2 hJi hK
        gi_wp2
        refine ⟨fun h => by simp [Fence.wide] at h, hR.mono ?_⟩
        rintro e W3 (⟨rfl, hJ3, hk3⟩ | ⟨rfl, hJx3⟩)
        · rw [hT] at hJ3
          gi_wp2
          go_roundw
          case rel => exact ⟨i + 1, by omega, by go_num, hJ3, hK2.trans hk3⟩
          case measure => simp [intOf]; omega
        · rw [hT] at hJx3
          gi_wp2
          refine bodyPost_ret (results_none rfl _ _ _) rfl ?_
          exact ⟨⟨_, rfl⟩, .inr ⟨_, List.take_prefix _ _, hJx3⟩⟩
      · have hJ5 : J ps wr := by rw [List.take_of_length_le (by have := HN.out; omega)] at hJi; exact hJi
        gi_wp2
        go_end0
        exact ⟨⟨_, rfl⟩, .inl ⟨_, rfl, hJ5⟩⟩

theorem All_stops (n : Nat) (ps : PairL) (p : Value) (F : List Nat) (O : Nat) (Bn : Nat) (w : World) (hO : O < w.heap.size) (hF : ∀ x, x ∈ ft F O w → x < w.heap.size)
    (hc : w.cell? ⟨Bn, 0, none⟩ = some p) (hm : MapAny w p ps) :
    SeqStopsK Fence.wide n Try.prog 68 #[.pointer (some ⟨Bn, 0, none⟩)] (fun x : Int × ByteArray => #[Value.int .u64 x.1, .string x.2]) (KeepF F O) (fun ys => ys = ps) (fun pre => pre <+: ps) ps.length w := by
  intro l J Jx W hW hJ _ hY h0
  have hBn : Bn < w.heap.size := World.block_lt_of_cell? w _ hc
  have hcW := (hW.cell (p := ⟨Bn, 0, none⟩) hBn).trans hc
  have hmW := hm.bel hW
  have hft : ∀ x, x ∈ ft F O W → x < W.heap.size := fun x hx => Nat.lt_of_lt_of_le (hF x (by
    rw [mem_ft] at hx ⊢
    rw [World.cell?_of_block (w := w) (a := ⟨O, 0, none⟩) (hW.block O hO)] at hx
    exact hx)) hW.size
  exact All1_in n ps p F O l Bn J Jx W (Nat.lt_of_lt_of_le hO hW.size) hft hJ hY hcW hmW h0

theorem All_make (n : Nat) (p : Value) (w : World) (hp : p = .pointer none ∨ ∃ a, p = .pointer (some a)) :
    CallsIn Fence.wide n Try.prog 41 #[p] w fun e w' => e = .returned (.func (.func 68) #[] #[.pointer (some ⟨w.heap.size, 0, none⟩)]) ∧ w' = w.alloc (.cells #[p] 59) := by
  refine callsIn_of_wp Try.func41 rfl trivial ?_ rfl
  simp only [Try.ntmps41, List.size_toArray, List.length_cons, List.length_nil, Nat.reduceAdd, Nat.reduceSub, Array.replicate_succ, Array.replicate_zero, List.push_toArray, List.append_toArray, List.nil_append, List.cons_append]
  rcases hp with rfl | ⟨a, rfl⟩ <;>
  · gi_wp2
    go_ret
    exact ⟨rfl, rfl⟩

end Go.Proofs.Ytdhnacajgmjmlaa
