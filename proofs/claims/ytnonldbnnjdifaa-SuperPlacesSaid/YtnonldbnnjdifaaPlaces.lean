/- Contracts of levee/super's places (an iterator) and Places (which collects it). -/
import Derived.RangeFuncNested
import Derived.RangeFuncBound
import Derived.RangeFuncCalls
import Derived.RangeFuncLeaves
import Derived.RangeFuncBox
import Derived.Shelf.Abstract
import Derived.Shelf.RegionOpen
import Derived.OwnWalkIn
import Derived.TacticsInMore
import Derived.LoopNIn
import Derived.LoopIn
import Derived.Maps.AppendAt
import Derived.Test.YtnonldbnnjdifaaSupC
namespace Go.Proofs.Ytnonldbnnjdifaa
open Go.RowKit Go.Shelf
set_option linter.unusedVariables false

attribute [local go_sem] Oper.semAt_some

/-- the i-th root that may be -/
def plc (i : Nat) : Int := 1024 * (1 + ((i / 5 : Nat) : Int)) + 64 + 192 * ((i % 5 : Nat) : Int)
def plcs (n : Nat) : List Int := (List.range n).map plc
theorem plcs_succ (n : Nat) : plcs (n + 1) = plcs n ++ [plc n] := by simp [plcs, List.range_succ]
theorem plcs_len (n : Nat) : (plcs n).length = n := by simp [plcs]

theorem plcs_pre (n m : Nat) (h : n ≤ m) : plcs n <+: plcs m := by
  obtain ⟨d, rfl⟩ := Nat.exists_eq_add_of_le h
  clear h
  induction d with
  | zero => exact List.prefix_refl _
  | succ d ih => rw [show n + (d + 1) = (n + d) + 1 by omega, plcs_succ]; exact List.IsPrefix.trans ih (List.prefix_append _ _)

theorem grown_of_below {w w' : World} (h : Below w.heap.size w w') : w.grownBy w' none :=
  ⟨h.os, h.tape, h.output, h.size, fun k hk _ => h.block k hk⟩

/-- the block Bn lies as it lay; no block has gone -/
def KeptB (Bn : Nat) (A B : World) : Prop := B.heap[Bn]? = A.heap[Bn]? ∧ A.heap.size ≤ B.heap.size
theorem KeptB.refl (Bn : Nat) (A : World) : KeptB Bn A A := ⟨rfl, Nat.le_refl _⟩
theorem KeptB.trans {Bn : Nat} {A B C : World} (h : KeptB Bn A B) (k : KeptB Bn B C) : KeptB Bn A C := ⟨k.1.trans h.1, Nat.le_trans h.2 k.2⟩
theorem KeptB.below {Bn : Nat} {A B C : World} (h : KeptB Bn A B) (hB : Bn < A.heap.size) (k : Below B.heap.size B C) : KeptB Bn A C :=
  h.trans ⟨k.block _ (Nat.lt_of_lt_of_le hB h.2), k.size⟩
theorem KeptB.cell {Bn : Nat} {A B : World} (h : KeptB Bn A B) : B.cell? ⟨Bn, 0, none⟩ = A.cell? ⟨Bn, 0, none⟩ := World.cell?_of_block (w := A) h.1

theorem keptB_b {Bn : Nat} {w : World} (h : Bn < w.heap.size) : ∀ (W : World) (l : Nat) (o o' : Obj), w.heap.size ≤ l → W.heap[l]? = some o → o.isCells = false → o.isWalk = false → KeptB Bn W (W.putObj l o') := by
  intro W l o o' hl ho _ _
  have hg := grownBy_putObj' W l o'
  have hlt : l < W.heap.size := (Array.getElem?_eq_some_iff.1 ho).1
  exact ⟨hg.block Bn (by omega) (by simp; omega), hg.size⟩

theorem plc_block (s j : Nat) (hs : 1 ≤ s ∧ s ≤ 64) (hj : j < 5) : blockZ s 3 j = plc (5 * (s - 1) + j) := by
  unfold blockZ plc
  rw [if_pos (by simp [blocksZ]; omega)]
  have e1 : (5 * (s - 1) + j) / 5 = s - 1 := by omega
  have e2 : (5 * (s - 1) + j) % 5 = j := by omega
  rw [e1, e2]; simp [bytesZ]; omega

set_option maxRecDepth 100000 in
set_option maxHeartbeats 2000000 in
theorem places1_in (n : Nat) (slabs : Nat) (hs : 1 ≤ slabs ∧ slabs ≤ 64) (l Bn : Nat) (J Jx : List Int → World → Prop) (W : World)
    (hJ : AbidesFrom W.heap.size J)
    (hY : ∀ pre x W1, J pre W1 → pre.length < 5 * slabs → YieldAt Fence.wide (n - 1) Try.prog l #[.int .u64 x] W1 fun e W' =>
      (e = .returned (.bool true) ∧ J (pre ++ [x]) W' ∧ KeptB Bn W1 W') ∨ (e = .returned (.bool false) ∧ Jx (pre ++ [x]) W'))
    (hBn : Bn < W.heap.size) (hc : W.cell? ⟨Bn, 0, none⟩ = some (.int .i64 slabs)) (h0 : J [] W) :
    CallsIn Fence.wide n Try.prog 57 #[.func (.yield l) #[] #[], .pointer (some ⟨Bn, 0, none⟩)] W fun e W' => (∃ v, e = .returned v) ∧
      ((∃ ys, ys = plcs (5 * slabs) ∧ J ys W') ∨ (∃ pre, pre <+: plcs (5 * slabs) ∧ Jx pre W')) := by
  refine callsIn_of_wp Try.func57 rfl trivial ?_ rfl
  simp only [Try.ntmps57, List.size_toArray, List.length_cons, List.length_nil, Nat.reduceAdd, Nat.reduceSub, Array.replicate_succ, Array.replicate_zero, List.push_toArray, List.append_toArray, List.nil_append, List.cons_append]
  have hz0 : 0 < sizeZ slabs := by unfold sizeZ; rw [if_pos (by omega)]; omega
  gi_wp2_with fail
  gi_loopw [3, 4, 16] (fun p _ _ wr => ∃ s : Nat, 1 ≤ s ∧ s ≤ slabs + 1 ∧ p = .int .i64 s ∧ J (plcs (5 * (s - 1))) wr ∧ KeptB Bn W wr) (fun p _ _ _ => (65 - intOf p).toNat)
  case atStart => exact ⟨1, by omega, by omega, rfl, h0, KeptB.refl _ _⟩
  case round =>
    obtain ⟨s, hs1, hs2, rfl, hJs, hB⟩ := hrel
    have hcs := hB.cell.trans hc
    by_cases hlt : s ≤ slabs
    · have e3 : blocksZ 3 = 5 := rfl
      gi_wp2_with fail
      refine ⟨trivial, (fun h => by simp [Fence.wide] at h), (callsIn_wide.2 (Size_z _ _)).mono ?_⟩
      rintro e w1 ⟨rfl, rfl⟩
      gi_wp2_with fail
      refine ⟨trivial, (fun h => by simp [Fence.wide] at h), (callsIn_wide.2 (Blocks_z _ _)).mono ?_⟩
      rintro e v1 ⟨rfl, hb1⟩
      have hB1 := hB.below hBn hb1
      have hJ1 := hJ _ _ _ none hJs (grown_of_below hb1) (fun r h => by cases h)
      gi_wp2_with fail
      gi_loopw [4, 16] (fun _ p wr => ∃ j : Nat, j ≤ 5 ∧ p = .int .i64 j ∧ J (plcs (5 * (s - 1) + j)) wr ∧ KeptB Bn W wr) (fun _ p _ => (5 - intOf p).toNat)
      case atStart => exact ⟨0, by omega, rfl, hJ1, hB1⟩
      case round =>
        clear hb1 hB hJs hJ1 hB1 hcs
        obtain ⟨j, hj, rfl, hJs, hB⟩ := hrel
        by_cases hlj : j < 5
        · have hpl := hid (plc_block s j (by omega) hlj)
          gi_wp2_with fail
          refine ⟨trivial, (fun h => by simp [Fence.wide] at h), (callsIn_wide.2 (Block_z _ _ _ _)).mono ?_⟩
          rintro e v1 ⟨rfl, hb1⟩
          have hB1 := hB.below hBn hb1
          have hJ1 := hJ _ _ _ none hJs (grown_of_below hb1) (fun r h => by cases h)
          rw [hpl.out]
          obtain ⟨fn, tmps, assign, body, hy, hR⟩ := hY _ (plc (5 * (s - 1) + j)) v1 hJ1 (by rw [plcs_len]; omega)
          clear hJ1 hb1
          gi_wp2
          refine ⟨fun h => by simp [Fence.wide] at h, hR.mono ?_⟩
          rintro e W3 (⟨rfl, hJ3, hk3⟩ | ⟨rfl, hJx3⟩)
          · rw [← plcs_succ] at hJ3
            gi_wp2
            go_roundw
            case rel => exact ⟨j + 1, by omega, by go_num, hJ3, hB1.trans hk3⟩
            case measure => simp [intOf]; omega
          · gi_wp2
            refine bodyPost_ret (results_none rfl _ _ _) rfl ?_
            refine ⟨⟨_, rfl⟩, .inr ⟨_, ?_, hJx3⟩⟩
            rw [← plcs_succ]; exact plcs_pre _ _ (by omega)
        · have hJ5 : J (plcs (5 * (s + 1 - 1))) wr := by rw [show 5 * (s + 1 - 1) = 5 * (s - 1) + j by omega]; exact hJs
          gi_wp2
          go_roundw
          case rel => exact ⟨s + 1, by omega, by omega, by go_num, hJ5, hB⟩
          case measure => simp [intOf]; omega
    · have hJ5 : J (plcs (5 * slabs)) wr := by rw [show 5 * slabs = 5 * (s - 1) by omega]; exact hJs
      gi_wp2_with fail
      refine ⟨trivial, (fun h => by simp [Fence.wide] at h), (callsIn_wide.2 (Size_z _ _)).mono ?_⟩
      rintro e w1 ⟨rfl, rfl⟩
      gi_wp2
      go_end0
      exact ⟨⟨_, rfl⟩, .inl ⟨_, rfl, hJ5⟩⟩

set_option maxRecDepth 100000 in
set_option maxHeartbeats 2000000 in
theorem places0_in (n : Nat) (slabs : Int) (hs : ¬ (1 ≤ slabs ∧ slabs ≤ 64)) (l Bn : Nat) (J Jx : List Int → World → Prop) (W : World)
    (hc : W.cell? ⟨Bn, 0, none⟩ = some (.int .i64 slabs)) (h0 : J [] W) :
    CallsIn Fence.wide n Try.prog 57 #[.func (.yield l) #[] #[], .pointer (some ⟨Bn, 0, none⟩)] W fun e W' => (∃ v, e = .returned v) ∧
      ((∃ ys, ys = [] ∧ J ys W') ∨ (∃ pre, pre <+: [] ∧ Jx pre W')) := by
  have hz0 : sizeZ slabs = 0 := if_neg hs
  refine callsIn_of_wp Try.func57 rfl trivial ?_ rfl
  simp only [Try.ntmps57, List.size_toArray, List.length_cons, List.length_nil, Nat.reduceAdd, Nat.reduceSub, Array.replicate_succ, Array.replicate_zero, List.push_toArray, List.append_toArray, List.nil_append, List.cons_append]
  gi_wp2_with fail
  gi_loopw [3, 4, 16] (fun p _ _ wr => p = .int .i64 1 ∧ wr = W) (fun p _ _ _ => 0)
  case atStart => exact ⟨rfl, rfl⟩
  case round =>
    obtain ⟨rfl, rfl⟩ := hrel
    gi_wp2_with fail
    refine ⟨trivial, (fun h => by simp [Fence.wide] at h), (callsIn_wide.2 (Size_z _ _)).mono ?_⟩
    rintro e w1 ⟨rfl, rfl⟩
    gi_wp2
    go_end0
    exact ⟨⟨_, rfl⟩, .inl ⟨_, rfl, h0⟩⟩

def cntZ (slabs : Int) : Nat := if 1 ≤ slabs ∧ slabs ≤ 64 then 5 * slabs.toNat else 0

theorem places_stops (n : Nat) (slabs : Int) (Bn : Nat) (w : World) (hBn : Bn < w.heap.size) (hc : w.cell? ⟨Bn, 0, none⟩ = some (.int .i64 slabs)) :
    SeqStopsK Fence.wide n Try.prog 57 #[.pointer (some ⟨Bn, 0, none⟩)] (fun x : Int => #[Value.int .u64 x]) (KeptB Bn) (fun ys => ys = plcs (cntZ slabs)) (fun pre => pre <+: plcs (cntZ slabs)) (cntZ slabs) w := by
  intro l J Jx W hW hJ _ hY h0
  have hcW := (hW.cell (p := ⟨Bn, 0, none⟩) hBn).trans hc
  by_cases hs : 1 ≤ slabs ∧ slabs ≤ 64
  · have hcnt : cntZ slabs = 5 * slabs.toNat := if_pos hs
    rw [hcnt] at hY ⊢
    obtain ⟨k, rfl⟩ := Int.eq_ofNat_of_zero_le (show 0 ≤ slabs by omega)
    rw [Int.toNat_natCast] at hY ⊢
    exact places1_in n k (by omega) l Bn J Jx W hJ hY (Nat.lt_of_lt_of_le hBn hW.size) hcW h0
  · have hcnt : cntZ slabs = 0 := if_neg hs
    rw [hcnt]
    exact places0_in n slabs hs l Bn J Jx W hcW h0

set_option maxHeartbeats 400000 in
theorem Clip_nil (w : World) : Calls Try.prog 56 #[.slice none 0 0] w fun e w' => e = .returned (.slice none 0 0) ∧ w = w' := by
  go_enter Try.func56, Try.ntmps56
  go_wp2
  go_ret
  exact ⟨rfl, rfl⟩

set_option maxHeartbeats 400000 in
theorem Clip_some (g n cap : Nat) (h1 : n ≤ cap) (h2 : cap ≤ 9223372036854775807) (w : World) : Calls Try.prog 56 #[.slice (some ⟨g, 0, none⟩) n cap] w fun e w' => e = .returned (.slice (some ⟨g, 0, none⟩) n n) ∧ w = w' := by
  go_enter Try.func56, Try.ntmps56
  go_wp2
  go_ret
  exact ⟨rfl, rfl⟩

theorem places_make (n : Nat) (slabs : Int) (w : World) :
    CallsIn Fence.wide n Try.prog 55 #[.int .i64 slabs] w fun e w' => e = .returned (.func (.func 57) #[] #[.pointer (some ⟨w.heap.size, 0, none⟩)]) ∧ w' = w.alloc (.cells #[.int .i64 slabs] 3) := by
  refine callsIn_of_wp Try.func55 rfl trivial ?_ rfl
  simp only [Try.ntmps55, List.size_toArray, List.length_cons, List.length_nil, Nat.reduceAdd, Nat.reduceSub, Array.replicate_succ, Array.replicate_zero, List.push_toArray, List.append_toArray, List.nil_append, List.cons_append]
  gi_wp2
  go_ret
  exact ⟨rfl, rfl⟩

theorem infoAddr : (Try.prog.info? 28).map (fun i => (i.zero, i.size, i.bytes)) = some (some (.int .u64 0), 1, 8) := by kernel_rfl

/-- a slice value that reads as these numbers -/
def holdsU (w : World) (v : Value) (xs : List Int) : Prop :=
  (xs = [] ∧ v = .slice none 0 0) ∨ xs ≠ [] ∧ ∃ g cap : Nat, v = .slice (some ⟨g, 0, none⟩) xs.length cap ∧ xs.length ≤ cap ∧ cap ≤ 9223372036854775807 ∧ ∀ i x, xs[i]? = some x → w.cell? ⟨g, i, none⟩ = some (.int .u64 x)

set_option maxRecDepth 100000 in
set_option maxHeartbeats 2000000 in
theorem Places_in (slabs : Int) (w : World) :
    CallsIn Fence.wide 5 Try.prog 44 #[.int .i64 slabs] w fun e W' => ∃ v, e = .returned v ∧ holdsU W' v (plcs (cntZ slabs)) ∧ Below w.heap.size w W' := by
  obtain ⟨i0, hi, hz0, hz1, hz2⟩ := info_parts infoAddr
  have hcnt : cntZ slabs ≤ 320 := by unfold cntZ; split <;> omega
  refine callsIn_of_wp_marks Try.func44 rfl trivial ?_ rfl
  simp only [Try.ntmps44, List.size_toArray, List.length_cons, List.length_nil, Nat.reduceAdd, Nat.reduceSub, Array.replicate_succ, Array.replicate_zero, List.push_toArray, List.append_toArray, List.nil_append, List.cons_append]
  gi_wp2_with fail
  refine ⟨trivial, (places_make _ _ _).mono ?_⟩
  rintro e w1 ⟨rfl, rfl⟩
  gi_wp2_with fail
  have bO := Boxed.new w 46 (.slice none 0 0)
  have bN := Boxed.new (w.alloc (.cells #[.slice none 0 0] 46)) 3 (.int .i64 slabs)
  rw [World.size_alloc] at bN
  have hB0 : Below w.heap.size w ((w.alloc (.cells #[.slice none 0 0] 46)).alloc (.cells #[.int .i64 slabs] 3)) := ((Below.refl _ w).alloc (Nat.le_refl _) _).alloc (by simp) _
  refine wpIn_rangeFunc_ownG rfl (by omega) (gf := 57) (lb := #[.pointer (some ⟨w.heap.size + 1, 0, none⟩)]) rfl trivial (enters_of Try.func57 (by kernel_rfl) rfl)
    (places_stops 4 slabs (w.heap.size + 1) _ (by simp) bN.cell) KeptB.trans (keptB_b (by simp)) (Below.refl _ _) (fun _ => rfl)
    (fun pre W => (∃ v, Boxed W w.heap.size 46 v ∧ W.ownsRow w.heap.size 28 1 v pre.length (pre.map (Value.int .u64)) ∧ (v = .slice none 0 0 ↔ pre = [])) ∧ Below w.heap.size w W ∧ Boxed W (w.heap.size + 1) 3 (.int .i64 slabs))
    (fun _ _ _ => False)
    (OwnFrom.and (Own.from (holdsRow_own w.heap.size w.heap.size 46 28 1 (fun pre => pre.length) (fun pre => pre.map (Value.int .u64)) (fun pre v => v = .slice none 0 0 ↔ pre = [])) _) (OwnFrom.and (ownFrom_below (Nat.le_refl _) (by simp; omega)) (Own.from (boxed_own (w.heap.size + 1) 3 (fun _ => .int .i64 slabs)) _)))
    (fun _ _ _ _ _ hs _ _ => hs)
    ⟨⟨_, bO.alloc _, World.ownsRow_nil _ _ _ _, by simp⟩, hB0, bN⟩
    (fun x => { tmps := #[.int .i64 slabs, undef, .slice none 0 0, .pointer (some ⟨w.heap.size, 0, none⟩), .int .u64 x, .int .i64 slabs, .func (.func 57) #[] #[.pointer (some ⟨w.heap.size + 1, 0, none⟩)], .int .u64 x, undef, undef, undef, undef, undef, undef], defers := [] }) ?assign ?body ?done ?stop
  case assign =>
    intro l x W K hK
    gi_wp2
    exact hK
  case body =>
    rintro l pre x W ⟨⟨v, hv, hrow, hnil⟩, hB, hN⟩ hlt
    have hc := hv.cell
    have hml : pre.length + 1 ≤ maxLen := by unfold maxLen; omega
    gi_wp2_with (gi_at_builtin; refine wpListIn_append_own _ rfl _ _ 46 rfl w.heap.size 28 i0 (.int .u64 0) 1 8 Try.underlying46 hi hz0 hz1 hz2 rfl (by decide) _ _ _ rfl (hrow.alloc _) ⟨W.heap.size, 0, none⟩ 1 1 [.int .u64 x] rfl rfl (cell_one_new _ _ _) (by simp [Value.oneCell']) (by omega) (by omega) (by have := hB.size; simp; omega) ?_; intro v' w1 hown' hgrow _; obtain ⟨g', cap', rfl⟩ := ownsRow_succ hown'; obtain ⟨hv1, hv2, hr2, hk2, hb2⟩ := hv.appended (by decide) hrow hB.size (Nat.le_refl _) hown' hgrow; have hc1 := hv1.cell; have hf1 := hv1.frozen)
    have hN1 : Boxed w1 (w.heap.size + 1) 3 (.int .i64 slabs) := (hN.alloc _).kept hgrow (hN.not_row (by decide) hrow)
    have hN2 : Boxed (w1.setCell ⟨w.heap.size, 0, none⟩ (.slice (some ⟨g', 0, none⟩) (pre.length + 1) cap')) (w.heap.size + 1) 3 (.int .i64 slabs) := hN1.kept (grownBy_setCell' _ _ _) (by simp)
    exact ⟨hk2.from _, ⟨hN2.trans (show W.heap[w.heap.size + 1]? = _ from hN).symm, hb2.size⟩, ⟨_, hv2, by simpa using hr2, by simp⟩, hB.trans hb2, hN2⟩
  case done =>
    rintro D ys W hD hys0 ⟨⟨v, hv, hrow, hnil⟩, hB, hN⟩ hK
    have hys := hid hys0; clear hys0
    have hc := hv.cell
    have hnn : ∀ g cap, v = .slice (some ⟨g, 0, none⟩) ys.length cap → ys ≠ [] := fun g cap h h' => by rw [hnil.2 h'] at h; cases h
    have HNN := hid hnn
    clear hnil hv hN hnn
    have hrow' := ownsRow_putObj hrow (.deferred none) hK rfl
    have hB' := hB.trans (belowK_b (w := w) (Nat.le_refl _) W D _ (.deferred none) (by simp at hD; omega) hK rfl rfl)
    rcases hrow.2 with ⟨rfl, h0⟩ | ⟨g, cap, cur, rfl, hg, hh, hcap, hmx, _⟩
    · gi_wp2_with fail
      refine ⟨trivial, (callsIn_wide.2 (Clip_nil _)).mono ?_⟩
      rintro e w1 ⟨rfl, rfl⟩
      gi_wp2
      refine ⟨by simp, .inl ⟨_, _, rfl, run_takeDeferred hK, ?_⟩⟩
      refine ⟨_, results_tmp rfl _ _ _, _, rfl, ?_, hB'⟩
      rw [← hys.out]
      exact .inl ⟨List.eq_nil_of_length_eq_zero h0, rfl⟩
    · unfold maxLen at hmx
      clear hrow hh
      gi_wp2_with fail
      refine ⟨trivial, (callsIn_wide.2 (Clip_some _ _ _ hcap hmx _)).mono ?_⟩
      rintro e w1 ⟨rfl, rfl⟩
      gi_wp2
      refine ⟨by simp, .inl ⟨_, _, rfl, run_takeDeferred hK, ?_⟩⟩
      refine ⟨_, results_tmp rfl _ _ _, _, rfl, ?_, hB'⟩
      rw [← hys.out]
      refine .inr ⟨HNN.out _ _ rfl, g, ys.length, rfl, Nat.le_refl _, Nat.le_trans hcap hmx, fun i x hi => ?_⟩
      have hil : i < ys.length := (List.getElem?_eq_some_iff.1 hi).1
      rw [hrow'.cellAt i (by omega)]
      simp [hi]
  case stop =>
    rintro D c pre W _ _ h _
    exact h.elim

theorem Places_z (slabs : Int) (w : World) :
    Calls Try.prog 44 #[.int .i64 slabs] w fun e W' => ∃ v, e = .returned v ∧ holdsU W' v (plcs (cntZ slabs)) ∧ Below w.heap.size w W' :=
  callsIn_wide.1 (Places_in slabs w)

end Go.Proofs.Ytnonldbnnjdifaa
