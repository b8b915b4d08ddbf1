/- Locks: those that one has, gone over. -/
import Derived.Test.YtbkaemajjaiklaaLockM
import Derived.Test.YtbkaemajjaiklaaWalk
import Derived.Test.YtbkaemajjaiklaaSortI
import Derived.Maps.RangeRun
import Derived.Laws.Externs
import Derived.Deep.MidRow

namespace Go.Proofs.Ytbkaemajjaiklaa
open Go.RowKit Go.Shelf
set_option linter.unusedVariables false
set_option linter.unusedSimpArgs false

attribute [local go_sem] Oper.semAt_some

/-- an entry of a client's own -/
def ownF (c : Int) (e : MapEntry) : Option Int :=
  match e.key, e.val with
  | .int .u64 a, .int .i64 v => if v = c then some a else none
  | _, _ => none
def ownL (has : List (Int × Int)) (c : Int) : List Int := has.filterMap fun p => if p.2 = c then some p.1 else none
theorem ownF_view (c : Int) : ∀ (l : List MapEntry) (has : List (Int × Int)), l.map viewE = has.map isV → l.filterMap (ownF c) = ownL has c
  | [], [], _ => rfl
  | [], _ :: _, h => by simp at h
  | _ :: _, [], h => by simp at h
  | e :: l, p :: has, h => by
    simp only [List.map_cons, List.cons.injEq] at h
    have ih := ownF_view c l has h.2
    have h1 : e.key = .int .u64 p.1 ∧ e.val = .int .i64 p.2 := by
      have := h.1
      unfold viewE isV at this
      exact ⟨congrArg Prod.fst this, congrArg Prod.snd this⟩
    unfold ownL at ih ⊢
    rw [List.filterMap_cons, List.filterMap_cons, ih]
    unfold ownF
    rw [h1.1, h1.2]
theorem entry_view {l : List MapEntry} {has : List (Int × Int)} (h : l.map viewE = has.map isV) {e : MapEntry} (he : e ∈ l) : ∃ a v, e.key = .int .u64 a ∧ e.val = .int .i64 v := by
  have h1 : viewE e ∈ has.map isV := h ▸ List.mem_map.2 ⟨e, he, rfl⟩
  obtain ⟨p, hp, h2⟩ := List.mem_map.1 h1
  exact ⟨p.1, p.2, (congrArg Prod.fst h2).symm, (congrArg Prod.snd h2).symm⟩

set_option maxRecDepth 100000 in
set_option maxHeartbeats 2000000 in
theorem Of1_in (n : Nat) (F : List Nat) (N0 l Bt Bc t mb : Nat) (c k : Int) (has : List (Int × Int)) (ws : List Int) (J Jx : List Int → World → Prop) (W : World) (hT : TabIs W t mb c has ws)
    (hJ : AbidesFrom W.heap.size J) (hBc : Bc < N0) (hBc' : Bc ∉ F) (hmb : mb < N0) (hmb' : mb ∉ F) (hN : N0 ≤ W.heap.size)
    (hY : ∀ pre (x : Int) W1, J pre W1 → pre.length < has.length → YieldAt Fence.wide (n - 1) Try.prog l #[.int .u64 x] W1 fun e W' =>
      (e = .returned (.bool true) ∧ J (pre ++ [x]) W' ∧ KeepM F N0 W1 W') ∨ (e = .returned (.bool false) ∧ Jx (pre ++ [x]) W'))
    (hst : W.cell? ⟨Bt, 0, none⟩ = some (.pointer (some ⟨t, 0, none⟩))) (hs : W.cell? ⟨Bc, 0, none⟩ = some (.int .i64 k)) (h0 : J [] W) :
    CallsIn Fence.wide n Try.prog 91 #[.func (.yield l) #[] #[], .pointer (some ⟨Bt, 0, none⟩), .pointer (some ⟨Bc, 0, none⟩)] W fun e W' => (∃ v, e = .returned v) ∧
      ((∃ ys, ys.Perm (ownL has k) ∧ J ys W') ∨ (∃ pre, True ∧ Jx pre W')) := by
  refine callsIn_of_wp Try.func91 rfl trivial ?_ rfl
  simp only [Try.ntmps91, List.size_toArray, List.length_cons, List.length_nil, Nat.reduceAdd, Nat.reduceSub, Array.replicate_succ, Array.replicate_zero, List.push_toArray, List.append_toArray, List.nil_append, List.cons_append]
  have y1 := hT.cm
  obtain ⟨es, ck, hmp, hvw, hborn⟩ := hT.mp
  have hrg := run_range_map (P := Try.prog) W 72 47 3 mb es ck Try.underlying72 hmp
  have HJ := hid hJ
  have HY := hid hY
  have H0 := hid h0
  have HS := hid hs
  have HMP := hid hmp
  have HVW := hid hvw
  have HBO := hid hborn
  have HB := hid (show Bc < N0 ∧ Bc ∉ F ∧ mb < N0 ∧ mb ∉ F ∧ N0 ≤ W.heap.size from ⟨hBc, hBc', hmb, hmb', hN⟩)
  clear hJ hY h0 hs hmp hvw hborn hBc hBc' hmb hmb' hN hT
  gi_wp2
  obtain ⟨r, hr⟩ : ∃ r, r = W.heap.size := ⟨_, rfl⟩
  obtain ⟨W2, hW2⟩ : ∃ W2, W2 = W.alloc (.mapIter (some mb) ck #[] ck) := ⟨_, rfl⟩
  have hB1 : Below W.heap.size W W2 := by rw [hW2]; exact ba (Below.refl _ _) _
  have I2 : Hid (W2.heap[r]? = some (.mapIter (some mb) ck #[] ck)) := by rw [hW2, hr]; exact heap_alloc_new _ _
  have M2 : Hid (W2.heap[mb]? = some (.map es ck)) := (hB1.block _ (by have := HB.out; omega)).trans HMP.out
  have K2 : Hid (KeepN F N0 W W2) := ⟨hB1.size, fun x hx _ => hB1.block x (by have := HB.out; omega)⟩
  have J2 : Hid (J [] W2) := HJ.out _ _ _ none H0.out (grownBel hB1) (fun r e => by cases e)
  have HR := hid hr
  rw [← hr, ← hW2]
  clear hW2 hr hB1 y1 hst hrg
  gi_loopw [4, 5] (fun _ _ wr => ∃ (seen : Array Nat) (pre : List Int), Hid (wr.heap[r]? = some (.mapIter (some mb) ck seen ck)) ∧ Hid (wr.heap[mb]? = some (.map es ck)) ∧ Hid (J pre wr) ∧ Hid (pre.Perm (gotM (ownF k) es.toList seen)) ∧ Hid (KeepN F N0 W wr)) (fun _ _ wr => (leftOf es (wr.iterSeen r)).size)
  case atStart => exact ⟨#[], [], I2, M2, J2, (by rw [gotM_none] : ([] : List Int).Perm (gotM (ownF k) es.toList #[])), K2⟩
  case round =>
    obtain ⟨seen, pre, hI, hM, hJp, hP, hK⟩ := hrel
    rcases run_next_at (P := Try.prog) wr 0 r mb ck ck seen es ck hI.out hM.out (fun x hx => HBO.out.2 _ (List.mem_map.2 ⟨x, hx, rfl⟩)) (Nat.le_refl _) with ⟨h0, hrun⟩ | ⟨e, he, w1, hw1, hrun⟩
    · have hall := hid (gotM_all (ownF k) es seen h0)
      clear h0
      gi_wp2
      go_end0
      refine ⟨⟨_, rfl⟩, .inl ⟨pre, ?_, hJp.out⟩⟩
      rw [← ownF_view k _ _ HVW.out, ← hall.out]
      exact hP.out
    · obtain ⟨a, v, hka, hva⟩ := entry_view HVW.out (mem_left he).1
      have hsh := hid (left_shrinks es seen e he)
      have hit := hid hI.out
      obtain ⟨W3, hW3⟩ : ∃ W3, W3 = w1.putObj r (.mapIter (some mb) ck (seen.push e.born) ck) := ⟨_, rfl⟩
      replace hrun : (Instr.next (.pointer (some ⟨r, 0, none⟩)) false 0).run Try.prog wr = .ok (.tuple #[.bool true, e.key, e.val]) W3 := by rw [hW3]; exact hrun
      have hon1 : Only [r] wr w1 := by rcases hw1 with rfl | rfl; exact Only.refl _ _; exact (Only.refl _ _).drew
      have hon : Only [r] wr W3 := by rw [hW3]; exact Only.putObj hon1 (Or.inl (by simp)) _
      have hI3 : Hid (W3.heap[r]? = some (.mapIter (some mb) ck (seen.push e.born) ck)) := by
        rw [hW3]
        exact putObj_at (w := w1) (o := .mapIter (some mb) ck seen ck) (by rcases hw1 with rfl | rfl <;> exact hI.out)
      have hM3 : Hid (W3.heap[mb]? = some (.map es ck)) := (hon.block _ (Array.getElem?_eq_some_iff.1 hM.out).1 (by have := HB.out; have := HR.out; simp; omega)).trans hM.out
      have hgr : wr.grownBy W3 (some r) := ⟨hon.os, hon.tape, hon.output, hon.size, fun x hx hn => hon.block x hx (by simpa using fun h => hn (by rw [h]))⟩
      have hJ3 : Hid (J pre W3) := HJ.out _ _ _ (some r) hJp.out hgr (fun r' e => by cases e; exact ⟨by rw [HR.out]; exact Nat.le_refl _, _, hI.out, rfl⟩)
      have hK3 : Hid (KeepN F N0 W W3) := hK.out.trans ⟨hon.size, fun x hx _ => by
        by_cases hxl : x < wr.heap.size
        · exact hon.block x hxl (by have := HB.out; have := HR.out; simp; omega)
        · exfalso; have := hK.out.size; have := HB.out; omega⟩
      have hent := run_entry_at (P := Try.prog) W3 r mb ck seen es ck e hI3.out hM3.out (mem_left he).1 HBO.out.1
      have cc := (hK3.out.cell (p := ⟨Bc, 0, none⟩) HB.out.1 HB.out.2.1).trans HS.out
      have hpush := hid (gotM_push (ownF k) HBO.out.1 (mem_left he).1 (mem_left he).2)
      have hlt := fun h => gotM_lt (ownF k) HBO.out.1 (mem_left he).1 (mem_left he).2 h
      have hlen : es.toList.length = has.length := by have := congrArg List.length HVW.out; simpa using this
      rw [hlen] at hlt
      rw [hka, hva] at hrun hent
      have hF : ownF k e = if v = k then some a else none := by unfold ownF; rw [hka, hva]
      have HLT := hid hlt
      have HF := hid hF
      clear hw1 hW3 hon hon1 hI hM hJp hK he hgr hka hva hlt hlen hF
      by_cases hvk : v = k
      · have e1 : (v == k) = true := by simp [hvk]
        have hF1 : ownF k e = some a := by rw [HF.out, if_pos hvk]
        have hP3 : Hid ((pre ++ [a]).Perm (gotM (ownF k) es.toList (seen.push e.born))) := ((hP.out.append_right [a])).trans (by have := hpush.out; rw [hF1] at this; exact this.symm)
        obtain ⟨fn, tmps, assign, body, hy, hR⟩ := HY.out pre a W3 hJ3.out (by rw [hP.out.length_eq]; exact HLT.out (by rw [hF1]; rfl))
        have HRD := hid hR
        clear hR hF1 hvk
        gi_wp2
        refine ⟨fun h => by simp [Fence.wide] at h, HRD.out.mono ?_⟩
        rintro e' W5 (⟨rfl, hJ5, hk5⟩ | ⟨rfl, hJx5⟩)
        · have hI5 : Hid (W5.heap[r]? = some (.mapIter (some mb) ck (seen.push e.born) ck)) := hk5.walks.same r _ hI3.out rfl
          have hM5 : Hid (W5.heap[mb]? = some (.map es ck)) := hk5.walks.same mb _ hM3.out rfl
          have hK5 := hid (hK3.out.trans hk5.keep)
          have HJ5 := hid hJ5
          clear hJ5 hk5 hrun hent cc hy
          gi_wp2
          go_roundw
          case rel => exact ⟨seen.push e.born, pre ++ [a], hI5, hM5, HJ5, hP3, hK5⟩
          case measure =>
            have h1 : W5.iterSeen r = seen.push e.born := by unfold World.iterSeen; rw [hI5.out]
            have h2 : wr.iterSeen r = seen := by unfold World.iterSeen; rw [hit.out]
            rw [h1, h2]
            exact hsh.out
        · have HJx := hid hJx5
          clear hJx5 hrun hent cc hy
          gi_wp2
          refine bodyPost_ret (results_none rfl _ _ _) rfl ?_
          exact ⟨⟨_, rfl⟩, .inr ⟨_, trivial, HJx.out⟩⟩
      · have e1 : (v == k) = false := by simp [hvk]
        have hF1 : ownF k e = none := by rw [HF.out, if_neg hvk]
        have hP3 : Hid (pre.Perm (gotM (ownF k) es.toList (seen.push e.born))) := hP.out.trans (by have := hpush.out; rw [hF1] at this; simpa using this.symm)
        clear hF1 hvk
        gi_wp2
        refine ⟨(by intro f h; simp at h), ?_⟩
        clear hrun hent cc
        gi_wp2
        go_roundw
        case rel => exact ⟨seen.push e.born, pre, hI3, hM3, hJ3, hP3, hK3⟩
        case measure =>
          have h1 : W3.iterSeen r = seen.push e.born := by unfold World.iterSeen; rw [hI3.out]
          have h2 : wr.iterSeen r = seen := by unfold World.iterSeen; rw [hit.out]
          rw [h1, h2]
          exact hsh.out

theorem Of_stops (n : Nat) (F : List Nat) (N0 Bt Bc t mb : Nat) (c k : Int) (has : List (Int × Int)) (ws : List Int) (w : World) (hT : TabIs w t mb c has ws) (hBc : Bc < N0) (hBc' : Bc ∉ F) (hmb : mb < N0) (hmb' : mb ∉ F) (hN : N0 ≤ w.heap.size)
    (hst : w.cell? ⟨Bt, 0, none⟩ = some (.pointer (some ⟨t, 0, none⟩))) (hs : w.cell? ⟨Bc, 0, none⟩ = some (.int .i64 k)) :
    SeqStopsK Fence.wide n Try.prog 91 #[.pointer (some ⟨Bt, 0, none⟩), .pointer (some ⟨Bc, 0, none⟩)] (fun x : Int => #[.int .u64 x]) (KeepM F N0) (fun ys => ys.Perm (ownL has k)) (fun _ => True) has.length w := by
  intro l J Jx W hW hJ _ hY h0
  have h1 := (hW.cell (p := ⟨Bt, 0, none⟩) (World.block_lt_of_cell? w _ hst)).trans hst
  have h2 := (hW.cell (p := ⟨Bc, 0, none⟩) (World.block_lt_of_cell? w _ hs)).trans hs
  exact Of1_in n F N0 l Bt Bc t mb c k has ws J Jx W (hT.only (Only.of_below hW []) (by simp) (by simp)) hJ hBc hBc' hmb hmb' (Nat.le_trans hN hW.size) hY h1 h2 h0

set_option maxRecDepth 100000 in
theorem Of_make (n : Nat) (t : Nat) (k : Int) (w : World) :
    CallsIn Fence.wide n Try.prog 61 #[.pointer (some ⟨t, 0, none⟩), .int .i64 k] w fun e w' => e = .returned (.func (.func 91) #[] #[.pointer (some ⟨w.heap.size, 0, none⟩), .pointer (some ⟨w.heap.size + 1, 0, none⟩)]) ∧ w' = (w.alloc (.cells #[.pointer (some ⟨t, 0, none⟩)] 38)).alloc (.cells #[.int .i64 k] 3) := by
  refine callsIn_of_wp Try.func61 rfl trivial ?_ rfl
  simp only [Try.ntmps61, List.size_toArray, List.length_cons, List.length_nil, Nat.reduceAdd, Nat.reduceSub, Array.replicate_succ, Array.replicate_zero, List.push_toArray, List.append_toArray, List.nil_append, List.cons_append]
  gi_wp2
  go_ret
  exact ⟨rfl, rfl⟩

theorem infoAddr : (Try.prog.info? 47).map (fun i => (i.zero, i.size, i.bytes)) = some (some (.int .u64 0), 1, 8) := by kernel_rfl
theorem cells_one_new (w : World) (x : Value) (t : TypeId) : ∀ j u, [x][j]? = some u → (w.alloc (.cells #[x] t)).cell? ((⟨w.heap.size, 0, none⟩ : Addr).add j) = some u := World.news_of_block (Blk.new w t #[x])
theorem row_form1 {w : World} {base : Nat} {e : TypeId} {size : Nat} {v : Value} {n : Nat} {xs : List Value} (h : w.ownsRow base e size v n xs) : ∃ a c, v = .slice a n c := by
  rcases h.2 with ⟨rfl, rfl⟩ | ⟨g, cap, cur, rfl, _⟩
  · exact ⟨_, _, rfl⟩
  · exact ⟨_, _, rfl⟩
theorem othersWalks {A B : World} (h : KeepsOthers A B) : KeepsWalks A B := ⟨h.size, fun k o hk ho => h.same k o hk (by cases o <;> first | rfl | (simp [Obj.isWalk] at ho))⟩

theorem onlyOthers {A B : World} {g : Nat} {cs : Array Value} {ty : TypeId} {fz : Nat × Nat} (h : Only [g] A B) (hg : A.heap[g]? = some (.cells cs ty fz)) : KeepsOthers A B :=
  ⟨h.size, fun k o hk ho => (h.block k (Array.getElem?_eq_some_iff.1 hk).1 (by
    intro e
    obtain rfl : k = g := by simpa using e
    rw [hg] at hk; cases hk; cases ho)).trans hk⟩
/-- an own row of addresses, as a row to be sorted -/
theorem rowS_of_own {w : World} {base : Nat} {v : Value} {xs : List Int} (h : w.ownsRow base 47 1 v xs.length (xs.map (Value.int .u64))) :
    (v = .slice none 0 0 ∧ xs = []) ∨ ∃ g cap tl, v = .slice (some ⟨g, 0, none⟩) xs.length cap ∧ base ≤ g ∧ RowS w g xs.length xs.toArray tl ∧ xs.length ≤ cap ∧ cap ≤ maxLen ∧ tl.length = cap - xs.length := by
  rcases h.2 with ⟨rfl, h2⟩ | ⟨g, cap, cur, rfl, h2, h3, h4, h5, h6, h7⟩
  · exact Or.inl ⟨rfl, List.length_eq_zero_iff.1 h2⟩
  · refine Or.inr ⟨g, cap, cur.toList.drop xs.length, rfl, h2, ⟨?_, by simp⟩, h4, h5, by simp; omega⟩
    show w.heap[g]? = _
    rw [h3]
    have : cur = rowC xs.toArray (cur.toList.drop xs.length) := by
      unfold rowC
      apply Array.ext'
      rw [Nat.mul_one] at h7
      show cur.toList = List.map (Value.int .u64) xs.toArray.toList ++ _
      simp only [← h7]
      exact (List.take_append_drop _ _).symm
    exact congrArg (fun c => some (Obj.cells c 47 (0, 0))) this
/-- an own row of addresses sorted -/
theorem SortOwn_s {w : World} {base : Nat} {v : Value} {xs : List Int} (h : w.ownsRow base 47 1 v xs.length (xs.map (Value.int .u64))) (hn : xs.length ≤ 1000000000) :
    Calls Try.prog 62 #[v] w fun e w' => (∃ r, e = .returned r) ∧ ∃ ys : List Int, ys.Perm xs ∧ ys.Pairwise (· ≤ ·) ∧ w'.ownsRow base 47 1 v xs.length (ys.map (Value.int .u64)) ∧ KeepsOthers w w' ∧
      ((v = .slice none 0 0 ∧ w = w') ∨ ∃ g n cap, v = .slice (some ⟨g, 0, none⟩) n cap ∧ base ≤ g ∧ Only [g] w w') := by
  rcases rowS_of_own h with ⟨rfl, rfl⟩ | ⟨g, cap, tl, rfl, hb, hr, hc1, hc2, htl⟩
  · refine (Sort_none w).mono ?_
    rintro e w' ⟨hr, rfl⟩
    exact ⟨hr, [], List.Perm.refl _, List.Pairwise.nil, h, KeepsOthers.refl _, Or.inl ⟨rfl, rfl⟩⟩
  · refine (Sort_s g xs.length cap tl xs.toArray w hr hn).mono ?_
    rintro e w' ⟨hr', ⟨d', h1, h2, h3⟩, ho⟩
    obtain ⟨s1, s2⟩ := sorted_list xs.toArray d' xs.length (by simp) h2 h3
    have hl : d'.toList.length = xs.length := s1.length_eq
    refine ⟨hr', d'.toList, s1, s2, ⟨by simpa using hl, Or.inr ⟨g, cap, rowC d' tl, rfl, hb, h1.blk, hc1, hc2, ?_, ?_⟩⟩, onlyOthers ho hr.blk, Or.inr ⟨g, _, cap, rfl, hb, ho⟩⟩
    · unfold rowC; simp at hl ⊢; omega
    · unfold rowC
      show List.take _ (List.map (Value.int .u64) d'.toList ++ tl) = _
      rw [Nat.mul_one, List.take_append_of_le_length (by rw [List.length_map]; omega), List.take_of_length_le (by rw [List.length_map]; omega)]

def HeldI (w : World) (t : Nat) (k : Int) (pre : List Int) (W : World) : Prop :=
  (∃ v, Boxed W w.heap.size 45 v ∧ W.ownsRow w.heap.size 47 1 v pre.length (pre.map (Value.int .u64)) ∧ True) ∧ Below w.heap.size w W ∧
  Boxed W (w.heap.size + 1) 38 (.pointer (some ⟨t, 0, none⟩)) ∧ Boxed W (w.heap.size + 1 + 1) 3 (.int .i64 k)
theorem HeldI.own (w : World) (t : Nat) (k : Int) (B : Nat) (hB : w.heap.size ≤ B) : OwnFrom B (HeldI w t k) :=
  OwnFrom.and (Own.from (holdsRow_own w.heap.size w.heap.size 45 47 1 (fun pre : List Int => pre.length) (fun pre => pre.map (Value.int .u64)) (fun _ _ => True)) B)
    (OwnFrom.and (ownFrom_below (Nat.le_refl _) hB) (OwnFrom.and (Own.from (boxed_own (w.heap.size + 1) 38 (fun _ => .pointer (some ⟨t, 0, none⟩))) B) (Own.from (boxed_own (w.heap.size + 1 + 1) 3 (fun _ => .int .i64 k)) B)))

set_option maxRecDepth 100000 in
set_option maxHeartbeats 2000000 in
theorem Held_in (t mb : Nat) (c : Int) (k : Nat) (has : List (Int × Int)) (ws : List Int) (w : World) (h : TabIs w t mb c has ws) (hi : (k : Int) < c) (hl : has.length ≤ 1000000) :
    CallsIn Fence.wide 5 Try.prog 25 #[.pointer (some ⟨t, 0, none⟩), .int .i64 (k : Int)] w fun e W' => (∃ p cap, e = .returned (.slice p (ownL has k).length cap)) ∧ Below w.heap.size w W' := by
  obtain ⟨i0, hi0, hz0, hz1, hz2⟩ := info_parts infoAddr
  refine callsIn_of_wp_marks Try.func25 rfl trivial ?_ rfl
  simp only [Try.ntmps25, List.size_toArray, List.length_cons, List.length_nil, Nat.reduceAdd, Nat.reduceSub, Array.replicate_succ, Array.replicate_zero, List.push_toArray, List.append_toArray, List.nil_append, List.cons_append]
  have hcc : (w.alloc (.cells #[.slice none 0 0] 45)).cell? ⟨t, 0, none⟩ = some (.int .i64 c) := (ba (Below.refl _ w) _).cell (p := ⟨t, 0, none⟩) h.lt.1 |>.trans h.cc
  have hT := client_l t c k h.pos _ hcc
  rw [decide_eq_true (show 0 ≤ (k : Int) ∧ (k : Int) < c from ⟨by omega, hi⟩)] at hT
  gi_wp2_with fail
  refine ⟨trivial, (callsIn_wide.2 hT).mono ?_⟩
  rintro e w1 ⟨rfl, rfl⟩
  gi_wp2_with fail
  refine ⟨trivial, (Of_make 4 _ _ _).mono ?_⟩
  rintro e w1 ⟨rfl, rfl⟩
  gi_wp2_with fail
  obtain ⟨W0, hW0⟩ : ∃ W0, W0 = (((w.alloc (Obj.cells #[.slice none 0 0] 45)).alloc (.cells #[.pointer (some ⟨t, 0, none⟩)] 38)).alloc (.cells #[.int .i64 (k : Int)] 3)) := ⟨_, rfl⟩
  have hsz0 : W0.heap.size = w.heap.size + 3 := by rw [hW0]; simp
  have HB0 : Below w.heap.size w W0 := by rw [hW0]; exact ba (ba (ba (Below.refl _ _) _) _) _
  have hTW : TabIs W0 t mb c has ws := h.only (Only.of_below HB0 []) (by simp) (by simp)
  have hct : W0.cell? ⟨w.heap.size + 1, 0, none⟩ = some (.pointer (some ⟨t, 0, none⟩)) := by rw [hW0]; go_simp
  have hck : W0.cell? ⟨w.heap.size + 1 + 1, 0, none⟩ = some (.int .i64 (k : Int)) := by rw [hW0]; go_simp
  have hbO : Boxed W0 w.heap.size 45 (.slice none 0 0) := by rw [hW0]; exact ((Boxed.new w 45 (.slice none 0 0)).alloc _).alloc _
  have hbT : Boxed W0 (w.heap.size + 1) 38 (.pointer (some ⟨t, 0, none⟩)) := by
    rw [hW0]
    exact (by simpa using Boxed.new (w.alloc (Obj.cells #[.slice none 0 0] 45)) 38 (.pointer (some ⟨t, 0, none⟩)) : Boxed ((w.alloc (Obj.cells #[.slice none 0 0] 45)).alloc (.cells #[.pointer (some ⟨t, 0, none⟩)] 38)) (w.heap.size + 1) 38 (.pointer (some ⟨t, 0, none⟩))).alloc _
  have hbK : Boxed W0 (w.heap.size + 1 + 1) 3 (.int .i64 (k : Int)) := by
    rw [hW0]
    simpa using Boxed.new ((w.alloc (Obj.cells #[.slice none 0 0] 45)).alloc (.cells #[.pointer (some ⟨t, 0, none⟩)] 38)) 3 (.int .i64 (k : Int))
  rw [← hW0]
  have HL := hid hl
  have HTT := hid h
  clear hW0 hT hcc
  refine wpIn_rangeFunc_ownG rfl (by omega) (gf := 91) (lb := #[.pointer (some ⟨w.heap.size + 1, 0, none⟩), .pointer (some ⟨w.heap.size + 1 + 1, 0, none⟩)]) rfl trivial (enters_of Try.func91 (by kernel_rfl) rfl)
    (Of_stops 4 [w.heap.size] (w.heap.size + 3) (w.heap.size + 1) (w.heap.size + 1 + 1) t mb c (k : Int) has ws W0 hTW (by omega) (by simp; omega) (by have := h.lt; omega) (by have := h.lt; simp; omega) (by omega) hct hck) KeepM.trans ?hKb (Below.refl _ _) (fun _ => rfl)
    (HeldI w t k) (fun _ _ _ => False) (HeldI.own w t k _ (by omega)) (fun _ _ _ _ _ h _ _ => h)
    ?h0
    (fun x => { tmps := #[.pointer (some ⟨t, 0, none⟩), .int .i64 (k : Int), undef, undef, .pointer (some ⟨w.heap.size, 0, none⟩), .int .u64 x, .pointer (some ⟨t, 0, none⟩), .int .i64 (k : Int), .bool true, .bool false, .pointer (some ⟨t, 0, none⟩), .int .i64 (k : Int), .func (.func 91) #[] #[.pointer (some ⟨w.heap.size + 1, 0, none⟩), .pointer (some ⟨w.heap.size + 1 + 1, 0, none⟩)], .int .u64 x, undef, undef, undef, undef, undef, undef, undef], defers := [] }) ?assign ?body ?done ?stop
  case hKb =>
    intro W l o o' hl ho hc hw
    exact KeepM.putObj ho hw (by omega)
  case h0 => exact ⟨⟨.slice none 0 0, hbO, ⟨rfl, Or.inl ⟨rfl, rfl⟩⟩, trivial⟩, HB0, hbT, hbK⟩
  case assign =>
    intro l x W K hK
    gi_wp2
    exact hK
  case body =>
    rintro l pre x W hI hlt
    obtain ⟨⟨v, hv, hrow, _⟩, hB, b1, b2⟩ := hI
    have hc := hv.cell
    have HV := hid hv
    have HR := hid hrow
    have HBB := hid hB
    have B1 := hid b1
    have B2 := hid b2
    have HLT := hid hlt
    have hWs := HBB.out.size
    obtain ⟨a, c, rfl⟩ := row_form1 hrow
    obtain ⟨nn, hnn⟩ : ∃ nn, nn = pre.length := ⟨_, rfl⟩
    have HN := hid hnn
    have hnle : nn ≤ 1000000 := by have := HL.out; omega
    rw [← hnn] at hc HV HR
    clear hv hrow hB hnn b1 b2 hlt h hTW hct hck hbO hbT hbK HB0 hl
    gi_wp2_with (gi_at_builtin; go_loud (refine wpListIn_append_own_at _ rfl _ _ 45 rfl w.heap.size 47 i0 (.int .u64 0) 1 8 Try.underlying45 hi0 hz0 hz1 hz2 rfl (by decide) _ _ _ rfl (HR.out.alloc _) ⟨W.heap.size, 0, none⟩ 1 1 [.int .u64 x] rfl rfl (cells_one_new _ _ _) (by simp [Value.oneCell']) (by unfold maxLen; omega) (by omega) (by simp; omega) ?_; intro v' w1 hown' hgrow _ hob; obtain ⟨a', c', rfl⟩ := row_form1 hown'; obtain ⟨hv1, hv2, hr2, hk2, hb2⟩ := HV.out.appended (by decide) HR.out HBB.out.size (Nat.le_refl _) hown' hgrow; have hc1' := hv1.cell; have hf1 := hv1.frozen))
    have n1 := B1.out.not_row (by decide) HR.out
    have n2 := B2.out.not_row (by decide) HR.out
    have n0 := HV.out.not_row (by decide) HR.out
    have c1 := ((B1.out.alloc (.cells #[.int .u64 x] 47)).kept hgrow n1).kept (grownBy_setCell' _ w.heap.size (Value.slice a' (nn + 1) c')) (by intro e; injection e with e; omega)
    have c2 := ((B2.out.alloc (.cells #[.int .u64 x] 47)).kept hgrow n2).kept (grownBy_setCell' _ w.heap.size (Value.slice a' (nn + 1) c')) (by intro e; injection e with e; omega)
    have hlN : (pre ++ [x]).length = nn + 1 := by rw [List.length_append, ← HN.out]; rfl
    have hpc : (pre ++ [x]).map (Value.int .u64) = pre.map (Value.int .u64) ++ [.int .u64 x] := by rw [List.map_append]; rfl
    refine ⟨hk2.from _, ⟨⟨hk2.size, ?_⟩, othersWalks hk2⟩, ⟨_, hv2, by rw [hlN, hpc]; exact hr2, trivial⟩, HBB.out.trans hb2, c1, c2⟩
    intro y hy hny
    by_cases hyl : y < w.heap.size
    · exact hb2.block y hyl
    · have hy2 : y = w.heap.size + 1 ∨ y = w.heap.size + 1 + 1 := by simp at hny; omega
      rcases hy2 with rfl | rfl
      · exact c1.trans B1.out.symm
      · exact c2.trans B2.out.symm
  case done =>
    rintro D ys W hD hys ⟨⟨v, hv, hrow, _⟩, hB, b1, b2⟩ hK
    obtain ⟨a, c, rfl⟩ := row_form1 hrow
    have hc := hv.cell
    have hf := hv.frozen
    have hS : Calls Try.prog 62 #[.slice a ys.length c] W fun e w' => (∃ r, e = .returned r) ∧ Below w.heap.size W w' ∧ KeepsOthers W w' ∧ Boxed w' w.heap.size 45 (.slice a ys.length c) := by
      have hyl : ys.length ≤ 1000000000 := by
        have h1 := hys.length_eq
        have h2 : (ownL has (k : Int)).length ≤ has.length := List.length_filterMap_le ..
        omega
      refine (SortOwn_s hrow hyl).mono ?_
      rintro e w' ⟨h1, zs, _, _, h4, h5, h6⟩
      refine ⟨h1, ?_, h5, ?_⟩
      · rcases h6 with ⟨_, rfl⟩ | ⟨g, n', cap', _, hbg, ho⟩
        · exact Below.refl _ _
        · exact ho.below (by simpa using hbg) hB.size
      · rcases h6 with ⟨_, rfl⟩ | ⟨g, n', cap', hve, hbg, ho⟩
        · exact hv
        · have hne := hv.not_row (by decide) hrow
          refine (ho.block _ hv.lt ?_).trans hv
          intro e
          injection hve with h7 h8 h9
          subst h7
          exact hne (by simp at e; simp [Value.ownBlock, e])
    have HS := hid hS
    have HV := hid hv
    have HR := hid hrow
    have HB := hid hB
    have HY := hid hys.length_eq
    clear hS hv hrow hB b1 b2 h hTW hct hck hbO hbT hbK HB0 hl hys
    gi_wp2_with fail
    refine ⟨trivial, (callsIn_wide.2 HS.out).mono ?_⟩
    rintro e w1 ⟨⟨r, rfl⟩, hb1, hk1, hv1⟩
    have hc1 := hv1.cell
    have hf1 := hv1.frozen
    have HB1 := hid hb1
    have HK1 := hid hk1
    have HV1 := hid hv1
    clear hb1 hk1 hv1 HS hc hf
    gi_wp2
    have hk2 : (w1.setCell ⟨w.heap.size, 0, none⟩ (Value.slice a ys.length c)).heap[D]? = some (.deferred (some [])) := (KeepsOthers.setCell _ _ _).same D _ (HK1.out.same D _ hK rfl) rfl
    have hb2 := (HB1.out.setCell (p := ⟨w.heap.size, 0, none⟩) (Nat.le_refl _) (Value.slice a ys.length c))
    have hb3 := (HB.out.trans hb2).trans (belowK_b (w := w) (Nat.le_refl _) _ D _ (.deferred none) (by omega) hk2 rfl rfl)
    have hv2 := (HV1.out.set (Value.slice a ys.length c)).kept (grownBy_putObj' _ D (.deferred none)) (by intro e; injection e with e; omega)
    refine ⟨by simp, .inl ⟨_, _, rfl, run_takeDeferred hk2, ?_⟩⟩
    refine ⟨.slice a ys.length c, ?_, ⟨a, c, by rw [HY.out]⟩, hb3⟩
    simp [results, Try.results25, go_sem, hv2.cell]
  case stop => rintro D c0 pre W hD hpre h hK; exact h.elim
theorem Held_l (t mb : Nat) (c : Int) (k : Nat) (has : List (Int × Int)) (ws : List Int) (w : World) (h : TabIs w t mb c has ws) (hi : (k : Int) < c) (hl : has.length ≤ 1000000) :
    Calls Try.prog 25 #[.pointer (some ⟨t, 0, none⟩), .int .i64 (k : Int)] w fun e W' => (∃ p cap, e = .returned (.slice p (ownL has k).length cap)) ∧ Below w.heap.size w W' :=
  callsIn_wide.1 (Held_in t mb c k has ws w h hi hl)
end Go.Proofs.Ytbkaemajjaiklaa

/- Locks: new ones; a copy. -/
namespace Go.Proofs.Ytbkaemajjaiklaa
open Go.RowKit
set_option linter.unusedVariables false
set_option linter.unusedSimpArgs false

set_option maxRecDepth 100000 in
theorem CloneHas_z (r : Nat) (es : Array MapEntry) (clock : Nat) (w : World) (hb : w.heap[r]? = some (.map es clock)) :
    Calls Try.prog 59 #[.map (some r)] w fun e w' => e = .returned (.map (some w.heap.size)) ∧ w' = w.alloc (.map es clock) := by
  have hcl : (callFunc 89 #[.iface 72 (.map (some r))]).run Try.prog w = .ok (.value (.iface 72 (.map (some w.heap.size)))) (w.alloc (.map es clock)) := by
    rw [run_callFunc_extern Try.func89 (by kernel_rfl) (by kernel_rfl) (by kernel_rfl) (e := Extern.MapsClone.clone) (by kernel_rfl)]
    have e : Extern.MapsClone.clone #[.iface 72 (.map (some r))] = (getObj r >>= fun o => match o with
      | .map entries clock => (newObj (.map entries clock) >>= fun n => pure (.iface 72 (.map (some n))))
      | _ => stuck "maps.clone: a map expected") := rfl
    rw [e]
    simp [MapKept.run_getObj_map hb, Result.andThen]
  have heq : (binOp BinOp.eql 72 (Value.map (some r)) (Value.map none)).run Try.prog w = .ok (.bool false) w := by kernel_rfl
  have hta : ∀ k w', (Instr.typeAssert (.iface 72 (.map (some k))) 20 72 false).run Try.prog w' = Result.ok (.map (some k)) w' := fun k w' => by simp [Instr.typeAssert, run_underlying Try.underlying72]
  clear hb
  go_enter Try.func59, Try.ntmps59
  go_wp2
  go_ret
  try exact ⟨rfl, rfl⟩

set_option maxRecDepth 100000 in
set_option maxHeartbeats 1000000 in
theorem LNew_t (c : Int) (hc : 1 ≤ c ∧ c ≤ 64) (w : World) :
    Calls Try.prog 44 #[.int .i64 c] w fun e w' => e = .returned (.tuple #[.pointer (some ⟨w.heap.size + 1, 0, none⟩), .int .i64 0]) ∧ TabIs w' (w.heap.size + 1) w.heap.size c [] (List.replicate 64 0) ∧ Below w.heap.size w w' := by
  have i1 : ¬ c < 1 := by omega
  have i2 : ¬ c > 64 := by omega
  have hmm : ∀ w, (Instr.makeMap 72 none).run Try.prog w = .ok (.map (some w.heap.size)) (w.alloc (.map #[] 0)) := fun _ => rfl
  have HC := hid hc
  clear hc
  go_enter Try.func44, Try.ntmps44
  go_wp2
  go_ret2
  have hb : Below w.heap.size w ((w.alloc (.map #[] 0)).alloc (.cells ((Try.zeroCells95.setIfInBounds 0 (Value.int IntKind.i64 c)).setIfInBounds 1 (Value.map (some w.heap.size))) 95)) := by (repeat (first | exact Below.refl _ _ | (refine ba ?_ _) | (refine Below.drew ?_) | (refine below_drewN ?_ _) | (refine Below.alloc ?_ (by first | omega | (simp; done) | (simp; omega)) _) | (refine Below.setCell ?_ (by first | omega | (simp; done) | (simp; omega)) _) | (refine bx ?_ (by assumption)) | (refine Below.trans ?_ (Below.mono (by assumption) (by first | omega | (simp; done) | (simp; omega))))))
  refine ⟨rfl, ⟨?_, ⟨#[], 0, ?_, rfl, by simp [BornOK]⟩, HC.out, by simp, by omega⟩, hb⟩
  · have h1 := Blk.new (w.alloc (.map #[] 0)) 95 ((Try.zeroCells95.setIfInBounds 0 (Value.int IntKind.i64 c)).setIfInBounds 1 (Value.map (some w.heap.size)))
    simp only [World.size_alloc] at h1
    have h2 : (Try.zeroCells95.setIfInBounds 0 (Value.int IntKind.i64 c)).setIfInBounds 1 (Value.map (some w.heap.size)) = tabC c w.heap.size (List.replicate 64 0) := by rfl
    rw [h2] at h1
    exact h1
  · exact (Below.heap_alloc _ _ _ (by simp)).trans (heap_alloc_new _ _)

set_option maxRecDepth 100000 in
set_option maxHeartbeats 1000000 in
theorem SNew_t (ma sa : Option Addr) (z n : Nat) (c : Int) (hn : 1 ≤ n ∧ n ≤ 64) (hz : z = 1024 * (1 + n)) (hc : 1 ≤ c ∧ c ≤ 64) (w : World) (hm : HasMem w (.pointer ma) z) (hs : HasSlabs w (.pointer sa) n) :
    Calls Try.prog 9 #[(.pointer ma), (.pointer sa), .int .i64 c] w fun e w' => Below w.heap.size w w' ∧ ∃ x t mb, e = .returned (.tuple #[.pointer (some ⟨x, 0, none⟩), .int .i64 0]) ∧ SiteAt w' x (.pointer ma) (.pointer sa) t c ∧ TabIs w' t mb c [] (List.replicate 64 0) ∧ w.heap.size ≤ x ∧ w.heap.size ≤ t ∧ w.heap.size ≤ mb ∧ x ≠ t ∧ x ≠ mb := by
  have HM := hid hm
  have HS := hid hs
  have HC := hid hc
  have t0 : ((z : Int) == 0) = false := by simp; omega
  have t1 : ((n : Int) == 0) = false := by simp; omega
  have hsz : sizeZ (n : Int) = (z : Int) := by unfold sizeZ; rw [if_pos (by omega)]; omega
  have hSize := Size_z (n : Int)
  rw [hsz] at hSize
  have HSZ := hid hSize
  have t2 : ((z : Int) != (z : Int)) = false := by simp
  clear hm hs hz hsz hSize hc hn
  go_enter Try.func9, Try.ntmps9
  go_wp2_with fail
  refine (MSize_z (.pointer ma) z w HM.out).mono ?_
  rintro e w1 ⟨rfl, rfl⟩
  go_wp2_with fail
  refine (Slabs_s (.pointer sa) n w HS.out).mono ?_
  rintro e w1 ⟨rfl, rfl⟩
  go_wp2_with fail
  refine (LNew_t c HC.out w).mono ?_
  rintro e w2 ⟨rfl, ht, hb⟩
  have HM2 := hid (HM.out.bel hb)
  have HS2 := hid (HS.out.bel hb)
  have HB := hid hb
  have HT := hid ht
  obtain ⟨t, hte⟩ : ∃ t, t = w.heap.size + 1 := ⟨_, rfl⟩
  rw [← hte] at HT
  have HTE := hid hte
  rw [← hte]
  clear hb ht hte
  go_wp2_with fail
  refine (MSize_z (.pointer ma) z w2 HM2.out).mono ?_
  rintro e w1 ⟨rfl, rfl⟩
  go_wp2_with fail
  refine (Slabs_s (.pointer sa) n w2 HS2.out).mono ?_
  rintro e w1 ⟨rfl, rfl⟩
  go_wp2_with fail
  refine (HSZ.out w2).mono ?_
  rintro e w1 ⟨rfl, rfl⟩
  go_wp2
  go_ret2
  have hal : Below w2.heap.size w2 (w2.alloc (.cells #[(.pointer ma), (.pointer sa), .pointer (some ⟨t, 0, none⟩)] 92)) := ba (Below.refl _ _) _
  have hl := HT.out.lt
  have hte := HTE.out
  refine ⟨bx HB.out hal, w2.heap.size, t, w.heap.size, rfl, ⟨Blk.new w2 _ _, (hal.cell (p := ⟨t, 0, none⟩) hl.1).trans HT.out.cc, Nat.lt_of_lt_of_le hl.1 hal.size, HC.out⟩, HT.out.only (Only.of_below hal []) (by simp) (by simp), HB.out.size, by omega, Nat.le_refl _, by omega, by omega⟩

theorem foldl_cells (xs : List Value) : ∀ (k off : Nat) (cells : Array Value) (i : Nat), ((xs.zipIdx k).foldl (fun (cs : Array Value) (x : Value × Nat) => cs.setIfInBounds (off + x.2) x.1) cells)[i]? =
    if off + k ≤ i ∧ i < off + k + xs.length ∧ i < cells.size then xs[i - off - k]? else cells[i]? := by
  induction xs with
  | nil => intro k off cells i; rw [if_neg (by simp; omega)]; rfl
  | cons x xs ih =>
    intro k off cells i
    rw [List.zipIdx_cons, List.foldl_cons, ih]
    simp only [Array.size_setIfInBounds, List.length_cons]
    by_cases h1 : off + (k + 1) ≤ i ∧ i < off + (k + 1) + xs.length ∧ i < cells.size
    · rw [if_pos h1, if_pos (by omega), show i - off - k = (i - off - (k + 1)) + 1 by omega, List.getElem?_cons_succ]
    · rw [if_neg h1, Array.getElem?_setIfInBounds]
      by_cases h2 : off + k = i
      · subst h2
        rw [if_pos rfl]
        by_cases h3 : off + k < cells.size
        · rw [if_pos h3, if_pos (by omega), show off + k - off - k = 0 by omega]; rfl
        · rw [if_neg h3, if_neg (by omega)]; simp; omega
      · rw [if_neg h2, if_neg (by omega)]
theorem tab_built (c : Int) (mb : Nat) (ws : List Int) (h : ws.length = 64) :
    List.foldl (fun (cs : Array Value) (x : Value × Nat) => cs.setIfInBounds (2 + x.2) x.1) ((Try.zeroCells95.setIfInBounds 0 (Value.int IntKind.i64 c)).setIfInBounds 1 (Value.map (some mb))) (ws.map (Value.int .u64)).zipIdx = tabC c mb ws := by
  have hz : Try.zeroCells95.size = 66 := by decide +kernel
  apply Array.ext_getElem?
  intro i
  rw [foldl_cells]
  simp only [Array.size_setIfInBounds, List.length_map, h, hz]
  have e : (tabC c mb ws)[i]? = (Value.int .i64 c :: .map (some mb) :: ws.map (Value.int .u64))[i]? := List.getElem?_toArray ..
  rw [e]
  clear e
  match i with
  | 0 => rw [if_neg (by omega), Array.getElem?_setIfInBounds, if_neg (by omega), Array.getElem?_setIfInBounds, if_pos rfl, if_pos (by omega)]; rfl
  | 1 => rw [if_neg (by omega), Array.getElem?_setIfInBounds, if_pos rfl, if_pos (by simp [hz])]; rfl
  | j + 2 =>
    rw [List.getElem?_cons_succ, List.getElem?_cons_succ]
    by_cases hj : j < 64
    · rw [if_pos (by omega), show j + 2 - 2 - 0 = j by omega]
    · rw [if_neg (by omega), Array.getElem?_eq_none (by simp; omega), List.getElem?_eq_none (by simp; omega)]
theorem TabIs.rng {w : World} {t mb : Nat} {c : Int} {has : List (Int × Int)} {ws : List Int} (h : TabIs w t mb c has ws) : w.rangeAt t 2 (ws.map (Value.int .u64)) := fun j v hv => by
  rw [List.getElem?_map] at hv
  obtain ⟨x, hx, rfl⟩ := Option.map_eq_some_iff.1 hv
  exact h.cw hx

set_option maxRecDepth 100000 in
set_option maxHeartbeats 1000000 in
theorem Copy_l (t mb : Nat) (c : Int) (has : List (Int × Int)) (ws : List Int) (w : World) (h : TabIs w t mb c has ws) :
    Calls Try.prog 23 #[.pointer (some ⟨t, 0, none⟩)] w fun e w' => (∃ t2 mb2, e = .returned (.pointer (some ⟨t2, 0, none⟩)) ∧ TabIs w' t2 mb2 c has ws ∧ w.heap.size ≤ t2 ∧ w.heap.size ≤ mb2) ∧ Below w.heap.size w w' := by
  have hT := hid (lthere_z t c h.pos w h.cc)
  obtain ⟨es, ck, h1, h2, h3⟩ := h.mp
  have HC := hid (CloneHas_z mb es ck)
  have hd := show TabIs w.drew t mb c has ws from h.only ((Only.refl [] w).drew) (by simp) (by simp)
  have ha := show TabIs (w.alloc (.map es ck)).drew t mb c has ws from h.only (((Only.refl [] w).alloc (.map es ck)).drew) (by simp) (by simp)
  have hu := Try.underlying93
  have hb := fun o => show TabIs ((w.alloc (.map es ck)).alloc o).drew t mb c has ws from h.only ((((Only.refl [] w).alloc (.map es ck)).alloc o).drew) (by simp) (by simp)
  obtain ⟨A, hA⟩ : ∃ A, A = ws.map (Value.int .u64) := ⟨_, rfl⟩
  have hAl : A.length = 64 := by rw [hA, List.length_map]; exact h.len
  have hi : (Try.prog.info? 93).map (·.size) = some A.length := by rw [hAl]; kernel_rfl
  have x0 := hd.cc
  have x1 := hd.cm
  have x2 := hd.rng
  have y0 := ha.cc
  have y1 := ha.cm
  have y2 := ha.rng
  have z0 := h.cc
  have z1 := h.cm
  have z2 := h.rng
  have q0 := fun o => (hb o).cc
  have q1 := fun o => (hb o).cm
  have q2 := fun o => (hb o).rng
  have hm : w.drew.heap[mb]? = some (.map es ck) := h1
  rw [← hA] at x2 y2 z2 q2
  have H := hid h
  have HA := hid hA
  clear h hd ha hA hb
  go_enter Try.func23, Try.ntmps23
  go_wp2_with fail
  refine (hT.out).mono ?_
  rintro e w1 ⟨rfl, rfl⟩
  go_wp2_with fail
  go_region_held3 (fun w' => w'.cell? ⟨t, 0, none⟩ = some (.int .i64 c) ∧ w'.cell? ⟨t, 1, none⟩ = some (.map (some mb)) ∧ w'.rangeAt t 2 A) (first | (with_reducible exact ⟨x0, x1, x2⟩) | (with_reducible exact ⟨y0, y1, y2⟩) | (with_reducible exact ⟨z0, z1, z2⟩) | (with_reducible exact ⟨q0 _, q1 _, q2 _⟩))
      (first
      | (go_at_call 59; refine (HC.out _ hm).mono ?_; rintro e w2 ⟨rfl, rfl⟩))
  go_wp2
  go_ret
  rw [HA.out, tab_built c _ ws H.out.len]
  have hbe : Below w.heap.size w ((w.alloc (.map es ck)).alloc (.cells (tabC c w.heap.size ws) 95)).drew := by (repeat (first | exact Below.refl _ _ | (refine ba ?_ _) | (refine Below.drew ?_) | (refine below_drewN ?_ _) | (refine Below.alloc ?_ (by first | omega | (simp; done) | (simp; omega)) _) | (refine Below.setCell ?_ (by first | omega | (simp; done) | (simp; omega)) _) | (refine bx ?_ (by assumption)) | (refine Below.trans ?_ (Below.mono (by assumption) (by first | omega | (simp; done) | (simp; omega))))))
  refine ⟨⟨w.heap.size + 1, w.heap.size, rfl, ⟨?_, ⟨es, ck, ?_, h2, h3⟩, H.out.pos, H.out.len, by omega⟩, by omega, Nat.le_refl _⟩, hbe⟩
  · have := Blk.new (w.alloc (.map es ck)) 95 (tabC c w.heap.size ws)
    simp only [World.size_alloc] at this
    exact this.drew
  · exact (Below.heap_alloc _ _ _ (by simp)).trans (heap_alloc_new _ _)
end Go.Proofs.Ytbkaemajjaiklaa

/- Locks: one who is dropped. -/
namespace Go.Proofs.Ytbkaemajjaiklaa
open Go.RowKit
set_option linter.unusedVariables false
set_option linter.unusedSimpArgs false

/-- each address has one who has it -/
def UniqA (has : List (Int × Int)) : Prop := (has.map (·.1)).Nodup
theorem UniqA.get {has : List (Int × Int)} (hu : UniqA has) {a v : Int} (h : (a, v) ∈ has) : isGet has a = v := by
  induction has with
  | nil => cases h
  | cons p l ih =>
    unfold UniqA at hu ih
    rw [List.map_cons, List.nodup_cons] at hu
    show (if p.1 = a then p.2 else isGet l a) = v
    rcases List.mem_cons.1 h with rfl | h1
    · rw [if_pos rfl]
    · rw [if_neg, ih hu.2 h1]
      intro e
      exact hu.1 (e ▸ List.mem_map.2 ⟨_, h1, rfl⟩)
theorem UniqA.filter {has : List (Int × Int)} (hu : UniqA has) (p : Int × Int → Bool) : UniqA (has.filter p) := hu.sublist (List.filter_sublist.map _)
theorem UniqA.set {has : List (Int × Int)} (hu : UniqA has) (a v : Int) : UniqA (isSet has a v) := by
  by_cases hm : a ∈ has.map (·.1)
  · obtain ⟨pre, u, post, p1, p2, p3, p4⟩ := is_split hm
    rw [p4 v]
    unfold UniqA at hu ⊢
    rw [p1] at hu
    simpa using hu
  · rw [isSet_not hm]
    unfold UniqA at hu ⊢
    rw [List.map_append, List.nodup_append]
    refine ⟨hu, by simp, fun x hx y hy => ?_⟩
    simp at hy
    rintro rfl
    exact hm (hy ▸ hx)
theorem rel_filter {has : List (Int × Int)} (hu : UniqA has) (k a : Int) : relHas has k a = has.filter fun p => !(decide (p.2 = k) && decide (p.1 = a)) := by
  unfold relHas
  by_cases h : a ∈ has.map (·.1) ∧ isGet has a = k
  · rw [if_pos h]
    obtain ⟨pre, u, post, p1, p2, p3, p4⟩ := is_split h.1
    have hu' := hu
    unfold UniqA at hu'
    rw [p1, List.map_append, List.map_cons, List.nodup_append, List.nodup_cons] at hu'
    rw [p1, isDel_split p2, List.filter_append, List.filter_cons]
    have hk : u = k := p3.symm.trans h.2
    have c1 : pre.filter (fun p => !(decide (p.2 = k) && decide (p.1 = a))) = pre := List.filter_eq_self.2 fun p hp => by
      have : p.1 ≠ a := fun e => p2 (e ▸ List.mem_map.2 ⟨p, hp, rfl⟩)
      simp [this]
    have c2 : post.filter (fun p => !(decide (p.2 = k) && decide (p.1 = a))) = post := List.filter_eq_self.2 fun p hp => by
      have : p.1 ≠ a := fun e => hu'.2.1.1 (e ▸ List.mem_map.2 ⟨p, hp, rfl⟩)
      simp [this]
    rw [c1, c2]
    simp [hk]
  · rw [if_neg h]
    refine (List.filter_eq_self.2 fun p hp => ?_).symm
    by_cases h1 : p.2 = k
    · by_cases h2 : p.1 = a
      · exfalso
        refine h ⟨h2 ▸ List.mem_map.2 ⟨p, hp, rfl⟩, ?_⟩
        rw [← h1]
        exact hu.get (by rw [← h2]; exact hp)
      · simp [h2]
    · simp [h1]

/-- of k's own only those that were not met yet -/
def dropL (has : List (Int × Int)) (k : Int) (met : List Int) : List (Int × Int) := has.filter fun p => !(decide (p.2 = k) && met.contains p.1)
theorem drop_none (has : List (Int × Int)) (k : Int) : dropL has k [] = has := by
  unfold dropL
  exact List.filter_eq_self.2 fun p _ => by simp
theorem drop_step {has : List (Int × Int)} (hu : UniqA has) (k a : Int) (met : List Int) : relHas (dropL has k met) k a = dropL has k (met ++ [a]) := by
  have hf : UniqA (dropL has k met) := hu.filter _
  rw [rel_filter hf]
  unfold dropL
  rw [List.filter_filter]
  refine List.filter_congr fun p _ => ?_
  by_cases h1 : p.2 = k <;> by_cases h2 : p.1 = a <;> simp [h1, h2]
theorem drop_all {has : List (Int × Int)} {k : Int} {met : List Int} (h : ∀ p ∈ has, p.1 ∈ met) : dropL has k met = has.filter fun p => !decide (p.2 = k) := by
  unfold dropL
  refine List.filter_congr fun p hp => ?_
  simp [h p hp]
theorem own_drop_self (has : List (Int × Int)) (k : Int) : ownL (has.filter fun p => !decide (p.2 = k)) k = [] := by
  unfold ownL
  rw [List.filterMap_eq_nil_iff]
  intro p hp
  have := (List.mem_filter.1 hp).2
  simp at this
  rw [if_neg this]
theorem own_drop_other (has : List (Int × Int)) {k i : Int} (h : i ≠ k) : ownL (has.filter fun p => !decide (p.2 = k)) i = ownL has i := by
  unfold ownL
  rw [List.filterMap_filter]
  congr 1
  funext p
  by_cases h1 : p.2 = i
  · rw [if_pos (by simp [h1, h])]
  · by_cases h2 : p.2 = k
    · rw [if_neg (by simp [h2]), if_neg h1]
    · rw [if_pos (by simp [h2])]

def keyF (e : MapEntry) : Option Int := match e.key with | .int .u64 a => some a | _ => none
theorem keyF_view : ∀ (l : List MapEntry) (has : List (Int × Int)), l.map viewE = has.map isV → l.filterMap keyF = has.map (·.1)
  | [], [], _ => rfl
  | [], _ :: _, h => by simp at h
  | _ :: _, [], h => by simp at h
  | e :: l, p :: has, h => by
    simp only [List.map_cons, List.cons.injEq] at h
    have ih := keyF_view l has h.2
    have h1 : e.key = .int .u64 p.1 := by
      have := h.1
      unfold viewE isV at this
      exact congrArg Prod.fst this
    rw [List.filterMap_cons, ih]
    unfold keyF
    rw [h1]
    rfl

theorem relWs_len (ws : List Int) (k : Nat) (a : Int) : (relWs ws k a).length = ws.length := by unfold relWs; split <;> simp
theorem relWs_other (ws : List Int) {k i : Nat} (a : Int) (h : i ≠ k) : (relWs ws k a)[i]? = ws[i]? := by
  unfold relWs
  split
  · rw [List.getElem?_set, if_neg (fun e => h e.symm)]
  · rfl

set_option maxRecDepth 100000 in
set_option maxHeartbeats 2000000 in
theorem Drop_l (t mb : Nat) (c : Int) (has : List (Int × Int)) (ws : List Int) (k : Nat) (w : World) (h : TabIs w t mb c has ws) (hu : UniqA has) (hi : (k : Int) < c) :
    Calls Try.prog 60 #[.pointer (some ⟨t, 0, none⟩), .int .i64 (k : Int)] w fun e w' => (∃ r, e = .returned r) ∧ (∃ ws', TabIs w' t mb c (has.filter fun p => !decide (p.2 = (k : Int))) ws' ∧ ws'[k]? = some 0 ∧ ∀ i, i ≠ k → ws'[i]? = ws[i]?) ∧ Only [t, mb] w w' := by
  have hT := client_l t c k h.pos w h.cc
  rw [decide_eq_true (show 0 ≤ (k : Int) ∧ (k : Int) < c from ⟨by omega, hi⟩)] at hT
  have HT := hid hT
  have hk64 : k < 64 := by have := h.pos; omega
  have i0 : (0 : Int) ≤ (k : Int) := by omega
  have i1 : (k : Int) < 64 := by omega
  obtain ⟨es, ck, hmp, hvw, hborn⟩ := h.mp
  have HC := hid (CloneHas_z mb es ck w hmp)
  have ym := h.cm
  have hrg := run_range_map (P := Try.prog) (w.alloc (.map es ck)) 72 47 3 w.heap.size es ck Try.underlying72 (heap_alloc_new _ _)
  have H := hid h
  have HU := hid hu
  have HI := hid hi
  have HVW := hid hvw
  have HBO := hid hborn
  have HMP := hid hmp
  have H64 := hid hk64
  clear h hu hi hT hvw hborn hmp hk64
  go_enter Try.func60, Try.ntmps60
  go_wp2_with fail
  refine (HT.out).mono ?_
  rintro e w1 ⟨rfl, rfl⟩
  go_wp2_with fail
  refine HC.out.mono ?_
  rintro e w1 ⟨rfl, rfl⟩
  go_wp2
  obtain ⟨bm, hbm⟩ : ∃ bm, bm = w.heap.size := ⟨_, rfl⟩
  obtain ⟨r, hr⟩ : ∃ r, r = w.heap.size + 1 := ⟨_, rfl⟩
  obtain ⟨W2, hW2⟩ : ∃ W2, W2 = (w.alloc (.map es ck)).alloc (.mapIter (some bm) ck #[] ck) := ⟨_, rfl⟩
  have O2 : Only [] w W2 := by rw [hW2]; exact ((Only.refl _ _).alloc _).alloc _
  have hsz : (w.alloc (.map es ck)).heap.size = w.heap.size + 1 := Array.size_push ..
  have I2 : Hid (W2.heap[r]? = some (.mapIter (some bm) ck #[] ck)) := by
    show W2.heap[r]? = _
    rw [hW2, hr, ← hsz]; exact heap_alloc_new _ _
  have K2 : Hid (W2.heap[bm]? = some (.map es ck)) := by
    show W2.heap[bm]? = _
    rw [hW2, hbm]; exact (Below.heap_alloc _ _ _ (by rw [hsz]; omega)).trans (heap_alloc_new _ _)
  have T2 : Hid (TabIs W2 t mb c has ws) := H.out.only O2 (by simp) (by simp)
  have FB : Hid (t < bm ∧ mb < bm ∧ bm ≠ r ∧ t ≠ r ∧ mb ≠ r ∧ w.heap.size ≤ r ∧ w.heap.size ≤ bm) := by
    have := H.out.lt
    refine ⟨?_, ?_, ?_, ?_, ?_, ?_, ?_⟩ <;> omega
  have HO2 : Hid (Only [t, mb] w W2) := O2.mono (by simp)
  rw [← hr, ← hbm, ← hW2]
  clear hsz hW2 hbm hr ym hrg O2
  go_loopw [4] (fun _ wr => ∃ (seen : Array Nat) (met : List Int) (ws' : List Int), Hid (wr.heap[r]? = some (.mapIter (some bm) ck seen ck)) ∧ Hid (wr.heap[bm]? = some (.map es ck)) ∧ Hid (met.Perm (gotM keyF es.toList seen)) ∧
    Hid (TabIs wr t mb c (dropL has (k : Int) met) ws') ∧ Hid (ws'.length = ws.length ∧ ∀ i, i ≠ k → ws'[i]? = ws[i]?) ∧ Hid (Only [t, mb] w wr)) (fun _ wr => (leftOf es (wr.iterSeen r)).size)
  case atStart => exact ⟨#[], [], ws, I2, K2, (by rw [gotM_none] : ([] : List Int).Perm (gotM keyF es.toList #[])), by rw [drop_none]; exact T2, ⟨rfl, fun _ _ => rfl⟩, HO2⟩
  case round =>
    obtain ⟨seen, met, ws', hI, hK, hP, hTab, hW, hO⟩ := hrel
    rcases run_next_at (P := Try.prog) wr 0 r bm ck ck seen es ck hI.out hK.out (fun x hx => HBO.out.2 _ (List.mem_map.2 ⟨x, hx, rfl⟩)) (Nat.le_refl _) with ⟨h0, hrun⟩ | ⟨e, he, w1, hw1, hrun⟩
    · have hall := hid (gotM_all keyF es seen h0)
      clear h0
      have y0 := hTab.out.blk.frozen (2 + k)
      obtain ⟨x, hx⟩ : ∃ x, ws'[k]? = some x := ⟨_, List.getElem?_eq_getElem (by rw [hTab.out.len]; exact H64.out)⟩
      have y1 := hTab.out.cw hx
      have HX := hid (hTab.out.want k 0)
      clear hx
      go_wp2
      go_end0
      have hfin : dropL has (k : Int) met = has.filter fun p => !decide (p.2 = (k : Int)) := by
        refine drop_all fun p hp => ?_
        have h1 : met.Perm (has.map (·.1)) := by rw [← keyF_view _ _ HVW.out, ← hall.out]; exact hP.out
        exact h1.mem_iff.2 (List.mem_map.2 ⟨p, hp, rfl⟩)
      have hXX := HX.out
      rw [hfin] at hXX
      refine ⟨⟨_, rfl⟩, ⟨_, hXX.1, ?_, fun i hi => ?_⟩, hO.out.trans hXX.2 (fun y hy => Or.inl (by simp at hy; simp [hy]))⟩
      · rw [List.getElem?_set, if_pos rfl, if_pos (by rw [hTab.out.len]; exact H64.out)]
      · rw [List.getElem?_set, if_neg (fun e => hi e.symm)]; exact hW.out.2 i hi
    · obtain ⟨a, v, hka, hva⟩ := entry_view HVW.out (mem_left he).1
      have hsh := hid (left_shrinks es seen e he)
      have hit := hid hI.out
      obtain ⟨W3, hW3⟩ : ∃ W3, W3 = w1.putObj r (.mapIter (some bm) ck (seen.push e.born) ck) := ⟨_, rfl⟩
      replace hrun : (Instr.next (.pointer (some ⟨r, 0, none⟩)) false 0).run Try.prog wr = .ok (.tuple #[.bool true, e.key, e.val]) W3 := by rw [hW3]; exact hrun
      have hon1 : Only [r] wr w1 := by rcases hw1 with rfl | rfl; exact Only.refl _ _; exact (Only.refl _ _).drew
      have hon : Only [r] wr W3 := by rw [hW3]; exact Only.putObj hon1 (Or.inl (by simp)) _
      have hI3 : Hid (W3.heap[r]? = some (.mapIter (some bm) ck (seen.push e.born) ck)) := by
        rw [hW3]
        exact putObj_at (w := w1) (o := .mapIter (some bm) ck seen ck) (by rcases hw1 with rfl | rfl <;> exact hI.out)
      have hK3 : Hid (W3.heap[bm]? = some (.map es ck)) := (hon.block _ (Array.getElem?_eq_some_iff.1 hK.out).1 (by have := FB.out; simp; omega)).trans hK.out
      have hT3 : Hid (TabIs W3 t mb c (dropL has (k : Int) met) ws') := hTab.out.only hon (by have := FB.out; simp; omega) (by have := FB.out; simp; omega)
      have hO3 : Hid (Only [t, mb] w W3) := hO.out.trans hon (fun x hx => Or.inr (by simp at hx; subst hx; exact FB.out.2.2.2.2.2.1))
      have hent := run_entry_at (P := Try.prog) W3 r bm ck seen es ck e hI3.out hK3.out (mem_left he).1 HBO.out.1
      have hpush := gotM_push keyF HBO.out.1 (mem_left he).1 (mem_left he).2
      have hF : keyF e = some a := by unfold keyF; rw [hka]
      have hP3 : Hid ((met ++ [a]).Perm (gotM keyF es.toList (seen.push e.born))) := (hP.out.append_right [a]).trans (by rw [hF] at hpush; exact hpush.symm)
      rw [hka, hva] at hrun hent
      clear hw1 hW3 hon hon1 hI hK hTab hO he hka hva hpush hF
      go_wp2_with fail
      refine (Release_l t mb c _ ws' k a W3 hT3.out HI.out).mono ?_
      rintro e' w5 ⟨⟨rv, rfl⟩, hT5, hO5⟩
      rw [drop_step HU.out] at hT5
      have HT5 := hid hT5
      have hI5 : Hid (w5.heap[r]? = some (.mapIter (some bm) ck (seen.push e.born) ck)) := (hO5.block _ (Array.getElem?_eq_some_iff.1 hI3.out).1 (by have := FB.out; simp; omega)).trans hI3.out
      have hK5 : Hid (w5.heap[bm]? = some (.map es ck)) := (hO5.block _ (Array.getElem?_eq_some_iff.1 hK3.out).1 (by have := FB.out; simp; omega)).trans hK3.out
      have hO7 : Hid (Only [t, mb] w w5) := hO3.out.trans hO5 (fun x hx => Or.inl hx)
      have hW5 : Hid ((relWs ws' k a).length = ws.length ∧ ∀ i, i ≠ k → (relWs ws' k a)[i]? = ws[i]?) := ⟨(relWs_len _ _ _).trans hW.out.1, fun i hi => (relWs_other _ _ hi).trans (hW.out.2 i hi)⟩
      clear hT5 hO5 hrun hent
      go_wp2
      go_roundw
      case rel => exact ⟨seen.push e.born, met ++ [a], relWs ws' k a, hI5, hK5, hP3, HT5, hW5, hO7⟩
      case measure =>
        have h1 : w5.iterSeen r = seen.push e.born := by unfold World.iterSeen; rw [hI5.out]
        have h2 : wr.iterSeen r = seen := by unfold World.iterSeen; rw [hit.out]
        rw [h1, h2]
        exact hsh.out

set_option maxRecDepth 100000 in
theorem Drop_no (t : Nat) (c i : Int) (hc : 1 ≤ c ∧ c ≤ 64) (hi : ¬ (0 ≤ i ∧ i < c)) (w : World) (h : w.cell? ⟨t, 0, none⟩ = some (.int .i64 c)) :
    Calls Try.prog 60 #[.pointer (some ⟨t, 0, none⟩), .int .i64 i] w fun e w' => (∃ r, e = .returned r) ∧ w = w' := by
  have hT := client_l t c i hc w h
  rw [decide_eq_false hi] at hT
  have HT := hid hT
  clear hT hi hc
  go_enter Try.func60, Try.ntmps60
  go_wp2_with fail
  refine (HT.out).mono ?_
  rintro e w1 ⟨rfl, rfl⟩
  go_wp2
  (try simp only [Exit.inBlock, Exit.then]); refine bodyPost_ret (results_none rfl _ _ _) rfl ?_
  exact ⟨⟨_, rfl⟩, rfl⟩
theorem XDrop_l (x t mb : Nat) (mv sv : Value) (c : Int) (has : List (Int × Int)) (ws : List Int) (k : Nat) (w : World) (hs : SiteAt w x mv sv t c) (h : TabIs w t mb c has ws) (hu : UniqA has) (hi : (k : Int) < c) :
    Calls Try.prog 24 #[.pointer (some ⟨x, 0, none⟩), .int .i64 (k : Int)] w fun e w' => (∃ r, e = .returned r) ∧ (∃ ws', TabIs w' t mb c (has.filter fun p => !decide (p.2 = (k : Int))) ws' ∧ ws'[k]? = some 0 ∧ ∀ i, i ≠ k → ws'[i]? = ws[i]?) ∧ Only [t, mb] w w' := by
  have HL := hid (XLocks_z x t mv sv c w hs)
  have HD := hid (Drop_l t mb c has ws k w h hu hi)
  clear hs h hu hi
  go_enter Try.func24, Try.ntmps24
  go_wp2_with fail
  refine (HL.out).mono ?_
  rintro e w1 ⟨rfl, rfl⟩
  go_wp2_with fail
  refine HD.out.mono ?_
  rintro e w2 ⟨⟨r, rfl⟩, h2⟩
  have H2 := hid h2
  clear h2
  go_wp2
  go_end0
  exact ⟨⟨_, rfl⟩, H2.out⟩
theorem XDrop_no (x t : Nat) (mv sv : Value) (c i : Int) (hi : ¬ (0 ≤ i ∧ i < c)) (w : World) (hs : SiteAt w x mv sv t c) :
    Calls Try.prog 24 #[.pointer (some ⟨x, 0, none⟩), .int .i64 i] w fun e w' => (∃ r, e = .returned r) ∧ w = w' := by
  have HL := hid (XLocks_z x t mv sv c w hs)
  have HD := hid (Drop_no t c i hs.pos hi w hs.tab)
  clear hs hi
  go_enter Try.func24, Try.ntmps24
  go_wp2_with fail
  refine (HL.out).mono ?_
  rintro e w1 ⟨rfl, rfl⟩
  go_wp2_with fail
  refine HD.out.mono ?_
  rintro e w2 ⟨⟨r, rfl⟩, rfl⟩
  go_wp2
  go_end0
  exact ⟨⟨_, rfl⟩, rfl⟩
end Go.Proofs.Ytbkaemajjaiklaa
