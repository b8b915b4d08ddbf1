/- The document's blocks: Set. -/
import Derived.Test.YtbkaemajjaiklaaGreatRefN
import Derived.Test.YtbkaemajjaiklaaGreatAppM
import Derived.Test.YtbkaemajjaiklaaGreatAlikeN

namespace Go.Proofs.YtbkaemajjaiklaaGreat
open Go.RowKit
set_option linter.unusedVariables false
set_option linter.unusedSimpArgs false

attribute [local go_sem ↓ high] append_shut2
attribute [local go_sem] appM2_run

def others (ls : List (Int × Int)) (a : Int) : List (Int × Int) := ls.filter fun x => x.1 != a
def setW (ls : List (Int × Int)) (a v : Int) : List (Int × Int) := others ls a ++ if v = 0 then [] else [(a, v)]
theorem others_succ {ls : List (Int × Int)} {i : Nat} {x : Int × Int} (h : ls[i]? = some x) (a : Int) : others (ls.take (i + 1)) a = others (ls.take i) a ++ if x.1 = a then [] else [x] := by
  obtain ⟨hl, e⟩ := List.getElem?_eq_some_iff.1 h
  unfold others
  rw [List.take_succ_eq_append_getElem hl, List.filter_append, e]
  congr 1
  by_cases ha : x.1 = a
  · simp [ha]
  · simp [ha]
theorem others_len (ls : List (Int × Int)) (a : Int) : (others ls a).length ≤ ls.length := List.length_filter_le ..
/-- a row of one's own, new since w, of blocks -/
structure NewBlks (w W : World) (N : Nat) (v : Value) (l : List (Int × Int)) : Prop where
  row : W.ownsRow N 110 2 v l.length (l.flatMap blkC)
  new : ∀ k, v.ownBlock = some k → w.heap.size ≤ k
  only : Only [] w W
theorem NewBlks.app {w W : World} {N : Nat} {v : Value} {l : List (Int × Int)} (h : NewBlks w W N v l) (hN : N ≤ w.heap.size) (x : Int × Int) (hl : l.length ≤ 1000000) :
    ∃ ao co w', appRun2 Tryz.prog #[63, 63] 63 #[v, .slice (some ⟨W.heap.size, 0, none⟩) 1 1] (W.alloc (.cells #[.int .u64 x.1, .int .i64 x.2] 110)) = .ok (.slice ao (l.length + 1) co) w' ∧ NewBlks w w' N (.slice ao (l.length + 1) co) (l ++ [x]) := by
  obtain ⟨i0, hi0, hz0, hz1, hz2⟩ := info_parts info_blk
  have o1 := h.only.alloc (.cells #[.int .u64 x.1, .int .i64 x.2] 110)
  have hx : NewsAt (W.alloc (.cells #[.int .u64 x.1, .int .i64 x.2] 110)) (.slice (some ⟨W.heap.size, 0, none⟩) 1 1) 1 (blkC x) := Or.inr ⟨W.heap.size, 0, 1, rfl, fun j u hj => by
    rw [(Blk.new W 110 #[.int .u64 x.1, .int .i64 x.2]).cell (0 + j), Nat.zero_add]
    simpa [blkC] using hj⟩
  obtain ⟨v', w', q⟩ := run_app (P := Tryz.prog) _ N 63 63 110 i0 (.agg #[.int .u64 0, .int .i64 0]) 2 16 Tryz.underlying63 hi0 hz0 hz1 hz2 rfl (by decide) v l.length _ (h.row.alloc (.cells #[.int .u64 x.1, .int .i64 x.2] 110)) _ 1 _ hx (by simp [blkC]) (by
    intro u hu
    simp [blkC] at hu
    rcases hu with rfl | rfl <;> rfl) (by unfold maxLen; omega) (by omega) (Nat.le_trans hN o1.size)
  obtain ⟨ao, co, rfl⟩ := row_form1 q.own
  refine ⟨ao, co, w', q.run, ?_, own_new o1 q.ob h.new, new_only o1 q.grown h.new⟩
  have := q.own
  rw [List.flatMap_append, List.length_append]
  simpa using this

set_option maxRecDepth 100000 in
set_option maxHeartbeats 2000000 in
theorem WSet_r (N g : Nat) (size : Int) (cs : List Int) (ls : List (Int × Int)) (vC vL : Value) (a v : Int) (w : World) (h : WorldIs w N g size cs ls vC vL) (hN : N ≤ w.heap.size) (hl : ls.length ≤ 100000) :
    Calls Tryz.prog 65 #[.pointer (some ⟨g, 0, none⟩), .int .u64 a, .int .i64 v] w fun e w' => (∃ r, e = .returned r) ∧ ∃ vL', WorldIs w' N g size cs (setW ls a v) vC vL' ∧ Only [g] w w' ∧ ∀ k, vL'.ownBlock = some k → w.heap.size ≤ k := by
  have y2 : w.cell? ⟨g, 2, none⟩ = some vL := h.blk.cell 2
  obtain ⟨n, hn⟩ : ∃ n, n = ls.length := ⟨_, rfl⟩
  have hat : ∃ bo cap, vL = .slice bo n cap ∧ ∀ i x, ls[i]? = some x → ∃ b, bo = some ⟨b, 0, none⟩ ∧ w.cell? ⟨b, i * 2, none⟩ = some (.int .u64 x.1) ∧ w.cell? ⟨b, i * 2 + 1, none⟩ = some (.int .i64 x.2) := by
    rcases h.blkAt with ⟨rfl, rfl⟩ | ⟨b, cap, rfl, hat⟩
    · exact ⟨none, 0, by rw [hn]; rfl, fun i x hx => by cases hx⟩
    · exact ⟨some ⟨b, 0, none⟩, cap, by rw [hn], fun i x hx => ⟨b, rfl, hat i x hx⟩⟩
  obtain ⟨bo, cap, rfl, hat⟩ := hat
  have HN := hid hn
  have HAT := hid hat
  have H := hid h
  have HNN := hid hN
  have hgl := h.blk.lt
  have HL := hid hl
  have n9 : n ≤ 100000 := by omega
  clear hat h hl hn hN
  go_enter Tryz.func65, Tryz.ntmps65
  go_wp2
  go_loopw [6, 7] (fun vo vi wr => ∃ i : Nat, vi = .int .i64 (i : Int) ∧ i ≤ n ∧ ∃ ao co, vo = .slice ao (others (ls.take i) a).length co ∧ Hid (NewBlks w wr N (.slice ao (others (ls.take i) a).length co) (others (ls.take i) a))) (fun _ vi _ => n - (intOf vi).toNat)
  case atStart => exact ⟨0, rfl, Nat.zero_le _, none, 0, rfl, ⟨World.ownsRow_nil _ _ _ _, fun k hk => by simp [others, Value.ownBlock] at hk, Only.refl _ _⟩⟩
  case round =>
    obtain ⟨i, rfl, hi, ao, co, rfl, hr⟩ := hrel
    have i0 : (0 : Int) ≤ (i : Int) := by omega
    have hbel : Below w.heap.size w wr := hr.out.only.below (by simp) (Nat.le_refl _)
    have y3 : wr.cell? ⟨g, 2, none⟩ = some (.slice bo n cap) := (hbel.cell (p := ⟨g, 2, none⟩) hgl).trans y2
    by_cases hlt : i < n
    · obtain ⟨x, hx⟩ : ∃ x, ls[i]? = some x := ⟨_, List.getElem?_eq_getElem (by rw [← HN.out]; exact hlt)⟩
      obtain ⟨b, rfl, c1, c2⟩ := HAT.out i x hx
      have d1 : wr.cell? ⟨b, i * 2, none⟩ = some (.int .u64 x.1) := (hbel.cell (p := ⟨b, i * 2, none⟩) (World.block_lt_of_cell? w _ c1)).trans c1
      have d2 : wr.cell? ⟨b, i * 2 + 1, none⟩ = some (.int .i64 x.2) := (hbel.cell (p := ⟨b, i * 2 + 1, none⟩) (World.block_lt_of_cell? w _ c2)).trans c2
      have i1 : (i : Int) < (n : Int) := by omega
      have HS := hid (others_succ hx a)
      have HB := hid hbel
      obtain ⟨lo, hlo⟩ : ∃ lo, lo = others (ls.take i) a := ⟨_, rfl⟩
      have hlol : lo.length ≤ 1000000 := by
        rw [hlo]
        have := others_len (ls.take i) a
        have h2 := List.length_take_le' i ls
        have := HL.out
        omega
      rw [← hlo] at hr HS ⊢
      have HLO := hid hlo
      clear hx c1 c2 hbel hlo
      by_cases he : x.1 = a
      · have e1 : (x.1 != a) = false := by simp [he]
        have HE := hid he
        clear he
        go_wp2
        go_roundw
        case rel =>
          have e2 : others (ls.take (i + 1)) a = lo := by rw [HS.out, if_pos HE.out, List.append_nil]
          exact ⟨i + 1, by go_num, by omega, ao, co, by rw [e2], by rw [e2]; exact hr.out⟩
        case measure => simp [intOf]; omega
      · have e1 : (x.1 != a) = true := by simp [he]
        have HE := hid he
        obtain ⟨a9, c9, w9, hrun, hnew⟩ := hr.out.app HNN.out x hlol
        have HNW := hid hnew
        obtain ⟨xa, xi⟩ := x
        clear he hnew hr
        go_wp2
        go_roundw
        case rel =>
          have e2 : others (ls.take (i + 1)) a = lo ++ [(xa, xi)] := by rw [HS.out, if_neg HE.out]
          exact ⟨i + 1, by go_num, by omega, a9, c9, by rw [e2, List.length_append]; rfl, by rw [e2, List.length_append]; exact HNW.out⟩
        case measure => simp [intOf]; omega
    · obtain rfl : i = n := by omega
      have htk : ls.take i = ls := List.take_of_length_le (by rw [← HN.out]; exact Nat.le_refl _)
      rw [htk] at hr ⊢
      have yf : wr.frozen? ⟨g, 2, none⟩ = false := (H.out.bel hbel).blk.frozen 2
      obtain ⟨lo, hlo⟩ : ∃ lo, lo = others ls a := ⟨_, rfl⟩
      have hlol : lo.length ≤ 1000000 := by
        rw [hlo]
        have := others_len ls a
        have := HL.out
        omega
      rw [← hlo] at hr ⊢
      have HLO := hid hlo
      have HB := hid hbel
      -- the new row told of
      have fin : ∀ (W : World) (vl : Value) (l : List (Int × Int)), NewBlks w W N vl l → WorldIs (W.setCell ⟨g, 2, none⟩ vl) N g size cs l vC vl ∧ Only [g] w (W.setCell ⟨g, 2, none⟩ vl) ∧ ∀ k, vl.ownBlock = some k → w.heap.size ≤ k := by
        intro W vl l hb
        have hw := H.out.bel (hb.only.below (by simp) (Nat.le_refl _))
        have hgg := H.out.blk.lt
        have hs : Only [g] W (W.setCell ⟨g, 2, none⟩ vl) := (Only.refl _ _).setCell (Or.inl (by simp)) _
        have hng : vl.ownBlock ≠ some g := fun e => by have := hb.new _ e; omega
        refine ⟨⟨hw.blk.set_ 2 vl, hs.own hw.rc (fun k hk hm => hw.nc (by rw [hk, List.mem_singleton.1 hm])), hs.own hb.row (fun k hk hm => hng (by rw [hk, List.mem_singleton.1 hm])), hw.lo, hw.nc, hng, fun k hk hk2 => ?_⟩, (hb.only.mono (fun _ h => by cases h)).trans hs (fun x hx => Or.inl hx), hb.new⟩
        have h1 := own_lt H.out.rc k hk
        have h2 := hb.new k hk2
        omega
      have FIN := hid fin
      clear hbel hlo htk fin
      by_cases hv : v = 0
      · have e1 : (v != 0) = false := by simp [hv]
        have hset : setW ls a v = lo := by unfold setW; rw [if_pos hv, List.append_nil, HLO.out]
        have HSET := hid hset
        clear hset hv
        go_wp2
        go_end0
        rw [HSET.out]
        exact ⟨⟨_, rfl⟩, _, FIN.out _ _ _ hr.out⟩
      · have e1 : (v != 0) = true := by simp [hv]
        have hset : setW ls a v = lo ++ [(a, v)] := by unfold setW; rw [if_neg hv, HLO.out]
        have HSET := hid hset
        obtain ⟨a9, c9, w9, hrun, hnew⟩ := hr.out.app HNN.out (a, v) hlol
        have HNW := hid hnew
        have hb9 : Below w.heap.size w w9 := hnew.only.below (by simp) (Nat.le_refl _)
        have yf9 : w9.frozen? ⟨g, 2, none⟩ = false := (H.out.bel hb9).blk.frozen 2
        have y9 : w9.cell? ⟨g, 2, none⟩ = _ := (hb9.cell (p := ⟨g, 2, none⟩) hgl).trans y2
        clear hset hv hr hnew hb9
        go_wp2
        go_end0
        rw [HSET.out]
        exact ⟨⟨_, rfl⟩, _, FIN.out _ _ _ HNW.out⟩

end Go.Proofs.YtbkaemajjaiklaaGreat

/- The document's blocks: Reserve. -/
namespace Go.Proofs.YtbkaemajjaiklaaGreat
open Go.RowKit
set_option linter.unusedVariables false
set_option linter.unusedSimpArgs false

/-- no block of the class is free in the first k slabs, nor of the next one's first j -/
def NoFree (cs : List Int) (ls : List (Int × Int)) (c k j : Nat) : Prop :=
  (∀ i' j' : Nat, i' < k → j' < nb c → cs.getD i' 0 = (c : Int) → isGet ls (blockZ ((i' : Int) + 1) c j') ≠ 0) ∧ ∀ j' : Nat, j' < j → cs.getD k 0 = (c : Int) → isGet ls (blockZ ((k : Int) + 1) c j') ≠ 0
/-- what Reserve comes to: of a slab of the class, of a slab of none, or nothing -/
inductive RsvW (cs : List Int) (ls : List (Int × Int)) (c n : Nat) : Int → Int → List Int → List (Int × Int) → Prop where
  | old (k j : Nat) (hk : k < n) (hj : j < nb c) (hc : cs.getD k 0 = (c : Int)) (h0 : isGet ls (blockZ ((k : Int) + 1) c j) = 0) (hn : NoFree cs ls c k j) : RsvW cs ls c n (blockZ ((k : Int) + 1) c j) 0 cs (setW ls (blockZ ((k : Int) + 1) c j) 1)
  | new (k : Nat) (hk : k < n) (h0 : cs.getD k 0 = 0) (hf : ∀ k', k' < k → cs.getD k' 0 ≠ 0) (hn : NoFree cs ls c n 0) : RsvW cs ls c n (blockZ ((k : Int) + 1) c (0 : Nat)) 0 (cs.set k (c : Int)) (setW ls (blockZ ((k : Int) + 1) c (0 : Nat)) 1)
  | full (hf : ∀ k', k' < n → cs.getD k' 0 ≠ 0) (hn : NoFree cs ls c n 0) : RsvW cs ls c n 0 4 cs ls
theorem NoFree.next {cs : List Int} {ls : List (Int × Int)} {c k j : Nat} (h : NoFree cs ls c k j) (hs : cs.getD k 0 = (c : Int) → isGet ls (blockZ ((k : Int) + 1) c j) ≠ 0) : NoFree cs ls c k (j + 1) :=
  ⟨h.1, fun j' hj' hc => by
    rcases Nat.lt_succ_iff_lt_or_eq.1 hj' with h1 | rfl
    · exact h.2 j' h1 hc
    · exact hs hc⟩
theorem NoFree.slab {cs : List Int} {ls : List (Int × Int)} {c k j : Nat} (h : NoFree cs ls c k j) (hj : nb c ≤ j ∨ cs.getD k 0 ≠ (c : Int)) : NoFree cs ls c (k + 1) 0 :=
  ⟨fun i' j' hi hj' hc => by
    rcases Nat.lt_succ_iff_lt_or_eq.1 hi with h1 | rfl
    · exact h.1 i' j' h1 hj' hc
    · rcases hj with h2 | h2
      · exact h.2 j' (by omega) hc
      · exact absurd hc h2, fun j' hj' => by omega⟩
/-- a slab's class told -/
theorem WorldIs.setC {w : World} {N g : Nat} {size : Int} {cs : List Int} {ls : List (Int × Int)} {b n cap : Nat} {vL : Value} (h : WorldIs w N g size cs ls (.slice (some ⟨b, 0, none⟩) n cap) vL) (hn : n = cs.length) (k : Nat) (c : Int) (hk : k < n) :
    WorldIs (w.setCell ⟨b, k, none⟩ (.int .i64 c)) N g size (cs.set k c) ls (.slice (some ⟨b, 0, none⟩) n cap) vL ∧ Only [b] w (w.setCell ⟨b, k, none⟩ (.int .i64 c)) := by
  have ho : Only [b] w (w.setCell ⟨b, k, none⟩ (.int .i64 c)) := (Only.refl _ _).setCell (Or.inl (by simp)) _
  have hb : (Value.slice (some ⟨b, 0, none⟩) n cap).ownBlock = some b := rfl
  refine ⟨⟨ho.blk h.blk (fun hm => h.nc (by rw [hb, List.mem_singleton.1 hm])), ?_, ho.own h.rl (fun x hx hm => h.ncl b hb (by rw [hx, List.mem_singleton.1 hm])), h.lo, h.nc, h.nl, h.ncl⟩, ho⟩
  rw [List.length_set]
  have h1 := h.rc.1
  rcases h.rc.2 with ⟨h2, _⟩ | ⟨g2, cap2, cur, h2, h3, h4, h5, h6, h7, h8⟩
  · cases h2
  · have hg : g2 = b := by injection h2 with h2; injection h2 with h2; injection h2 with h2; exact h2.symm
    subst hg
    have hc : Blk w g2 3 cur := h4
    refine ⟨by simp, Or.inr ⟨g2, cap2, cur.setIfInBounds k (.int .i64 c), h2, h3, hc.set_ k _, h5, h6, by simpa using h7, ?_⟩⟩
    rw [Array.toList_setIfInBounds, List.take_set, h8, List.map_set]
    rfl

set_option maxRecDepth 100000 in
set_option maxHeartbeats 2000000 in
theorem WRsv_arg (N g : Nat) (c : Int) (hc : ¬ (1 ≤ c ∧ c ≤ 3)) (w : World) :
    Calls Tryz.prog 24 #[.pointer (some ⟨g, 0, none⟩), .int .i64 c] w fun e w' => e = .returned (.tuple #[.int .u64 0, .int .i64 2]) ∧ w = w' := by
  by_cases h1 : c < 1
  · have e1 : decide (c < 1) = true := decide_eq_true h1
    go_enter Tryz.func24, Tryz.ntmps24
    go_wp2
    go_ret2
    exact ⟨rfl, rfl⟩
  · have e1 : decide (c < 1) = false := decide_eq_false h1
    have e2 : decide (c > 3) = true := decide_eq_true (by omega)
    go_enter Tryz.func24, Tryz.ntmps24
    go_wp2
    go_ret2
    exact ⟨rfl, rfl⟩

structure RsvWP (w : World) (N g : Nat) (size : Int) (cs : List Int) (ls : List (Int × Int)) (vC vL : Value) (c n : Nat) (e : Ending) (w' : World) : Prop where
  out : ∃ a x cs' ls' vL', RsvW cs ls c n a x cs' ls' ∧ e = .returned (.tuple #[.int .u64 a, .int .i64 x]) ∧ WorldIs w' N g size cs' ls' vC vL' ∧ Only (g :: vC.ownBlock.toList) w w' ∧ ∀ k, vL'.ownBlock = some k → vL.ownBlock = some k ∨ w.heap.size ≤ k
set_option maxRecDepth 100000 in
set_option maxHeartbeats 4000000 in
theorem WRsv_r (N g : Nat) (size : Int) (cs : List Int) (ls : List (Int × Int)) (vC vL : Value) (c n : Nat) (w : World) (h : WorldIs w N g size cs ls vC vL) (hN : N ≤ w.heap.size) (hc : 1 ≤ c ∧ c ≤ 3) (hl : ls.length ≤ 100000) (hn : n = cs.length) (hk : n ≤ 64) :
    Calls Tryz.prog 24 #[.pointer (some ⟨g, 0, none⟩), .int .i64 (c : Int)] w fun e w' => RsvWP w N g size cs ls vC vL c n e w' := by
  have hgl := h.blk.lt
  have HBZ := hid (RBlocks_z (c : Int))
  have hnb := nb_eq c
  have hnl := nb_le c
  obtain ⟨m, hm⟩ : ∃ m, m = nb c := ⟨_, rfl⟩
  rw [← hm] at hnb hnl
  rw [← hnb] at HBZ
  have c0 : (0 : Int) ≤ (c : Int) := by omega
  have c1 : decide ((c : Int) < 1) = false := decide_eq_false (by omega)
  have c3 : decide ((c : Int) > 3) = false := decide_eq_false (by omega)
  have y1 : w.cell? ⟨g, 1, none⟩ = some vC := h.blk.cell 1
  have hat : ∃ bo cap, vC = .slice bo n cap ∧ ∀ i x, cs[i]? = some x → ∃ b, bo = some ⟨b, 0, none⟩ ∧ w.cell? ⟨b, i, none⟩ = some (.int .i64 x) := by
    rcases h.clsAt' with ⟨rfl, rfl⟩ | ⟨b, cap, rfl, hat⟩
    · exact ⟨none, 0, by rw [hn]; rfl, fun i x hx => by cases hx⟩
    · exact ⟨some ⟨b, 0, none⟩, cap, by rw [hn], fun i x hx => ⟨b, rfl, hat i x hx⟩⟩
  obtain ⟨bo, cap, rfl, hat⟩ := hat
  have H := hid h
  have HL := hid hl
  have HM := hid hm
  have HN := hid hn
  have HCC := hid hc
  have HG := hid hgl
  have HNN := hid hN
  have HAT := hid hat
  clear hat h hl hm hn hc hgl hN
  go_enter Tryz.func24, Tryz.ntmps24
  go_wp2
  go_loopw [6, 7, 8] (fun i _ _ wr => ∃ k : Nat, k ≤ n ∧ i = .int .i64 ((k : Int) + 1) ∧ Hid (Below w.heap.size w wr) ∧ Hid (NoFree cs ls c k 0)) (fun i _ _ _ => (n + 1 - (intOf i).toNat))
  case atStart => exact ⟨0, Nat.zero_le _, rfl, Below.refl _ _, ⟨fun i' _ h => by omega, fun j' h => by omega⟩⟩
  case round =>
    obtain ⟨k, hk2, rfl, hB, hNF⟩ := hrel
    have y2 : wr.cell? ⟨g, 1, none⟩ = some (.slice bo n cap) := (hB.out.cell (p := ⟨g, 1, none⟩) HG.out).trans y1
    by_cases hlt : k < n
    · have i1 : (k : Int) + 1 ≤ (n : Int) := by omega
      have HLT := hid hlt
      clear hlt
      go_wp2
      go_loopw [7, 8] (fun jj _ wq => ∃ j : Nat, j ≤ m ∧ jj = .int .i64 (j : Int) ∧ Hid (Below w.heap.size w wq) ∧ Hid (NoFree cs ls c k j)) (fun jj _ _ => (m - (intOf jj).toNat))
      case atStart => exact ⟨0, Nat.zero_le _, rfl, hB, hNF⟩
      case round =>
        obtain ⟨j, hj, rfl, hBq, hNq⟩ := hrel
        go_wp2_with fail
        refine (HBZ.out _).mono ?_
        rintro e w3 ⟨rfl, rfl⟩
        by_cases hjl : j < m
        · have j1 : (j : Int) < (m : Int) := by omega
          have HJL := hid hjl
          obtain ⟨q, hq⟩ : ∃ q, cs[k]? = some q := ⟨_, List.getElem?_eq_getElem (by rw [← HN.out]; exact HLT.out)⟩
          obtain ⟨b, rfl, z1⟩ := HAT.out k q hq
          have y3 : wr.cell? ⟨g, 1, none⟩ = some (.slice (some ⟨b, 0, none⟩) n cap) := (hBq.out.cell (p := ⟨g, 1, none⟩) HG.out).trans y1
          have y4 : wr.cell? ⟨b, k, none⟩ = some (.int .i64 q) := (hBq.out.cell (p := ⟨b, k, none⟩) (World.block_lt_of_cell? w _ z1)).trans z1
          have k1 : (k : Int) + 1 - 1 = (k : Int) := by omega
          have k0 : (0 : Int) ≤ (k : Int) := by omega
          have k2 : (k : Int) < (n : Int) := by omega
          have HGD := hid (show cs.getD k 0 = q by rw [List.getD_eq_getElem?_getD, hq]; rfl)
          have HIS := hid (WIs_r N g size cs ls _ vL (blockZ ((k : Int) + 1) c j) wr (H.out.bel hBq.out) (by have := HL.out; omega))
          have HBK := hid (RBlock_z ((k : Int) + 1) (c : Int) (j : Int) wr)
          have HST := hid (WSet_r N g size cs ls _ vL (blockZ ((k : Int) + 1) c j) 1 wr (H.out.bel hBq.out) (Nat.le_trans HNN.out hBq.out.size) HL.out)
          obtain ⟨I, hI⟩ : ∃ I, I = isGet ls (blockZ ((k : Int) + 1) c j) := ⟨_, rfl⟩
          obtain ⟨A, hA⟩ : ∃ A, A = blockZ ((k : Int) + 1) c j := ⟨_, rfl⟩
          rw [← hA] at hI HIS HBK HST
          rw [← hI] at HIS
          have HI := hid hI
          have HA := hid hA
          clear hq z1 hA hI hjl
          by_cases qc : q = (c : Int)
          · have e0 : (q == (c : Int)) = true := by simp [qc]
            have HQ := hid qc
            clear qc
            go_wp2_with fail
            refine HBK.out.mono ?_
            rintro e w4 ⟨rfl, rfl⟩
            go_wp2_with fail
            refine HIS.out.mono ?_
            rintro e w4 ⟨rfl, rfl⟩
            by_cases hI0 : I = 0
            · have e1 : (I == 0) = true := by simp [hI0]
              have HI0 := hid hI0
              clear hI0
              go_wp2_with fail
              refine HST.out.mono ?_
              rintro e w4 ⟨⟨r, rfl⟩, vL', s1, s2, s3⟩
              have S := hid (⟨s1, s2, s3⟩ : _ ∧ _ ∧ _)
              clear s1 s2 s3
              go_wp2
              go_ret2
              refine RsvWP.mk ⟨_, _, cs, _, vL', RsvW.old k j HLT.out (by rw [← HM.out]; exact HJL.out) (HGD.out.trans HQ.out) (by rw [← HA.out, ← HI.out]; exact HI0.out) hNq.out, by rw [← HA.out]; rfl, by rw [← HA.out]; exact S.out.1, ?_, fun x hx => Or.inr (Nat.le_trans hBq.out.size (S.out.2.2 x hx))⟩
              exact (Only.of_below hBq.out _).trans S.out.2.1 (fun x hx => Or.inl (by obtain rfl := List.mem_singleton.1 hx; simp))
            · have e1 : (I == 0) = false := by simp [hI0]
              have HI0 := hid hI0
              clear hI0
              go_wp2
              go_roundw
              case rel => exact ⟨j + 1, by have := HJL.out; omega, by go_num, hBq.out, hNq.out.next (fun _ => by rw [← HA.out, ← HI.out]; exact HI0.out)⟩
              case measure => simp [intOf]; have := HJL.out; omega
          · have e0 : (q == (c : Int)) = false := by simp [qc]
            have HQ := hid qc
            clear qc
            go_wp2
            go_roundw
            case rel => exact ⟨k + 1, by have := HLT.out; omega, by go_num, hBq.out, hNq.out.slab (Or.inr (by rw [HGD.out]; exact HQ.out))⟩
            case measure => simp [intOf]; have := HLT.out; omega
        · obtain rfl : j = m := by omega
          have hjf : ¬ (j : Int) < (j : Int) := by omega
          go_wp2
          go_roundw
          case rel => exact ⟨k + 1, by have := HLT.out; omega, by go_num, hBq.out, hNq.out.slab (Or.inl (by rw [← HM.out]; exact Nat.le_refl _))⟩
          case measure => simp [intOf]; have := HLT.out; omega
    · obtain rfl : k = n := by omega
      have hkf : ¬ (k : Int) + 1 ≤ (k : Int) := by omega
      go_wp2
      clear y2 hkf
      go_loopw [9, 10] (fun i _ wq => ∃ k2 : Nat, k2 ≤ k ∧ i = .int .i64 ((k2 : Int) + 1) ∧ Hid (Below w.heap.size w wq) ∧ Hid (∀ k', k' < k2 → cs.getD k' 0 ≠ 0)) (fun i _ _ => (k + 1 - (intOf i).toNat))
      case atStart => exact ⟨0, Nat.zero_le _, rfl, hB, fun k' h => by omega⟩
      case round =>
        obtain ⟨k2, hk3, rfl, hB, hF⟩ := hrel
        have y2 : wr.cell? ⟨g, 1, none⟩ = some (.slice bo k cap) := (hB.out.cell (p := ⟨g, 1, none⟩) HG.out).trans y1
        by_cases hlt : k2 < k
        · have i1 : (k2 : Int) + 1 ≤ (k : Int) := by omega
          obtain ⟨q, hq⟩ : ∃ q, cs[k2]? = some q := ⟨_, List.getElem?_eq_getElem (by rw [← HN.out]; exact hlt)⟩
          obtain ⟨b, rfl, z1⟩ := HAT.out k2 q hq
          have y4 : wr.cell? ⟨b, k2, none⟩ = some (.int .i64 q) := (hB.out.cell (p := ⟨b, k2, none⟩) (World.block_lt_of_cell? w _ z1)).trans z1
          have k1 : (k2 : Int) + 1 - 1 = (k2 : Int) := by omega
          have k0 : (0 : Int) ≤ (k2 : Int) := by omega
          have k9 : (k2 : Int) < (k : Int) := by omega
          have HGD := hid (show cs.getD k2 0 = q by rw [List.getD_eq_getElem?_getD, hq]; rfl)
          have HLT := hid hlt
          clear hq z1 hlt
          by_cases q0 : q = 0
          · have e0 : (q == 0) = true := by simp [q0]
            have HQ := hid q0
            obtain ⟨s1, s2⟩ := (H.out.bel hB.out).setC HN.out k2 (c : Int) HLT.out
            have yf : wr.frozen? ⟨b, k2, none⟩ = false := by
              rcases (H.out.bel hB.out).rc.2 with ⟨h2, _⟩ | ⟨g2, cap2, cur, h2, h3, h4, h5, h6, h7, h8⟩
              · cases h2
              · have hg : g2 = b := by injection h2 with h2; injection h2 with h2; injection h2 with h2; exact h2.symm
                subst hg
                have hc : Blk wr g2 3 cur := h4
                exact hc.frozen k2
            have HS := hid (⟨s1, s2⟩ : _ ∧ _)
            clear q0 s1 s2
            go_wp2_with fail
            generalize wr.setCell ⟨b, k2, none⟩ (.int .i64 (c : Int)) = W2 at HS ⊢
            refine (RBlock_z ((k2 : Int) + 1) (c : Int) 0 W2).mono ?_
            rintro e w4 ⟨rfl, rfl⟩
            have HST := hid (WSet_r N g size _ ls _ vL (blockZ ((k2 : Int) + 1) c (0 : Nat)) 1 W2 HS.out.1 (Nat.le_trans (Nat.le_trans HNN.out hB.out.size) HS.out.2.size) HL.out)
            obtain ⟨A, hA⟩ : ∃ A, A = blockZ ((k2 : Int) + 1) c (0 : Nat) := ⟨_, rfl⟩
            rw [show blockZ ((k2 : Int) + 1) (c : Int) 0 = A from hA.symm]
            rw [← hA] at HST
            have HA := hid hA
            clear hA
            go_wp2_with fail
            refine HST.out.mono ?_
            rintro e w5 ⟨⟨r, rfl⟩, vL', t1, t2, t3⟩
            have S := hid (⟨t1, t2, t3⟩ : _ ∧ _ ∧ _)
            clear t1 t2 t3
            go_wp2
            go_ret2
            refine RsvWP.mk ⟨_, _, _, _, vL', RsvW.new k2 HLT.out (HGD.out.trans HQ.out) hF.out hNF.out, by rw [← HA.out]; rfl, by rw [← HA.out]; exact S.out.1, ?_, fun x hx => Or.inr (Nat.le_trans (Nat.le_trans hB.out.size HS.out.2.size) (S.out.2.2 x hx))⟩
            refine ((Only.of_below hB.out _).trans HS.out.2 (fun x hx => Or.inl ?_)).trans S.out.2.1 (fun x hx => Or.inl ?_)
            · obtain rfl := List.mem_singleton.1 hx; simp [Value.ownBlock]
            · obtain rfl := List.mem_singleton.1 hx; simp
          · have e0 : (q == 0) = false := by simp [q0]
            have HQ := hid q0
            clear q0
            go_wp2
            go_roundw
            case rel => exact ⟨k2 + 1, by have := HLT.out; omega, by go_num, hB, fun k' hk' => by
              rcases Nat.lt_succ_iff_lt_or_eq.1 hk' with h1 | rfl
              · exact hF.out k' h1
              · rw [HGD.out]; exact HQ.out⟩
            case measure => simp [intOf]; have := HLT.out; omega
        · obtain rfl : k2 = k := by omega
          have hkf : ¬ (k2 : Int) + 1 ≤ (k2 : Int) := by omega
          go_wp2
          go_ret2
          exact RsvWP.mk ⟨_, _, cs, ls, vL, RsvW.full hF.out hNF.out, rfl, H.out.bel hB.out, Only.of_below hB.out _, fun x hx => Or.inl hx⟩

end Go.Proofs.YtbkaemajjaiklaaGreat
