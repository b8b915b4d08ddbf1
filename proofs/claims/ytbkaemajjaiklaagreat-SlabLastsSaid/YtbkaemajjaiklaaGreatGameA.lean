/- SlabPlays: a game: a memory, blocks, the document's, turns that go on; where all lies. -/
import Derived.Test.YtbkaemajjaiklaaGreatPlAA
import Derived.Test.YtbkaemajjaiklaaGreatPlN
import Derived.Test.YtbkaemajjaiklaaGreatPmW
import Derived.Test.YtbkaemajjaiklaaGreatAlikeN
import Derived.Test.YtbkaemajjaiklaaGreatSame

namespace Go.Proofs.YtbkaemajjaiklaaGreat
open Go.RowKit
set_option linter.unusedVariables false
set_option linter.unusedSimpArgs false

/-- a turn that goes on: its object, client, block, what that becomes, how many steps it did -/
structure TR where
  t : Nat
  cl : Nat
  a : Int
  tb : Int
  ph : Nat
def trC (x : TR) : List Value := [.pointer (some ⟨x.t, 0, none⟩), .int .u64 x.a, .int .i64 x.tb, .int .i64 (x.ph : Int)]
/-- which blocks play which part -/
def gF (gb m : Nat) (Q : MB) (M : MemS) (B : SB) (V : Nat → Value) (wd : Nat) (vC vL vT : Value) (T : List TR) (p : Nat) : List Nat :=
  if p = 0 then [gb] else if p = 1 then footM m Q M else if p = 2 then foot B V else if p = 3 then wd :: (vC.ownBlock.toList ++ vL.ownBlock.toList) else if p = 4 then vT.ownBlock.toList else if p = 5 then T.map (·.t) else []
/-- no block plays two parts, all are there -/
structure Sep (w : World) (F : Nat → List Nat) : Prop where
  one : ∀ p q k, k ∈ F p → k ∈ F q → p = q
  lt : ∀ p k, k ∈ F p → k < w.heap.size
/-- one part turned -/
theorem Sep.turn {w w' : World} {F F' : Nat → List Nat} (h : Sep w F) (p : Nat) (hs : w.heap.size ≤ w'.heap.size) (ho : ∀ q, q ≠ p → ∀ k ∈ F' q, k ∈ F q) (hp : ∀ k ∈ F' p, (k ∈ F p ∨ w.heap.size ≤ k) ∧ k < w'.heap.size) : Sep w' F' := by
  refine ⟨fun a b k ha hb => ?_, fun a k ha => ?_⟩
  · by_cases ea : a = p
    · by_cases eb : b = p
      · rw [ea, eb]
      · have h1 := ho b eb k hb
        rw [ea] at ha
        rcases (hp k ha).1 with h2 | h2
        · rw [ea]; exact h.one _ _ k h2 h1
        · have := h.lt b k h1; omega
    · have h1 := ho a ea k ha
      by_cases eb : b = p
      · rw [eb] at hb
        rcases (hp k hb).1 with h2 | h2
        · rw [eb]; exact h.one _ _ k h1 h2
        · have := h.lt a k h1; omega
      · exact h.one _ _ k h1 (ho b eb k hb)
  · by_cases ea : a = p
    · rw [ea] at ha; exact (hp k ha).2
    · have := h.lt a k (ho a ea k ha); omega
theorem Sep.mono {w w' : World} {F : Nat → List Nat} (h : Sep w F) (hs : w.heap.size ≤ w'.heap.size) : Sep w' F := ⟨h.one, fun p k hk => Nat.lt_of_lt_of_le (h.lt p k hk) hs⟩
/-- what a game says, plainly -/
structure GA where
  ma : MA
  A : SA
  cs : List Int
  ls : List (Int × Int)
  T : List TR
/-- a turn fits what its block is -/
def TurnFits (ls : List (Int × Int)) (x : TR) : Prop := x.ph < 4 ∧ x.cl ≤ 64 ∧ (x.tb = 2 ∧ isGet ls x.a = 4 ∨ x.tb = 0 ∧ isGet ls x.a = 3)
/-- where a game lies -/
structure GL where
  gb : Nat
  m : Nat
  Q : MB
  M : MemS
  B : SB
  V : Nat → Value
  wd : Nat
  vC : Value
  vL : Value
  vT : Value
def GL.F (l : GL) (T : List TR) : Nat → List Nat := gF l.gb l.m l.Q l.M l.B l.V l.wd l.vC l.vL l.vT T
structure GameIs (w : World) (N n K : Nat) (l : GL) (g : GA) : Prop where
  gblk : Blk w l.gb 55 #[.pointer (some ⟨l.m, 0, none⟩), .pointer (some ⟨l.B.s, 0, none⟩), .pointer (some ⟨l.wd, 0, none⟩), l.vT]
  work : Work w N l.B l.V g.A n l.m l.Q l.M K
  ma : absM l.M = g.ma
  wo : WorldIs w N l.wd ((8 * l.M.view.length : Nat) : Int) g.cs g.ls l.vC l.vL
  al : Alike g.A n g.cs g.ls
  hp : ∀ d, HeapL (g.A.fr d)
  bits : ∀ i, ∃ b : Nat, b < 18446744073709551616 ∧ (g.A.hd.getD i (0, 0)).2 = (b : Int)
  row : w.ownsRow N 179 4 l.vT g.T.length (g.T.flatMap trC)
  ts : ∀ x ∈ g.T, Blk w x.t 162 (turnC l.B.s l.m x.t x.cl x.a x.tb x.ph)
  fits : ∀ x ∈ g.T, TurnFits g.ls x
  ta : (g.T.map (·.a)).Nodup
  tt : (g.T.map (·.t)).Nodup
  sep : Sep w (l.F g.T)
  n6 : n ≤ 6
  gN : N ≤ l.gb
  loM : ∀ k ∈ footM l.m l.Q l.M, N ≤ k
  loT : ∀ x ∈ g.T, N ≤ x.t
theorem GameIs.bel {w w' : World} {N n K : Nat} {l : GL} {g : GA} (h : GameIs w N n K l g) (hb : Below w.heap.size w w') : GameIs w' N n K l g := by
  have ho : Only [] w w' := Only.of_below hb []
  exact ⟨ho.blk h.gblk (by simp), h.work.pre ho, h.ma, h.wo.bel hb, h.al, h.hp, h.bits, ho.own h.row (by simp), fun x hx => ho.blk (h.ts x hx) (by simp), h.fits, h.ta, h.tt, h.sep.mono ho.size, h.n6, h.gN, h.loM, h.loT⟩
/-- both say the same, in one memory -/
theorem GameIs.both {w : World} {N n K : Nat} {l : GL} {g : GA} (h : GameIs w N n K l g) : BothS w N l.B l.V ((8 * l.M.view.length : Nat) : Int) g.A n N l.wd g.cs g.ls l.vC l.vL := by
  have h1 := h.al.few h.n6
  have h2 : g.ls.length ≤ 50000 := by
    have hu := h.al.ul
    have := len_of_sub (g.ls.map (fun p : Int × Int => p.1)) hu (fun x hx => by
      obtain ⟨p, hp, rfl⟩ := List.mem_map.1 hx
      obtain ⟨_, _, i, j, c, h2, h3, h4, h5, _, h6⟩ := h.al.blk p hp
      have := h.n6
      exact ⟨i, c, j, by omega, h3, h6, h4, h5⟩)
    rw [List.length_map] at this
    omega
  exact ⟨h.work.sl, h.wo, h.al, h.work.hl, h.work.hn, h1.1, h2, h1.2⟩

end Go.Proofs.YtbkaemajjaiklaaGreat

/- SlabPlays: which block an act is of. -/
namespace Go.Proofs.YtbkaemajjaiklaaGreat
open Go.RowKit
set_option linter.unusedVariables false
set_option linter.unusedSimpArgs false

/-- which block an act is of -/
def blkG (ls : List (Int × Int)) (nn aa : Int) : Int := if 0 ≤ nn ∧ nn < (ls.length : Int) then (ls.getD nn.toNat (0, 0)).1 else aa
theorem WorldIs.rowL {w : World} {N g : Nat} {size : Int} {cs : List Int} {ls : List (Int × Int)} {vC vL : Value} (h : WorldIs w N g size cs ls vC vL) :
    ∃ bo cap, vL = .slice bo ls.length cap ∧ ∀ i x, ls[i]? = some x → ∃ b, bo = some ⟨b, 0, none⟩ ∧ w.cell? ⟨b, i * 2, none⟩ = some (.int .u64 x.1) ∧ w.cell? ⟨b, i * 2 + 1, none⟩ = some (.int .i64 x.2) := by
  rcases h.blkAt with ⟨rfl, rfl⟩ | ⟨b, cap, rfl, hat⟩
  · exact ⟨none, 0, rfl, fun i x hx => by cases hx⟩
  · exact ⟨some ⟨b, 0, none⟩, cap, rfl, fun i x hx => ⟨b, rfl, hat i x hx⟩⟩

set_option maxRecDepth 100000 in
set_option maxHeartbeats 1000000 in
theorem block_g (N n K : Nat) (l : GL) (g : GA) (kd nn aa cc : Int) (w : World) (h : GameIs w N n K l g) :
    Calls Tryz.prog 63 #[.pointer (some ⟨l.gb, 0, none⟩), .agg #[.int .i64 kd, .int .i64 nn, .int .u64 aa, .int .i64 cc]] w fun e w' => e = .returned (.int .u64 (blkG g.ls nn aa)) ∧ Below w.heap.size w w' := by
  obtain ⟨bo, cap, hvL, hat⟩ := h.wo.rowL
  obtain ⟨W, hW⟩ : ∃ W, W = w.alloc (.cells #[.int .i64 kd, .int .i64 nn, .int .u64 aa, .int .i64 cc] 45) := ⟨_, rfl⟩
  have hb : Below w.heap.size w W := by rw [hW]; exact ba (Below.refl _ _) _
  have hg := h.bel hb
  have bx : Blk W w.heap.size 45 #[.int .i64 kd, .int .i64 nn, .int .u64 aa, .int .i64 cc] := by rw [hW]; exact Blk.new _ _ _
  have y2 : W.cell? ⟨l.gb, 2, none⟩ = some (.pointer (some ⟨l.wd, 0, none⟩)) := hg.gblk.cell 2
  obtain ⟨m, hm⟩ : ∃ m, m = g.ls.length := ⟨_, rfl⟩
  have y3 : W.cell? ⟨l.wd, 2, none⟩ = some (.slice bo m cap) := by have := hg.wo.blk.cell 2; rw [hm, ← hvL]; exact this
  have z1 : W.cell? ⟨w.heap.size, 1, none⟩ = some (.int .i64 nn) := bx.cell 1
  have z2 : W.cell? ⟨w.heap.size, 2, none⟩ = some (.int .u64 aa) := bx.cell 2
  have HB := hid hb
  have HAT := hid (fun i x hx => (let ⟨b, e, c1, _⟩ := hat i x hx; ⟨b, e, (hb.cell (p := ⟨b, i * 2, none⟩) (World.block_lt_of_cell? w _ c1)).trans c1⟩ : ∃ b, bo = some ⟨b, 0, none⟩ ∧ W.cell? ⟨b, i * 2, none⟩ = some (.int .u64 x.1)))
  have HM := hid hm
  have HWE := hid hW
  have hfin : ∀ k x, x = blkG g.ls nn aa → (Ending.returned (Value.int .u64 x) = .returned (.int .u64 (blkG g.ls nn aa)) ∧ Below w.heap.size w (W.drewN k)) := fun k x hx => ⟨by rw [hx], hb.trans ((belN W k).mono hb.size)⟩
  have HF := hid hfin
  clear h hat hb hg bx hvL hm hW hfin
  by_cases c1 : m = 0
  · have e1 : ((m : Int) == 0) = true := by simp [c1]
    have HR := hid (show aa = blkG g.ls nn aa by unfold blkG; rw [if_neg]; have := HM.out; omega)
    clear c1
    go_enter Tryz.func63, Tryz.ntmps63
    go_upto_region 1 with fail
    rw [show w.alloc (.cells #[.int .i64 kd, .int .i64 nn, .int .u64 aa, .int .i64 cc] 45) = W from HWE.out.symm]
    go_quiet (fail)
    go_wp2
    go_ret
    exact HF.out _ _ HR.out
  · have e1 : ((m : Int) == 0) = false := by simp [c1]
    by_cases c2 : nn < 0
    · have e2 : decide (nn < 0) = true := decide_eq_true c2
      have HR := hid (show aa = blkG g.ls nn aa by unfold blkG; rw [if_neg]; omega)
      clear c1 c2
      go_enter Tryz.func63, Tryz.ntmps63
      go_upto_region 1 with fail
      rw [show w.alloc (.cells #[.int .i64 kd, .int .i64 nn, .int .u64 aa, .int .i64 cc] 45) = W from HWE.out.symm]
      go_quiet (fail)
      go_wp2
      go_ret
      exact HF.out _ _ HR.out
    · have e2 : decide (nn < 0) = false := decide_eq_false c2
      by_cases c3 : nn ≥ (m : Int)
      · have e3 : decide (nn ≥ (m : Int)) = true := decide_eq_true c3
        have HR := hid (show aa = blkG g.ls nn aa by unfold blkG; rw [if_neg]; have := HM.out; omega)
        clear c1 c2 c3
        go_enter Tryz.func63, Tryz.ntmps63
        go_upto_region 1 with fail
        rw [show w.alloc (.cells #[.int .i64 kd, .int .i64 nn, .int .u64 aa, .int .i64 cc] 45) = W from HWE.out.symm]
        go_quiet (fail)
        go_wp2
        go_ret
        exact HF.out _ _ HR.out
      · have e3 : decide (nn ≥ (m : Int)) = false := decide_eq_false c3
        obtain ⟨i, rfl⟩ : ∃ i : Nat, nn = (i : Int) := ⟨nn.toNat, by omega⟩
        obtain ⟨x, hx⟩ : ∃ x, g.ls[i]? = some x := ⟨_, List.getElem?_eq_getElem (by have := HM.out; omega)⟩
        obtain ⟨b, rfl, d1⟩ := HAT.out i x hx
        have i0 : (0 : Int) ≤ (i : Int) := by omega
        have i1 : (i : Int) < (m : Int) := by omega
        have HR := hid (show x.1 = blkG g.ls (i : Int) aa by
          unfold blkG
          rw [if_pos ⟨by omega, by have := HM.out; omega⟩, Int.toNat_natCast, List.getD_eq_getElem?_getD, hx]; rfl)
        clear c1 c2 c3 hx
        have HY := hid (fun k => (show (W.drewN k).cell? ⟨w.heap.size, 1, none⟩ = some (.int .i64 (i : Int)) from z1))
        go_enter Tryz.func63, Tryz.ntmps63
        go_upto_region 1 with fail
        rw [show w.alloc (.cells #[.int .i64 kd, .int .i64 (i : Int), .int .u64 aa, .int .i64 cc] 45) = W from HWE.out.symm]
        go_quiet (fail)
        go_upto_region 3 with fail
        go_quiet (fail)
        go_wp2
        go_ret
        exact ⟨(HF.out 0 _ HR.out).1, HB.out.trans ⟨rfl, rfl, rfl, Nat.le_refl _, fun _ _ => rfl⟩⟩

end Go.Proofs.YtbkaemajjaiklaaGreat

/- SlabPlays: a turn begun is told of. -/
namespace Go.Proofs.YtbkaemajjaiklaaGreat
open Go.RowKit
set_option linter.unusedVariables false
set_option linter.unusedSimpArgs false

attribute [local go_sem ↓ high] append_shut2
attribute [local go_sem] appM2_run

set_option maxRecDepth 100000 in
set_option maxHeartbeats 1000000 in
theorem start_bad (gb : Nat) (a cl was now tb : Int) (hc : ¬ (0 ≤ cl ∧ cl ≤ 64)) (w : World) :
    Calls Tryz.prog 66 #[.pointer (some ⟨gb, 0, none⟩), .int .u64 a, .int .i64 cl, .int .i64 was, .int .i64 now, .int .i64 tb, .pointer none, .int .i64 2] w fun e w' => e = .returned (.bool true) ∧ w = w' := by
  by_cases h1 : cl < 0
  · have d1 : decide (cl < 0) = true := decide_eq_true h1
    go_enter Tryz.func66, Tryz.ntmps66
    go_wp2
    go_ret
    exact ⟨rfl, rfl⟩
  · have d1 : decide (cl < 0) = false := decide_eq_false h1
    have d2 : decide (cl > 64) = true := decide_eq_true (by omega)
    go_enter Tryz.func66, Tryz.ntmps66
    go_wp2
    go_ret
    exact ⟨rfl, rfl⟩

set_option maxRecDepth 100000 in
set_option maxHeartbeats 1000000 in
theorem start_st (gb N wd : Nat) (size : Int) (cs : List Int) (ls : List (Int × Int)) (vC vL v0 v1 vT : Value) (a cl was now tb : Int) (hc : 0 ≤ cl ∧ cl ≤ 64) (w : World) (hg : Blk w gb 55 #[v0, v1, .pointer (some ⟨wd, 0, none⟩), vT]) (hw : WorldIs w N wd size cs ls vC vL) (hl : ls.length ≤ 1000000) (hs : isGet ls a ≠ was) :
    Calls Tryz.prog 66 #[.pointer (some ⟨gb, 0, none⟩), .int .u64 a, .int .i64 cl, .int .i64 was, .int .i64 now, .int .i64 tb, .pointer none, .int .i64 7] w fun e w' => e = .returned (.bool true) ∧ w = w' := by
  have d1 : decide (cl < 0) = false := decide_eq_false (by omega)
  have d2 : decide (cl > 64) = false := decide_eq_false (by omega)
  have y2 : w.cell? ⟨gb, 2, none⟩ = some (.pointer (some ⟨wd, 0, none⟩)) := hg.cell 2
  have HI := hid (WIs_r N wd size cs ls vC vL a w hw (by omega))
  obtain ⟨q, hq⟩ : ∃ q, q = isGet ls a := ⟨_, rfl⟩
  rw [← hq] at HI hs
  have e1 : (q != was) = true := by simpa using hs
  clear hg hw hs hq
  go_enter Tryz.func66, Tryz.ntmps66
  go_wp2_with fail
  refine HI.out.mono ?_
  rintro e w1 ⟨rfl, rfl⟩
  go_wp2
  go_ret
  exact ⟨rfl, rfl⟩

theorem info_turn : (Tryz.prog.info? 179).map (fun i => (i.zero, i.size, i.bytes)) = some (some (.agg #[.pointer none, .int .u64 0, .int .i64 0, .int .i64 0]), 4, 32) := by kernel_rfl
theorem app_turn (N : Nat) (W : World) (vT : Value) (T : List TR) (x : TR) (hx0 : x.ph = 0) (hr : W.ownsRow N 179 4 vT T.length (T.flatMap trC)) (hN : N ≤ W.heap.size) (hl : T.length ≤ 100000) :
    ∃ ao co w', appRun2 Tryz.prog #[53, 53] 53 #[vT, .slice (some ⟨W.heap.size, 0, none⟩) 1 1] (W.alloc (.cells #[.pointer (some ⟨x.t, 0, none⟩), .int .u64 x.a, .int .i64 x.tb, .int .i64 0] 179)) = .ok (.slice ao (T.length + 1) co) w' ∧
      w'.ownsRow N 179 4 (.slice ao (T.length + 1) co) (T ++ [x]).length ((T ++ [x]).flatMap trC) ∧ (W.alloc (.cells #[.pointer (some ⟨x.t, 0, none⟩), .int .u64 x.a, .int .i64 x.tb, .int .i64 0] 179)).grownBy w' vT.ownBlock ∧
      ((Value.slice ao (T.length + 1) co).ownBlock = vT.ownBlock ∨ (Value.slice ao (T.length + 1) co).ownBlock = some (W.alloc (.cells #[.pointer (some ⟨x.t, 0, none⟩), .int .u64 x.a, .int .i64 x.tb, .int .i64 0] 179)).heap.size) := by
  obtain ⟨i0, hi0, hz0, hz1, hz2⟩ := info_parts info_turn
  obtain ⟨W1, hW1⟩ : ∃ W1, W1 = W.alloc (.cells #[.pointer (some ⟨x.t, 0, none⟩), .int .u64 x.a, .int .i64 x.tb, .int .i64 0] 179) := ⟨_, rfl⟩
  have hr1 : W1.ownsRow N 179 4 vT T.length (T.flatMap trC) := by rw [hW1]; exact hr.alloc _
  have hx : NewsAt W1 (.slice (some ⟨W.heap.size, 0, none⟩) 1 1) 1 (trC x) := Or.inr ⟨W.heap.size, 0, 1, rfl, fun j u hj => by
    rw [hW1, (Blk.new W 179 #[.pointer (some ⟨x.t, 0, none⟩), .int .u64 x.a, .int .i64 x.tb, .int .i64 0]).cell (0 + j), Nat.zero_add]
    simpa [trC, hx0] using hj⟩
  have hs1 : N ≤ W1.heap.size := by rw [hW1]; simp; omega
  rw [← hW1]
  obtain ⟨v', w', q⟩ := run_app (P := Tryz.prog) W1 N 53 53 179 i0 _ 4 32 Tryz.underlying53 hi0 hz0 hz1 hz2 rfl (by decide) vT T.length _ hr1 _ 1 _ hx (by simp [trC]) (by
    intro u hu
    simp [trC] at hu
    rcases hu with rfl | rfl | rfl | rfl <;> rfl) (by unfold maxLen; omega) (by omega) hs1
  obtain ⟨ao, co, rfl⟩ := row_form1 q.own
  refine ⟨ao, co, w', q.run, ?_, q.grown, q.ob⟩
  have := q.own
  rw [List.flatMap_append, List.length_append]
  simpa using this
/-- a turn told of: the game behind it -/
structure StartOut (w : World) (N gb wd : Nat) (size : Int) (cs : List Int) (ls : List (Int × Int)) (v0 v1 vC vT : Value) (T : List TR) (x : TR) (now : Int) (w' : World) (vL' vT' : Value) : Prop where
  gblk : Blk w' gb 55 #[v0, v1, .pointer (some ⟨wd, 0, none⟩), vT']
  wo : WorldIs w' N wd size cs (setW ls x.a now) vC vL'
  row : w'.ownsRow N 179 4 vT' (T ++ [x]).length ((T ++ [x]).flatMap trC)
  only : Only (gb :: wd :: vT.ownBlock.toList) w w'
  nl : ∀ k, vL'.ownBlock = some k → w.heap.size ≤ k
  nt : ∀ k, vT'.ownBlock = some k → vT.ownBlock = some k ∨ w.heap.size ≤ k ∧ vL'.ownBlock ≠ some k

set_option maxRecDepth 100000 in
set_option maxHeartbeats 1000000 in
theorem start_ok (gb N wd : Nat) (size : Int) (cs : List Int) (ls : List (Int × Int)) (vC vL v0 v1 vT : Value) (T : List TR) (x : TR) (was now : Int) (hx0 : x.ph = 0) (hc : x.cl ≤ 64) (w : World) (hN : N ≤ w.heap.size)
    (hg : Blk w gb 55 #[v0, v1, .pointer (some ⟨wd, 0, none⟩), vT]) (hw : WorldIs w N wd size cs ls vC vL) (hr : w.ownsRow N 179 4 vT T.length (T.flatMap trC)) (hl : ls.length ≤ 100000) (hT : T.length ≤ 100000) (hs : isGet ls x.a = was)
    (n1 : gb ≠ wd) (n2 : vT.ownBlock ≠ some gb) (n3 : vT.ownBlock ≠ some wd) (n4 : vC.ownBlock ≠ some gb) (n5 : ∀ k, vT.ownBlock = some k → vC.ownBlock ≠ some k) :
    Calls Tryz.prog 66 #[.pointer (some ⟨gb, 0, none⟩), .int .u64 x.a, .int .i64 (x.cl : Int), .int .i64 was, .int .i64 now, .int .i64 x.tb, .pointer (some ⟨x.t, 0, none⟩), .int .i64 0] w fun e w' => e = .returned (.bool true) ∧ ∃ vL' vT', StartOut w N gb wd size cs ls v0 v1 vC vT T x now w' vL' vT' := by
  have d1 : decide ((x.cl : Int) < 0) = false := decide_eq_false (by omega)
  have d2 : decide ((x.cl : Int) > 64) = false := decide_eq_false (by omega)
  have y2 : w.cell? ⟨gb, 2, none⟩ = some (.pointer (some ⟨wd, 0, none⟩)) := hg.cell 2
  have HI := hid (WIs_r N wd size cs ls vC vL x.a w hw (by omega))
  rw [hs] at HI
  have e1 : (was != was) = false := by simp
  have HS := hid (WSet_r N wd size cs ls vC vL x.a now w hw hN hl)
  have H := hid (⟨hg, hw, hr⟩ : _ ∧ _ ∧ _)
  have HN := hid hN
  have HT := hid hT
  have HD := hid (⟨n1, n2, n3, n4, n5⟩ : _ ∧ _ ∧ _ ∧ _ ∧ _)
  clear hg hw hr hs hl hT n1 n2 n3 n4 n5 hN
  go_enter Tryz.func66, Tryz.ntmps66
  go_wp2_with fail
  refine HI.out.mono ?_
  rintro e w1 ⟨rfl, rfl⟩
  go_wp2_with fail
  refine HS.out.mono ?_
  rintro e w2 ⟨⟨r, rfl⟩, vL', s1, s2, s3⟩
  have g2 : Blk w2 gb 55 #[v0, v1, .pointer (some ⟨wd, 0, none⟩), vT] := s2.blk H.out.1 (by simpa using HD.out.1)
  have r2 : w2.ownsRow N 179 4 vT T.length (T.flatMap trC) := s2.own H.out.2.2 (fun k hk hm => HD.out.2.2.1 (by rw [hk, List.mem_singleton.1 hm]))
  obtain ⟨ao, co, w9, hrun, hown, hgr, hob⟩ := app_turn N w2 vT T x hx0 r2 (Nat.le_trans HN.out s2.size) HT.out
  have y3 : w2.cell? ⟨gb, 3, none⟩ = some vT := g2.cell 3
  have o9 : Only vT.ownBlock.toList (w2.alloc (.cells #[.pointer (some ⟨x.t, 0, none⟩), .int .u64 x.a, .int .i64 x.tb, .int .i64 0] 179)) w9 := Only.of_grown hgr (fun k hk => by simp [hk])
  have o29 : Only vT.ownBlock.toList w2 w9 := ((Only.refl vT.ownBlock.toList w2).alloc _).trans o9 (fun y hy => Or.inl hy)
  have g9 : Blk w9 gb 55 #[v0, v1, .pointer (some ⟨wd, 0, none⟩), vT] := o29.blk g2 (by simpa using HD.out.2.1)
  have y9 : w9.cell? ⟨gb, 3, none⟩ = some vT := g9.cell 3
  have f9 := g9.frozen 3
  obtain ⟨W, hW⟩ : ∃ W, W = w9.setCell ⟨gb, 3, none⟩ (.slice ao (T.length + 1) co) := ⟨_, rfl⟩
  have o3 : Only [gb] w9 W := by rw [hW]; exact (Only.refl _ _).setCell (Or.inl (by simp)) _
  have b3 : Blk W gb 55 #[v0, v1, .pointer (some ⟨wd, 0, none⟩), .slice ao (T.length + 1) co] := by rw [hW]; exact g9.set_ 3 _
  have hvT : ∀ k, (Value.slice ao (T.length + 1) co).ownBlock = some k → vT.ownBlock = some k ∨ w.heap.size ≤ k ∧ vL'.ownBlock ≠ some k ∧ k ≠ gb := by
    intro k hk
    rcases hob with e | e
    · exact Or.inl (by rw [← e]; exact hk)
    · rw [e] at hk
      injection hk with hk
      have h1 := s2.size
      have h2 : w2.heap.size ≤ k := by rw [← hk]; simp
      refine Or.inr ⟨by omega, fun hc => ?_, fun hc => ?_⟩
      · have := own_lt s1.rl k hc; omega
      · have := g2.lt; omega
  have hfin : StartOut w N gb wd size cs ls v0 v1 vC vT T x now W vL' (.slice ao (T.length + 1) co) := by
    have w2g := s1.only o29 (fun hm => HD.out.2.2.1 (by simpa using hm)) (fun k hk hm => HD.out.2.2.2.2 k (by simpa using hm) hk) (fun k hk hm => by
      have h1 := s3 k hk
      have h2 := own_lt H.out.2.2 k (by simpa using hm)
      omega)
    refine ⟨b3, w2g.only o3 (by simpa using fun e => HD.out.1 e.symm) (fun k hk hm => HD.out.2.2.2.1 (by rw [hk, List.mem_singleton.1 hm])) (fun k hk hm => by
      have h1 := s3 k hk
      have h2 := H.out.1.lt
      rw [List.mem_singleton.1 hm] at h1
      omega), o3.own hown (fun k hk hm => ?_), ?_, s3, fun k hk => (hvT k hk).imp id (fun hh => ⟨hh.1, hh.2.1⟩)⟩
    · obtain rfl := List.mem_singleton.1 hm
      rcases hvT _ hk with h1 | h1
      · exact HD.out.2.1 h1
      · exact h1.2.2 rfl
    · refine ((s2.mono (fun y hy => ?_)).trans o29 (fun y hy => Or.inl ?_)).trans o3 (fun y hy => Or.inl ?_)
      · obtain rfl := List.mem_singleton.1 hy; simp
      · simp [hy]
      · obtain rfl := List.mem_singleton.1 hy; simp
  have HF := hid hfin
  have HWE := hid hW
  clear s1 s2 s3 g2 r2 hown hgr hob o9 o29 g9 o3 b3 hvT hfin
  go_wp2
  go_ret
  rw [HWE.out] at HF
  exact ⟨rfl, vL', .slice ao (T.length + 1) co, HF.out⟩

end Go.Proofs.YtbkaemajjaiklaaGreat

/- SlabPlays: the game behind a turn begun. -/
namespace Go.Proofs.YtbkaemajjaiklaaGreat
open Go.RowKit
set_option linter.unusedVariables false
set_option linter.unusedSimpArgs false

theorem gF_mem {gb m : Nat} {Q : MB} {M : MemS} {B : SB} {V : Nat → Value} {wd : Nat} {vC vL vT : Value} {T : List TR} {p k : Nat} :
    k ∈ gF gb m Q M B V wd vC vL vT T p ↔ (p = 0 ∧ k = gb) ∨ (p = 1 ∧ k ∈ footM m Q M) ∨ (p = 2 ∧ k ∈ foot B V) ∨ (p = 3 ∧ (k = wd ∨ vC.ownBlock = some k ∨ vL.ownBlock = some k)) ∨ (p = 4 ∧ vT.ownBlock = some k) ∨ (p = 5 ∧ ∃ x ∈ T, x.t = k) := by
  unfold gF
  by_cases h0 : p = 0
  · subst h0; simp
  by_cases h1 : p = 1
  · subst h1; simp
  by_cases h2 : p = 2
  · subst h2; simp
  by_cases h3 : p = 3
  · subst h3; simp
  by_cases h4 : p = 4
  · subst h4; simp
  by_cases h5 : p = 5
  · subst h5; simp
  simp [h0, h1, h2, h3, h4, h5]
/-- parts turned: what is new lies in one part alone -/
theorem Sep.turns {w w' : World} {F F' : Nat → List Nat} (h : Sep w F) (hs : w.heap.size ≤ w'.heap.size) (hp : ∀ p, ∀ k ∈ F' p, (k ∈ F p ∨ w.heap.size ≤ k) ∧ k < w'.heap.size) (hn : ∀ p q k, w.heap.size ≤ k → k ∈ F' p → k ∈ F' q → p = q) : Sep w' F' := by
  refine ⟨fun a b k ha hb => ?_, fun a k ha => (hp a k ha).2⟩
  rcases (hp a k ha).1 with h1 | h1
  · rcases (hp b k hb).1 with h2 | h2
    · exact h.one a b k h1 h2
    · have := h.lt a k h1; omega
  · exact hn a b k h1 ha hb
section
variable {w : World} {N n K : Nat} {l : GL} {g : GA}
theorem GameIs.lo (h : GameIs w N n K l g) : ∀ p, ∀ k ∈ l.F g.T p, N ≤ k := by
  intro p k hk
  rcases gF_mem.1 hk with ⟨_, rfl⟩ | ⟨_, h1⟩ | ⟨_, h1⟩ | ⟨_, h1⟩ | ⟨_, h1⟩ | ⟨_, y, h1, rfl⟩
  · exact h.gN
  · exact h.loM k h1
  · obtain ⟨i, hi⟩ := foot_mem.1 h1
    exact h.work.sl.lo i k hi
  · rcases h1 with rfl | h1 | h1
    · exact h.wo.lo
    · exact own_base h.wo.rc k h1
    · exact own_base h.wo.rl k h1
  · exact own_base h.row k h1
  · exact h.loT y h1
theorem GameIs.no {p q k : Nat} (h : GameIs w N n K l g) (hp : k ∈ l.F g.T p) (hne : p ≠ q) : k ∉ l.F g.T q := fun hq => hne (h.sep.one p q k hp hq)
theorem GameIs.in0 (h : GameIs w N n K l g) : l.gb ∈ l.F g.T 0 := gF_mem.2 (Or.inl ⟨rfl, rfl⟩)
theorem GameIs.in1 (h : GameIs w N n K l g) {k : Nat} (hk : k ∈ footM l.m l.Q l.M) : k ∈ l.F g.T 1 := gF_mem.2 (Or.inr (Or.inl ⟨rfl, hk⟩))
theorem GameIs.in2 (h : GameIs w N n K l g) {k : Nat} (hk : k ∈ foot l.B l.V) : k ∈ l.F g.T 2 := gF_mem.2 (Or.inr (Or.inr (Or.inl ⟨rfl, hk⟩)))
theorem GameIs.in3 (h : GameIs w N n K l g) : l.wd ∈ l.F g.T 3 := gF_mem.2 (Or.inr (Or.inr (Or.inr (Or.inl ⟨rfl, Or.inl rfl⟩))))
theorem GameIs.in3C (h : GameIs w N n K l g) {k : Nat} (hk : l.vC.ownBlock = some k) : k ∈ l.F g.T 3 := gF_mem.2 (Or.inr (Or.inr (Or.inr (Or.inl ⟨rfl, Or.inr (Or.inl hk)⟩))))
theorem GameIs.in3L (h : GameIs w N n K l g) {k : Nat} (hk : l.vL.ownBlock = some k) : k ∈ l.F g.T 3 := gF_mem.2 (Or.inr (Or.inr (Or.inr (Or.inl ⟨rfl, Or.inr (Or.inr hk)⟩))))
theorem GameIs.in4 (h : GameIs w N n K l g) {k : Nat} (hk : l.vT.ownBlock = some k) : k ∈ l.F g.T 4 := gF_mem.2 (Or.inr (Or.inr (Or.inr (Or.inr (Or.inl ⟨rfl, hk⟩)))))
theorem GameIs.in5 (h : GameIs w N n K l g) {x : TR} (hx : x ∈ g.T) : x.t ∈ l.F g.T 5 := gF_mem.2 (Or.inr (Or.inr (Or.inr (Or.inr (Or.inr ⟨rfl, x, hx, rfl⟩)))))
/-- a block of one part is none of another's -/
theorem GameIs.ne {p q j k : Nat} (h : GameIs w N n K l g) (hj : j ∈ l.F g.T p) (hk : k ∈ l.F g.T q) (hne : p ≠ q) : j ≠ k := fun e => hne (h.sep.one p q j hj (e ▸ hk))
end

/-- a turn begun, and told of -/
theorem GameIs.begun {w w1 w2 : World} {N n K : Nat} {l : GL} {g : GA} (h : GameIs w N n K l g) (x : TR) (was now : Int) (hx0 : x.ph = 0) (hcl : x.cl ≤ 64) (hwas : isGet g.ls x.a = was) (hk : was = 1 ∧ now = 4 ∧ x.tb = 2 ∨ was = 2 ∧ now = 3 ∧ x.tb = 0)
    (ht : TurnOut w N l.B l.V ((8 * l.M.view.length : Nat) : Int) g.A l.m x.cl x.a now x.tb x.t w1) {vL' vT' : Value}
    (hs : StartOut w1 N l.gb l.wd ((8 * l.M.view.length : Nat) : Int) g.cs g.ls (.pointer (some ⟨l.m, 0, none⟩)) (.pointer (some ⟨l.B.s, 0, none⟩)) l.vC l.vT g.T x now w2 vL' vT') :
    GameIs w2 N n K { l with vL := vL', vT := vT' } { g with A := { g.A with is := isSet g.A.is x.a now }, ls := setW g.ls x.a now, T := g.T ++ [x] } := by
  have hbm : l.B.m ∈ foot l.B l.V := foot_mem.2 ⟨2, role_m _ _⟩
  have hm01 : Moved l.B l.V l.V w w1 := Moved.putM ht.only
  have hw1 : Work w1 N l.B l.V { g.A with is := isSet g.A.is x.a now } n l.m l.Q l.M K := h.work.moved ht.sl hm01 rfl
  have out : ∀ p k, k ∈ l.F g.T p → p ≠ 0 → p ≠ 3 → p ≠ 4 → k ∉ l.gb :: l.wd :: l.vT.ownBlock.toList := by
    intro p k hk h0 h3 h4 hm
    rcases List.mem_cons.1 hm with rfl | hm
    · exact h0 (h.sep.one _ _ _ hk h.in0)
    · rcases List.mem_cons.1 hm with rfl | hm
      · exact h3 (h.sep.one _ _ _ hk h.in3)
      · exact h4 (h.sep.one _ _ _ hk (h.in4 (by simpa using hm)))
  have hw2 : Work w2 N l.B l.V { g.A with is := isSet g.A.is x.a now } n l.m l.Q l.M K := hw1.only hs.only (fun k hk => out 1 k (h.in1 hk) (by decide) (by decide) (by decide)) (fun k hk => out 2 k (h.in2 hk) (by decide) (by decide) (by decide))
  have hne : isGet g.ls x.a ≠ 0 := by rw [hwas]; rcases hk with ⟨rfl, _⟩ | ⟨rfl, _⟩ <;> decide
  have hnow : 1 ≤ now ∧ now ≤ 4 := by rcases hk with ⟨_, rfl, _⟩ | ⟨_, rfl, _⟩ <;> decide
  have hold : ∀ y ∈ g.T, y.a ≠ x.a := by
    intro y hy e
    have := (h.fits y hy).2.2
    rw [e, hwas] at this
    rcases this with ⟨_, h1⟩ | ⟨_, h1⟩ <;> rcases hk with ⟨h2, _⟩ | ⟨h2, _⟩ <;> omega
  have hnewt : ∀ y ∈ g.T, y.t ≠ x.t := fun y hy e => by
    have h1 := h.sep.lt 5 y.t (h.in5 hy)
    have h2 := ht.new
    omega
  have hs1 := ht.only.size
  have hs2 := hs.only.size
  refine ⟨hs.gblk, hw2, h.ma, hs.wo, h.al.setTo hne hnow, h.hp, h.bits, hs.row, fun y hy => ?_, fun y hy => ?_, ?_, ?_, ?_, h.n6, h.gN, h.loM, fun y hy => (List.mem_append.1 hy).elim (h.loT y) (fun h1 => by rw [List.mem_singleton.1 h1]; exact Nat.le_trans (Nat.le_trans h.gN (Nat.le_of_lt h.gblk.lt)) ht.new)⟩
  · rcases List.mem_append.1 hy with h1 | h1
    · have b0 := h.ts y h1
      have b1 := ht.only.blk b0 (fun hm => h.no (h.in5 h1) (by decide : (5 : Nat) ≠ 2) (h.in2 (by rw [List.mem_singleton.1 hm]; exact hbm)))
      exact hs.only.blk b1 (out 5 y.t (h.in5 h1) (by decide) (by decide) (by decide))
    · obtain rfl := List.mem_singleton.1 h1
      refine hs.only.blk (by rw [hx0]; exact ht.blk) (fun hm => ?_)
      have hlt : ∀ k, k ∈ l.gb :: l.wd :: l.vT.ownBlock.toList → k < w.heap.size := by
        intro k hk
        rcases List.mem_cons.1 hk with rfl | hk
        · exact h.sep.lt _ _ h.in0
        · rcases List.mem_cons.1 hk with rfl | hk
          · exact h.sep.lt _ _ h.in3
          · exact h.sep.lt _ _ (h.in4 (by simpa using hk))
      have := hlt _ hm
      have := ht.new
      omega
  · rcases List.mem_append.1 hy with h1 | h1
    · obtain ⟨f1, f2, f3⟩ := h.fits y h1
      refine ⟨f1, f2, ?_⟩
      show y.tb = 2 ∧ isGet (setW g.ls x.a now) y.a = 4 ∨ y.tb = 0 ∧ isGet (setW g.ls x.a now) y.a = 3
      rw [isGet_setW, if_neg (hold y h1)]
      exact f3
    · obtain rfl := List.mem_singleton.1 h1
      refine ⟨by omega, hcl, ?_⟩
      show y.tb = 2 ∧ isGet (setW g.ls y.a now) y.a = 4 ∨ y.tb = 0 ∧ isGet (setW g.ls y.a now) y.a = 3
      rw [isGet_setW, if_pos rfl]
      rcases hk with ⟨_, h1, h2⟩ | ⟨_, h1, h2⟩
      · exact Or.inl ⟨h2, h1⟩
      · exact Or.inr ⟨h2, h1⟩
  · show ((g.T ++ [x]).map (·.a)).Nodup
    rw [List.map_append, List.nodup_append]
    refine ⟨h.ta, by simp, fun u hu v hv => ?_⟩
    obtain ⟨y, hy, rfl⟩ := List.mem_map.1 hu
    simp at hv
    rw [hv]; exact hold y hy
  · show ((g.T ++ [x]).map (·.t)).Nodup
    rw [List.map_append, List.nodup_append]
    refine ⟨h.tt, by simp, fun u hu v hv => ?_⟩
    obtain ⟨y, hy, rfl⟩ := List.mem_map.1 hu
    simp at hv
    rw [hv]; exact hnewt y hy
  · have hxt : x.t < w1.heap.size := ht.blk.lt
    refine h.sep.turns (by omega) (fun p k hk => ?_) (fun p q k hf hp hq => ?_)
    · rcases gF_mem.1 hk with ⟨rfl, rfl⟩ | ⟨rfl, h1⟩ | ⟨rfl, h1⟩ | ⟨rfl, h1⟩ | ⟨rfl, h1⟩ | ⟨rfl, y, h1, rfl⟩
      · have := h.sep.lt _ _ h.in0; exact ⟨Or.inl h.in0, Nat.lt_of_lt_of_le this (by omega)⟩
      · have := h.sep.lt _ _ (h.in1 h1); exact ⟨Or.inl (h.in1 h1), by omega⟩
      · have := h.sep.lt _ _ (h.in2 h1); exact ⟨Or.inl (h.in2 h1), by omega⟩
      · rcases h1 with rfl | h1 | h1
        · have := h.sep.lt _ _ h.in3; exact ⟨Or.inl h.in3, Nat.lt_of_lt_of_le this (by omega)⟩
        · have := h.sep.lt _ _ (h.in3C h1); exact ⟨Or.inl (h.in3C h1), by omega⟩
        · have := hs.nl k h1; exact ⟨Or.inr (by omega), own_lt hs.wo.rl k h1⟩
      · refine ⟨?_, own_lt hs.row k h1⟩
        rcases hs.nt k h1 with h2 | h2
        · exact Or.inl (h.in4 h2)
        · exact Or.inr (by omega)
      · rcases List.mem_append.1 h1 with h2 | h2
        · have := h.sep.lt _ _ (h.in5 h2); exact ⟨Or.inl (h.in5 h2), by omega⟩
        · obtain rfl := List.mem_singleton.1 h2
          exact ⟨Or.inr ht.new, by omega⟩
    · have key : ∀ p, k ∈ gF l.gb l.m l.Q l.M l.B l.V l.wd l.vC vL' vT' (g.T ++ [x]) p → p = 3 ∧ vL'.ownBlock = some k ∨ p = 4 ∧ vT'.ownBlock = some k ∧ w1.heap.size ≤ k ∧ vL'.ownBlock ≠ some k ∨ p = 5 ∧ k = x.t := by
        intro p hk
        rcases gF_mem.1 hk with ⟨rfl, rfl⟩ | ⟨rfl, h1⟩ | ⟨rfl, h1⟩ | ⟨rfl, h1⟩ | ⟨rfl, h1⟩ | ⟨rfl, y, h1, rfl⟩
        · have := h.sep.lt _ _ h.in0; omega
        · have := h.sep.lt _ _ (h.in1 h1); omega
        · have := h.sep.lt _ _ (h.in2 h1); omega
        · rcases h1 with rfl | h1 | h1
          · have := h.sep.lt _ _ h.in3; omega
          · have := h.sep.lt _ _ (h.in3C h1); omega
          · exact Or.inl ⟨rfl, h1⟩
        · rcases hs.nt k h1 with h2 | h2
          · have := h.sep.lt _ _ (h.in4 h2); omega
          · exact Or.inr (Or.inl ⟨rfl, h1, h2.1, h2.2⟩)
        · rcases List.mem_append.1 h1 with h2 | h2
          · have := h.sep.lt _ _ (h.in5 h2); omega
          · obtain rfl := List.mem_singleton.1 h2
            exact Or.inr (Or.inr ⟨rfl, rfl⟩)
      rcases key p hp with ⟨rfl, a1⟩ | ⟨rfl, a1, a2, a3⟩ | ⟨rfl, a1⟩ <;> rcases key q hq with ⟨rfl, b1⟩ | ⟨rfl, b1, b2, b3⟩ | ⟨rfl, b1⟩ <;> first | rfl | (exfalso; first | exact b3 a1 | exact a3 b1 | (have := hs.nl k a1; omega) | (have := hs.nl k b1; omega) | omega)

end Go.Proofs.YtbkaemajjaiklaaGreat

/- SlabPlays: Reserve of a class that is none; the game behind Reserve. -/
namespace Go.Proofs.YtbkaemajjaiklaaGreat
open Go.RowKit
set_option linter.unusedVariables false
set_option linter.unusedSimpArgs false

set_option maxRecDepth 100000 in
set_option maxHeartbeats 1000000 in
theorem Reserve_arg (N : Nat) (B : SB) (V : Nat → Value) (size : Int) (A : SA) (c : Int) (n : Nat) (w : World) (h : SlabIs w N B V size A) (hl : A.hd.length = 1 + n) (hn : 1 ≤ n ∧ n ≤ 64) (hc : ¬ (1 ≤ c ∧ c ≤ 3)) :
    Calls Tryz.prog 23 #[.pointer (some ⟨B.s, 0, none⟩), .int .i64 c] w fun e w' => e = .returned (.tuple #[.int .u64 0, .int .i64 2]) ∧ Below w.heap.size w w' := by
  have hT := sthere_z _ n w (HasSlabs.of h hl hn)
  rw [decide_eq_true (show 0 < n by omega)] at hT
  have HT := hid hT
  have hBz := Blocks_z c
  have hz : blocksZ c = 0 := by unfold blocksZ; rw [if_neg (by omega), if_neg (by omega), if_neg (by omega)]
  rw [hz] at hBz
  have HBZ := hid hBz
  clear h hT hBz hz hl hn hc
  go_enter Tryz.func23, Tryz.ntmps23
  go_wp2_with fail
  refine (HT.out).mono ?_
  rintro e w1 ⟨rfl, rfl⟩
  go_wp2_with fail
  refine (HBZ.out w).mono ?_
  rintro e w1 ⟨rfl, hb1⟩
  have HB := hid hb1
  clear hb1
  go_wp2
  go_ret2
  exact ⟨rfl, HB.out⟩

/-- what was reserved was free -/
theorem Alike.rsvFree {A : SA} {n : Nat} {cs cs' : List Int} {ls ls' : List (Int × Int)} {c : Nat} {a x : Int} (h : Alike A n cs ls) (hn : n ≤ 64) (hc : 1 ≤ c ∧ c ≤ 3) (hr : RsvW cs ls c n a x cs' ls') : ls' = ls ∨ ls' = setW ls a 1 ∧ isGet ls a = 0 := by
  cases hr with
  | old k j hk hj hcs h0 hno => exact Or.inr ⟨rfl, h0⟩
  | new k hk h0 hf hno =>
    refine Or.inr ⟨rfl, ?_⟩
    apply Classical.byContradiction
    intro hne
    obtain ⟨i, j', c', h1, h2, h3, h4, h5, h6⟩ := h.blkOf hne
    have := block_same (by omega) (by omega) hc ⟨h3, h4⟩ (nb_pos hc) h2 h6
    subst this
    rw [h0] at h5
    omega
  | full hf hno => exact Or.inl rfl
theorem takeSA_heap {A : SA} {c : Nat} (h : ∀ d, HeapL (A.fr d)) (h0 : A.fr c ≠ []) : ∀ d, HeapL ((takeSA A c).fr d) := upd_heap h c (popL_heap (h c) h0)
theorem giveSA_bits (A : SA) (i c : Nat) (h : ∀ i, ∃ b : Nat, b < 18446744073709551616 ∧ (A.hd.getD i (0, 0)).2 = (b : Int)) : ∀ j, ∃ b : Nat, b < 18446744073709551616 ∧ ((giveSA A i c).hd.getD j (0, 0)).2 = (b : Int) := by
  intro j
  unfold giveSA
  rw [giveTo_hd]
  by_cases e : j = i
  · subst e
    by_cases hl : j < A.hd.length
    · obtain ⟨b, h1, h2⟩ := h j
      refine ⟨b, h1, ?_⟩
      rw [List.getD_eq_getElem?_getD, List.getElem?_set_self hl]
      exact h2
    · rw [List.set_eq_of_length_le (Nat.le_of_not_lt hl)]; exact h j
  · rw [List.getD_eq_getElem?_getD, List.getElem?_set_ne (Ne.symm e), ← List.getD_eq_getElem?_getD]; exact h j
/-- the blocks turned, and the document's: the game stands, whatever they say by then -/
theorem GameIs.turned {w w1 w2 : World} {N n K : Nat} {l : GL} {g : GA} (h : GameIs w N n K l g) {A' : SA} {V' : Nat → Value} (hs : SlabIs w1 N l.B V' ((8 * l.M.view.length : Nat) : Int) A') (hm : Moved l.B l.V V' w w1) (hl : A'.hd.length = g.A.hd.length)
    {cs' : List Int} {ls' : List (Int × Int)} {vL' : Value} (hw : WorldIs w2 N l.wd ((8 * l.M.view.length : Nat) : Int) cs' ls' l.vC vL') (ho : Only (l.wd :: l.vC.ownBlock.toList) w1 w2) (hv : ∀ k, vL'.ownBlock = some k → l.vL.ownBlock = some k ∨ w1.heap.size ≤ k)
    (al : Alike A' n cs' ls') (hp : ∀ d, HeapL (A'.fr d)) (bits : ∀ i, ∃ b : Nat, b < 18446744073709551616 ∧ (A'.hd.getD i (0, 0)).2 = (b : Int)) (fits : ∀ x ∈ g.T, TurnFits ls' x) :
    GameIs w2 N n K { l with V := V', vL := vL' } { g with A := A', cs := cs', ls := ls' } := by
  have out : ∀ p k, k ∈ l.F g.T p → p ≠ 3 → k ∉ l.wd :: l.vC.ownBlock.toList := by
    intro p k hk h3 hm
    rcases List.mem_cons.1 hm with rfl | hm
    · exact h3 (h.sep.one _ _ _ hk h.in3)
    · exact h3 (h.sep.one _ _ _ hk (h.in3C (by simpa using hm)))
  have hw1 := h.work.moved hs hm hl
  have hs1 := hm.only.size
  have hs2 := ho.size
  have fl : ∀ k ∈ foot l.B V', k < w1.heap.size := hw1.foot_lt
  have fo : ∀ k ∈ foot l.B V', k ∉ l.wd :: l.vC.ownBlock.toList := by
    intro k hk hmm
    rcases hm.foot k hk with h1 | h1
    · exact out 2 k (h.in2 h1) (by decide) hmm
    · have : k < w.heap.size := by
        rcases List.mem_cons.1 hmm with rfl | h2
        · exact h.sep.lt _ _ h.in3
        · exact h.sep.lt _ _ (h.in3C (by simpa using h2))
      omega
  have n2 : ∀ p k, k ∈ l.F g.T p → p ≠ 2 → k ∉ foot l.B l.V := fun p k hk hp hf => hp (h.sep.one _ _ _ hk (h.in2 hf))
  refine ⟨ho.blk (hm.only.blk h.gblk (n2 0 _ h.in0 (by decide))) (out 0 _ h.in0 (by decide)), hw1.only ho (fun k hk => out 1 k (h.in1 hk) (by decide)) fo, h.ma, hw, al, hp, bits,
    ho.own (hm.only.own h.row (fun k hk => n2 4 k (h.in4 hk) (by decide))) (fun k hk => out 4 k (h.in4 hk) (by decide)), fun y hy => ho.blk (hm.only.blk (h.ts y hy) (n2 5 _ (h.in5 hy) (by decide))) (out 5 _ (h.in5 hy) (by decide)), fits, h.ta, h.tt, ?_, h.n6, h.gN, h.loM, h.loT⟩
  have lt : ∀ p k, k ∈ l.F g.T p → k < w2.heap.size := fun p k hk => Nat.lt_of_lt_of_le (h.sep.lt p k hk) (by omega)
  refine h.sep.turns (by omega) (fun p k hk => ?_) (fun p q k hf hp hq => ?_)
  · rcases gF_mem.1 hk with ⟨rfl, rfl⟩ | ⟨rfl, h1⟩ | ⟨rfl, h1⟩ | ⟨rfl, h1⟩ | ⟨rfl, h1⟩ | ⟨rfl, y, h1, rfl⟩
    · exact ⟨Or.inl h.in0, lt _ _ h.in0⟩
    · exact ⟨Or.inl (h.in1 h1), lt _ _ (h.in1 h1)⟩
    · refine ⟨(hm.foot k h1).imp (fun hh => h.in2 hh) id, ?_⟩
      have := fl k h1; omega
    · rcases h1 with rfl | h1 | h1
      · exact ⟨Or.inl h.in3, lt _ _ h.in3⟩
      · exact ⟨Or.inl (h.in3C h1), lt _ _ (h.in3C h1)⟩
      · refine ⟨?_, own_lt hw.rl k h1⟩
        rcases hv k h1 with h2 | h2
        · exact Or.inl (h.in3L h2)
        · exact Or.inr (by omega)
    · exact ⟨Or.inl (h.in4 h1), lt _ _ (h.in4 h1)⟩
    · exact ⟨Or.inl (h.in5 h1), lt _ _ (h.in5 h1)⟩
  · have key : ∀ p, k ∈ gF l.gb l.m l.Q l.M l.B V' l.wd l.vC vL' l.vT g.T p → p = 2 ∧ k < w1.heap.size ∨ p = 3 ∧ w1.heap.size ≤ k := by
      intro p hk
      rcases gF_mem.1 hk with ⟨rfl, rfl⟩ | ⟨rfl, h1⟩ | ⟨rfl, h1⟩ | ⟨rfl, h1⟩ | ⟨rfl, h1⟩ | ⟨rfl, y, h1, rfl⟩
      · have := h.sep.lt _ _ h.in0; omega
      · have := h.sep.lt _ _ (h.in1 h1); omega
      · exact Or.inl ⟨rfl, fl k h1⟩
      · rcases h1 with rfl | h1 | h1
        · have := h.sep.lt _ _ h.in3; omega
        · have := h.sep.lt _ _ (h.in3C h1); omega
        · rcases hv k h1 with h2 | h2
          · have := h.sep.lt _ _ (h.in3L h2); omega
          · exact Or.inr ⟨rfl, h2⟩
      · have := h.sep.lt _ _ (h.in4 h1); omega
      · have := h.sep.lt _ _ (h.in5 h1); omega
    rcases key p hp with ⟨rfl, a1⟩ | ⟨rfl, a1⟩ <;> rcases key q hq with ⟨rfl, b1⟩ | ⟨rfl, b1⟩ <;> first | rfl | omega

end Go.Proofs.YtbkaemajjaiklaaGreat

/- SlabPlays: the game behind Reserve. -/
namespace Go.Proofs.YtbkaemajjaiklaaGreat
open Go.RowKit
set_option linter.unusedVariables false
set_option linter.unusedSimpArgs false

theorem clsOf_hd {A : SA} {j : Nat} (hj : j + 1 < A.hd.length) : clsOf A (j + 1) = A.hd[j + 1].1 := by
  unfold clsOf
  rw [List.getD_eq_getElem?_getD, List.getElem?_eq_getElem hj]; rfl
/-- both reserved: the same is told, the game stands -/
theorem GameIs.reserved {w w1 w2 : World} {N n K : Nat} {l : GL} {g : GA} (h : GameIs w N n K l g) {c : Nat} (hc : 1 ≤ c ∧ c ≤ 3) {e1 e2 : Ending}
    (h1 : RsvPost w N l.B l.V ((8 * l.M.view.length : Nat) : Int) g.A c e1 w1) (h2 : RsvWP w1 N l.wd ((8 * l.M.view.length : Nat) : Int) g.cs g.ls l.vC l.vL c n e2 w2) :
    ∃ a x, e1 = .returned (.tuple #[.int .u64 a, .int .i64 x]) ∧ e2 = .returned (.tuple #[.int .u64 a, .int .i64 x]) ∧ ∃ A' V' cs' ls' vL', GameIs w2 N n K { l with V := V', vL := vL' } { g with A := A', cs := cs', ls := ls' } ∧ Rsvd g.A c n a x A' cs' ls' ∧ RsvW g.cs g.ls c n a x cs' ls' := by
  obtain ⟨a, x, cs', ls', vL', hr, rfl, hw, ho, hv⟩ := h2.out
  have hn := h.work.hn.2
  have hl := h.work.hl
  obtain ⟨A', hA'⟩ := h.al.rsv hn hl hc h.hp hr
  have hfr := h.al.rsvFree hn hc hr
  have fits : ∀ y ∈ g.T, TurnFits ls' y := by
    intro y hy
    obtain ⟨f1, f2, f3⟩ := h.fits y hy
    refine ⟨f1, f2, ?_⟩
    rcases hfr with rfl | ⟨rfl, h0⟩
    · exact f3
    · have hne : y.a ≠ a := by
        intro e
        rw [e, h0] at f3
        omega
      rw [isGet_setW, if_neg hne]
      exact f3
  refine ⟨a, x, ?_⟩
  rcases h1.ok with ⟨A1, V1, hA1, rfl, hs, hm⟩ | ⟨q1, q2, rfl, hs, hm⟩
  · rcases hA1 with ⟨rfl, hne⟩ | ⟨he, j, hj, hz, rfl, hfst⟩
    · cases hA' with
      | old h0 al => exact ⟨rfl, rfl, _, V1, cs', ls', vL', h.turned hs hm rfl hw ho hv al (takeSA_heap h.hp h0) h.bits fits, Rsvd.old h0 al, hr⟩
      | new k h0 => exact absurd h0 hne
      | full h0 => exact absurd h0 hne
    · cases hA' with
      | old h0 al => exact absurd he h0
      | new k h0 hk hk0 hf al =>
        have hjk : j = k := by
          rcases Nat.lt_trichotomy j k with h3 | h3 | h3
          · exact absurd (by rw [clsOf_hd hj]; exact hz) (hf j h3)
          · exact h3
          · have hk1 : k + 1 < g.A.hd.length := by omega
            exact absurd (by rw [← clsOf_hd hk1]; exact hk0) (hfst k hk1 h3)
        subst hjk
        exact ⟨rfl, rfl, _, V1, cs', ls', vL', h.turned hs hm (giveSA_hd _ _ _) hw ho hv al (takeSA_heap (giveTo_heap _ _ _ h.hp _) (giveSA_ne _ _ hc)) (giveSA_bits _ _ _ h.bits) fits, Rsvd.new j h0 hk hk0 hf al, hr⟩
      | full h0 hf =>
        exact absurd (by rw [clsOf_hd hj]; exact hz) (hf j (by omega))
  · cases hA' with
    | old h0 al => exact absurd q1 h0
    | new k h0 hk hk0 hf al =>
      have hk1 : k + 1 < g.A.hd.length := by omega
      exact absurd (by rw [← clsOf_hd hk1]; exact hk0) (q2 k hk1)
    | full h0 hf al => exact ⟨rfl, rfl, _, l.V, cs', ls', vL', h.turned hs hm rfl hw ho hv al h.hp h.bits fits, Rsvd.full h0 hf al, hr⟩

end Go.Proofs.YtbkaemajjaiklaaGreat

/- SlabPlays: the game behind Release, behind an eviction. -/
namespace Go.Proofs.YtbkaemajjaiklaaGreat
open Go.RowKit
set_option linter.unusedVariables false
set_option linter.unusedSimpArgs false

theorem isGet_has {l : List (Int × Int)} {a : Int} (h : isGet l a ≠ 0) : a ∈ l.map (·.1) := by
  apply Classical.byContradiction
  intro hn
  exact h (isGet_not hn)
/-- where a block that is not free lies, in numbers -/
theorem GameIs.at {w : World} {N n K : Nat} {l : GL} {g : GA} (h : GameIs w N n K l g) {a : Int} (ha : isGet g.ls a ≠ 0) :
    ∃ i j c : Nat, i < n ∧ j < nb c ∧ 1 ≤ c ∧ c ≤ 3 ∧ g.cs.getD i 0 = (c : Int) ∧ a = blockZ ((i : Int) + 1) c j ∧ slabZ a = (i : Int) + 1 ∧ clsZ g.A (slabZ a) = (c : Int) ∧ clsOf g.A (i + 1) = (c : Int) ∧ 0 < a ∧ a ≤ 18446744073709551615 := by
  obtain ⟨i, j, c, h1, h2, h3, h4, h5, h6⟩ := h.al.blkOf ha
  have hn := h.work.hn
  have hb := block_in (i := i) (by omega) ⟨h3, h4⟩ h2
  have hs : slabZ a = (i : Int) + 1 := by
    rw [h6]
    unfold slabZ
    rw [if_pos (by omega)]; omega
  have hc : clsOf g.A (i + 1) = (c : Int) := by rw [h.al.cls i h1]; exact h5
  refine ⟨i, j, c, h1, h2, h3, h4, h5, h6, hs, ?_, hc, by omega, by omega⟩
  unfold clsZ
  have hl := h.work.hl
  rw [hs, if_pos ⟨by omega, by omega⟩, show ((i : Int) + 1).toNat = i + 1 by omega]
  exact hc
theorem freeSA_heap {A : SA} {c : Nat} {a : Int} (h : ∀ d, HeapL (A.fr d)) : ∀ d, HeapL ((freeSA A c a).fr d) := upd_heap h c (putL_heap (h c) a)
/-- one released -/
theorem GameIs.released {w w1 w2 : World} {N n K : Nat} {l : GL} {g : GA} (h : GameIs w N n K l g) {a : Int} {i j c : Nat} (h1 : i < n) (h2 : j < nb c) (h3 : 1 ≤ c ∧ c ≤ 3) (h4 : g.cs.getD i 0 = (c : Int)) (h5 : a = blockZ ((i : Int) + 1) c j) (ha : isGet g.ls a = 1) {V' : Nat → Value} (hs : SlabIs w1 N l.B V' ((8 * l.M.view.length : Nat) : Int) (freeSA g.A c a)) (hm : Moved l.B l.V V' w w1)
    {vL' : Value} (hw : WorldIs w2 N l.wd ((8 * l.M.view.length : Nat) : Int) g.cs (setW g.ls a 0) l.vC vL') (ho : Only [l.wd] w1 w2) (hv : ∀ k, vL'.ownBlock = some k → w1.heap.size ≤ k) :
    GameIs w2 N n K { l with V := V', vL := vL' } { g with A := freeSA g.A c a, ls := setW g.ls a 0 } := by
  have al : Alike (freeSA g.A c a) n g.cs (setW g.ls a 0) := by
    have := h.al.setFree h1 h.work.hn.2 h2 h3 h4 h5 g.A.is h.al.ua (fun p hp => h.al.nz p ((delS_sub _ _).subset hp)) (fun _ _ => rfl)
    exact this
  refine h.turned (cs' := g.cs) hs hm rfl hw (ho.mono (fun x hx => by obtain rfl := List.mem_singleton.1 hx; simp)) (fun k hk => Or.inr (hv k hk)) al (freeSA_heap h.hp) h.bits (fun y hy => ?_)
  obtain ⟨f1, f2, f3⟩ := h.fits y hy
  refine ⟨f1, f2, ?_⟩
  have hne : y.a ≠ a := by
    intro e
    rw [e, ha] at f3
    omega
  rw [isGet_setW, if_neg hne]
  exact f3

end Go.Proofs.YtbkaemajjaiklaaGreat

/- SlabPlays: the game behind an eviction. -/
namespace Go.Proofs.YtbkaemajjaiklaaGreat
open Go.RowKit
set_option linter.unusedVariables false
set_option linter.unusedSimpArgs false

theorem evictA_len (M M' : MemS) (k n : Nat) (h : absM M' = evictA (absM M) k n) : M'.view.length = M.view.length := congrArg (fun m => m.view.length) h
/-- the memory turned -/
theorem GameIs.mem {w w' : World} {N n K K' d : Nat} {l : GL} {g : GA} (h : GameIs w N n K l g) {M' : MemS} (hm : Mems w' l.m l.Q M' K') (hw : Went l.m l.Q w l.M w' M' d) (hv : M'.view.length = l.M.view.length) : GameIs w' N n K' { l with M := M' } { g with ma := absM M' } := by
  have no : ∀ p k, k ∈ l.F g.T p → p ≠ 1 → k ∉ footM l.m l.Q l.M := fun p k hk hp hf => hp (h.sep.one _ _ _ hk (h.in1 hf))
  have hs := hw.only.size
  have hsl := h.work.sl.only hw.only (fun i k hk => no 2 k (h.in2 (foot_mem.2 ⟨i, hk⟩)) (by decide))
  have wk : Work w' N l.B l.V g.A n l.m l.Q M' K' := by
    refine ⟨by rw [hv]; exact hsl, h.work.hl, h.work.hn, hm, hv.trans h.work.vl, fun k hk hf => ?_, Nat.le_trans h.work.lo hs⟩
    rcases hw.foot k hk with h1 | h1
    · exact h.work.far k h1 hf
    · have := h.work.foot_lt k hf; omega
  refine ⟨hw.only.blk h.gblk (no 0 _ h.in0 (by decide)), wk, rfl, ?_, h.al, h.hp, h.bits, hw.only.own h.row (fun k hk => no 4 k (h.in4 hk) (by decide)), fun y hy => hw.only.blk (h.ts y hy) (no 5 _ (h.in5 hy) (by decide)), h.fits, h.ta, h.tt, ?_, h.n6, h.gN, fun k hk => (hw.foot k hk).elim (h.loM k) (fun h1 => Nat.le_trans (Nat.le_trans h.gN (Nat.le_of_lt h.gblk.lt)) h1), h.loT⟩
  · show WorldIs w' N l.wd ((8 * M'.view.length : Nat) : Int) g.cs g.ls l.vC l.vL
    rw [hv]
    exact h.wo.only hw.only (no 3 _ h.in3 (by decide)) (fun k hk => no 3 k (h.in3C hk) (by decide)) (fun k hk => no 3 k (h.in3L hk) (by decide))
  · refine h.sep.turn 1 hs (fun q hq k hk => ?_) (fun k hk => ?_)
    · rcases gF_mem.1 hk with ⟨rfl, rfl⟩ | ⟨rfl, h1⟩ | ⟨rfl, h1⟩ | ⟨rfl, h1⟩ | ⟨rfl, h1⟩ | ⟨rfl, y, h1, rfl⟩
      · exact h.in0
      · exact absurd rfl hq
      · exact h.in2 h1
      · exact gF_mem.2 (Or.inr (Or.inr (Or.inr (Or.inl ⟨rfl, h1⟩))))
      · exact h.in4 h1
      · exact h.in5 h1
    · rcases gF_mem.1 hk with ⟨e, _⟩ | ⟨_, h1⟩ | ⟨e, _⟩ | ⟨e, _⟩ | ⟨e, _⟩ | ⟨e, _⟩
      · exact absurd e (by decide)
      · exact ⟨(hw.foot k h1).imp (fun hh => h.in1 hh) id, hm.foot_lt k h1⟩
      · exact absurd e (by decide)
      · exact absurd e (by decide)
      · exact absurd e (by decide)
      · exact absurd e (by decide)

end Go.Proofs.YtbkaemajjaiklaaGreat

/- SlabPlays: the row of turns: looked at, one turned. -/
namespace Go.Proofs.YtbkaemajjaiklaaGreat
open Go.RowKit
set_option linter.unusedVariables false
set_option linter.unusedSimpArgs false

theorem trC_get : ∀ (T : List TR) (i : Nat) (x : TR), T[i]? = some x → (T.flatMap trC)[i * 4]? = some (.pointer (some ⟨x.t, 0, none⟩)) ∧ (T.flatMap trC)[i * 4 + 1]? = some (.int .u64 x.a) ∧ (T.flatMap trC)[i * 4 + 2]? = some (.int .i64 x.tb) ∧ (T.flatMap trC)[i * 4 + 3]? = some (.int .i64 (x.ph : Int))
  | [], i, x, h => by cases h
  | y :: T, 0, x, h => by
    obtain rfl : y = x := by simpa using h
    exact ⟨rfl, rfl, rfl, rfl⟩
  | y :: T, i + 1, x, h => by
    obtain ⟨h1, h2, h3, h4⟩ := trC_get T i x (by simpa using h)
    have e : ∀ j, ((y :: T).flatMap trC)[(i + 1) * 4 + j]? = (T.flatMap trC)[i * 4 + j]? := fun j => by
      rw [List.flatMap_cons, List.getElem?_append_right (by simp [trC]; omega)]
      congr 1
      simp [trC]; omega
    have e0 := e 0
    simp only [Nat.add_zero] at e0
    exact ⟨e0.trans h1, (e 1).trans h2, (e 2).trans h3, (e 3).trans h4⟩
theorem trC_len (T : List TR) : (T.flatMap trC).length = T.length * 4 := by
  induction T with
  | nil => rfl
  | cons x T ih => rw [List.flatMap_cons, List.length_append, ih]; simp [trC]; omega
theorem rowT {w : World} {N : Nat} {vT : Value} {T : List TR} (h : w.ownsRow N 179 4 vT T.length (T.flatMap trC)) (hT : T ≠ []) :
    ∃ b cap, vT = .slice (some ⟨b, 0, none⟩) T.length cap ∧ ∀ j u, (T.flatMap trC)[j]? = some u → w.cell? ⟨b, j, none⟩ = some u ∧ w.frozen? ⟨b, j, none⟩ = false := by
  rcases h.2 with ⟨_, h2⟩ | ⟨b, cap, cur, h1, h2, h3, h4, h5, h6, h7⟩
  · exact absurd (List.length_eq_zero_iff.1 h2) hT
  · refine ⟨b, cap, h1, fun j u hj => ?_⟩
    have hc : Blk w b _ cur := h3
    refine ⟨?_, hc.frozen j⟩
    rw [hc.cell, ← Array.getElem?_toList]
    have hl := (List.getElem?_eq_some_iff.1 hj).1
    rw [trC_len] at hl
    rw [← h7, List.getElem?_take, if_pos (by omega)] at hj
    exact hj

end Go.Proofs.YtbkaemajjaiklaaGreat

/- SlabPlays: a turn's steps counted in the row. -/
namespace Go.Proofs.YtbkaemajjaiklaaGreat
open Go.RowKit
set_option linter.unusedVariables false
set_option linter.unusedSimpArgs false

def TR.next (x : TR) : TR := { x with ph := x.ph + 1 }
theorem trC_set : ∀ (T : List TR) (i : Nat) (x : TR), T[i]? = some x → (T.set i x.next).flatMap trC = (T.flatMap trC).set (i * 4 + 3) (.int .i64 ((x.ph + 1 : Nat) : Int))
  | [], i, x, h => by cases h
  | y :: T, 0, x, h => by
    obtain rfl : y = x := by simpa using h
    rfl
  | y :: T, i + 1, x, h => by
    have ih := trC_set T i x (by simpa using h)
    rw [List.set_cons_succ, List.flatMap_cons, List.flatMap_cons, ih, List.set_append_right _ _ (by simp [trC]; omega)]
    congr 2
    simp [trC]; omega
theorem rowT_set {w : World} {N b cap : Nat} {T : List TR} {n : Nat} (h : w.ownsRow N 179 4 (.slice (some ⟨b, 0, none⟩) n cap) T.length (T.flatMap trC)) {i : Nat} {x : TR} (hx : T[i]? = some x) :
    (w.setCell ⟨b, i * 4 + 3, none⟩ (.int .i64 ((x.ph + 1 : Nat) : Int))).ownsRow N 179 4 (.slice (some ⟨b, 0, none⟩) n cap) (T.set i x.next).length ((T.set i x.next).flatMap trC) := by
  have hi := (List.getElem?_eq_some_iff.1 hx).1
  rw [List.length_set, trC_set T i x hx]
  rcases h.2 with ⟨h2, _⟩ | ⟨b2, cap2, cur, h1, h2, h3, h4, h5, h6, h7⟩
  · cases h2
  · have hb : b2 = b := by injection h1 with h1; injection h1 with h1; injection h1 with h1; exact h1.symm
    subst hb
    have hc : Blk w b2 179 cur := h3
    refine ⟨by rw [List.length_set]; exact h.1, Or.inr ⟨b2, cap2, cur.setIfInBounds (i * 4 + 3) _, h1, h2, hc.set_ _ _, h4, h5, by simpa using h6, ?_⟩⟩
    rw [Array.toList_setIfInBounds, List.take_set, h7]

end Go.Proofs.YtbkaemajjaiklaaGreat

/- SlabPlays: which turn is of which numbers. -/
namespace Go.Proofs.YtbkaemajjaiklaaGreat
open Go.RowKit
set_option linter.unusedVariables false
set_option linter.unusedSimpArgs false

theorem idx_of {i c j : Nat} (hi : i < 64) (hc : 1 ≤ c ∧ c ≤ 3) (hj : j < nb c) : idxI (blockZ ((i : Int) + 1) c j) c = (j : Int) := by
  have hb := block_in hi hc hj
  have hn := nb_eq c
  have hs : slabZ (blockZ ((i : Int) + 1) c j) = (i : Int) + 1 := by unfold slabZ; rw [if_pos (by omega)]; omega
  exact (idx_at (by omega) (idxZ_at _ _ _ (by omega) (by omega) (by omega) (by rw [hs]) (by omega))).1
/-- a turn of a game is one that Step takes -/
theorem GameIs.turnOK {w : World} {N n K : Nat} {l : GL} {g : GA} (h : GameIs w N n K l g) {x : TR} (hx : x ∈ g.T) :
    ∃ i c j b : Nat, TurnOK w l.B l.V g.A n l.m l.Q l.M x.t x.cl x.a x.tb i c j b x.ph := by
  obtain ⟨f1, f2, f3⟩ := h.fits x hx
  have hne : isGet g.ls x.a ≠ 0 := by rcases f3 with ⟨_, e⟩ | ⟨_, e⟩ <;> rw [e] <;> decide
  obtain ⟨i, j, c, h1, h2, h3, h4, h5, h6, h7, h8, h9, h10, h11⟩ := h.at hne
  obtain ⟨b, hb1, hb2⟩ := h.bits (i + 1)
  have hn := h.work.hn
  have hnl := nb_le c
  refine ⟨i + 1, c, j, b, h.ts x hx, f1, fun hm => ?_, fun hm => ?_, by rw [h7]; rfl, ⟨by omega, by omega⟩, h9, ⟨h3, h4⟩, ?_, by omega, hb2, hb1, ⟨h10, h11⟩, f2, ?_, ?_, ?_⟩
  · exact absurd (h.sep.one _ _ _ (h.in5 hx) (h.in1 hm)) (by decide)
  · exact absurd (h.sep.one _ _ _ (h.in5 hx) (h.in2 hm)) (by decide)
  · rw [h6]; exact idx_of (by omega) ⟨h3, h4⟩ h2
  · rcases f3 with ⟨e, _⟩ | ⟨e, _⟩
    · exact Or.inl e
    · exact Or.inr e
  · exact isGet_has (by rw [h.al.is]; exact hne)
  · have := (h.al.few h.n6).2 c h3 h4
    omega

end Go.Proofs.YtbkaemajjaiklaaGreat

/- SlabPlays: the game behind a step that does not end its turn. -/
namespace Go.Proofs.YtbkaemajjaiklaaGreat
open Go.RowKit
set_option linter.unusedVariables false
set_option linter.unusedSimpArgs false

theorem Alike.head {A : SA} {n : Nat} {cs : List Int} {ls : List (Int × Int)} (h : Alike A n cs ls) (i b : Nat) : Alike (hdSA A i b) n cs ls :=
  ⟨h.cl, fun k hk => by rw [hdSA_cls]; exact h.cls k hk, h.le, h.is, h.ua, h.ul, h.nz, h.nd, h.fr, h.blk⟩
theorem hdSA_bits (A : SA) (i b : Nat) (hb : b < 18446744073709551616) (h : ∀ i, ∃ b : Nat, b < 18446744073709551616 ∧ (A.hd.getD i (0, 0)).2 = (b : Int)) : ∀ k, ∃ b' : Nat, b' < 18446744073709551616 ∧ ((hdSA A i b).hd.getD k (0, 0)).2 = (b' : Int) := by
  intro j
  have e0 : (hdSA A i b).hd = A.hd.set i ((A.hd.getD i (0, 0)).1, (b : Int)) := rfl
  rw [e0]
  by_cases e : j = i
  · subst e
    by_cases hl : j < A.hd.length
    · exact ⟨b, hb, by rw [List.getD_eq_getElem?_getD, List.getElem?_set_self hl]; rfl⟩
    · rw [List.set_eq_of_length_le (Nat.le_of_not_lt hl)]; exact h j
  · rw [List.getD_eq_getElem?_getD, List.getElem?_set_ne (Ne.symm e), ← List.getD_eq_getElem?_getD]; exact h j

/-- a step that does not end its turn: the blocks say the same -/
theorem nextSA_mid {A : SA} {n i c j b ph : Nat} {a tb : Int} {cs : List Int} {ls : List (Int × Int)} (h : Alike A n cs ls) (hp : ph < 3) (hb : newB tb b j < 18446744073709551616) (hh : ∀ d, HeapL (A.fr d)) (hbits : ∀ i, ∃ b : Nat, b < 18446744073709551616 ∧ (A.hd.getD i (0, 0)).2 = (b : Int)) :
    Alike (nextSA A i c j b a tb ph) n cs ls ∧ (∀ d, HeapL ((nextSA A i c j b a tb ph).fr d)) ∧ (∀ k, ∃ b' : Nat, b' < 18446744073709551616 ∧ ((nextSA A i c j b a tb ph).hd.getD k (0, 0)).2 = (b' : Int)) := by
  unfold nextSA
  by_cases h1 : ph = 1
  · rw [if_pos h1]
    exact ⟨h.head _ _, hh, hdSA_bits _ _ _ hb hbits⟩
  · rw [if_neg h1, if_neg (by omega)]
    exact ⟨h, hh, hbits⟩

end Go.Proofs.YtbkaemajjaiklaaGreat

/- SlabPlays: the game behind a step: where all lies. -/
namespace Go.Proofs.YtbkaemajjaiklaaGreat
open Go.RowKit
set_option linter.unusedVariables false
set_option linter.unusedSimpArgs false

/-- behind the step itself (the row not yet told): what stands -/
structure Mid (w w1 : World) (N n K : Nat) (l : GL) (g : GA) (x : TR) (M' : MemS) (V' : Nat → Value) (A' : SA) : Prop where
  gblk : Blk w1 l.gb 55 #[.pointer (some ⟨l.m, 0, none⟩), .pointer (some ⟨l.B.s, 0, none⟩), .pointer (some ⟨l.wd, 0, none⟩), l.vT]
  work : Work w1 N l.B V' A' n l.m l.Q M' (K + 1)
  wo : WorldIs w1 N l.wd ((8 * M'.view.length : Nat) : Int) g.cs g.ls l.vC l.vL
  row : w1.ownsRow N 179 4 l.vT g.T.length (g.T.flatMap trC)
  oth : ∀ y ∈ g.T, y.t ≠ x.t → Blk w1 y.t 162 (turnC l.B.s l.m y.t y.cl y.a y.tb y.ph)
  own : Blk w1 x.t 162 (turnC l.B.s l.m x.t x.cl x.a x.tb (x.ph + 1))
  sep : Sep w1 (gF l.gb l.m l.Q M' l.B V' l.wd l.vC l.vL l.vT g.T)
  loM : ∀ k ∈ footM l.m l.Q M', N ≤ k

theorem GameIs.mid {w w1 : World} {N n K : Nat} {l : GL} {g : GA} (h : GameIs w N n K l g) {x : TR} (hx : x ∈ g.T) {i c j b : Nat} {M' : MemS} {V' : Nat → Value} (hs : StepW w N l.B l.V g.A n l.m l.Q l.M K x.t x.cl x.a x.tb i c j b x.ph w1 M' V') (hv : M'.view.length = l.M.view.length) :
    Mid w w1 N n K l g x M' V' (nextSA g.A i c j b x.a x.tb x.ph) := by
  have ho := hs.st.only
  have no : ∀ p k, k ∈ l.F g.T p → p ≠ 1 → p ≠ 2 → p ≠ 5 → k ∉ x.t :: footM l.m l.Q l.M ++ foot l.B l.V := by
    intro p k hk h1 h2 h5 hm
    simp only [List.cons_append, List.mem_cons, List.mem_append] at hm
    rcases hm with rfl | hm | hm
    · exact h5 (h.sep.one _ _ _ hk (h.in5 hx))
    · exact h1 (h.sep.one _ _ _ hk (h.in1 hm))
    · exact h2 (h.sep.one _ _ _ hk (h.in2 hm))
  have h5 : ∀ y ∈ g.T, y.t ≠ x.t → y.t ∉ x.t :: footM l.m l.Q l.M ++ foot l.B l.V := by
    intro y hy hne hm
    simp only [List.cons_append, List.mem_cons, List.mem_append] at hm
    rcases hm with e | hm | hm
    · exact hne e
    · exact absurd (h.sep.one _ _ _ (h.in5 hy) (h.in1 hm)) (by decide)
    · exact absurd (h.sep.one _ _ _ (h.in5 hy) (h.in2 hm)) (by decide)
  refine ⟨ho.blk h.gblk (no 0 _ h.in0 (by decide) (by decide) (by decide)), hs.work, ?_, ho.own h.row (fun k hk => no 4 k (h.in4 hk) (by decide) (by decide) (by decide)), fun y hy hne => ho.blk (h.ts y hy) (h5 y hy hne), hs.blk, ?_, fun k hk => (hs.st.fm k hk).elim (h.loM k) (fun h1 => Nat.le_trans (Nat.le_trans h.gN (Nat.le_of_lt h.gblk.lt)) h1)⟩
  · rw [hv]
    exact h.wo.only ho (no 3 _ h.in3 (by decide) (by decide) (by decide)) (fun k hk => no 3 k (h.in3C hk) (by decide) (by decide) (by decide)) (fun k hk => no 3 k (h.in3L hk) (by decide) (by decide) (by decide))
  · have hsz := ho.size
    have lt1 := hs.work.mem.foot_lt
    have lt2 := hs.work.foot_lt
    refine h.sep.turns hsz (fun p k hk => ?_) (fun p q k hf hp hq => ?_)
    · rcases gF_mem.1 hk with ⟨rfl, rfl⟩ | ⟨rfl, h1⟩ | ⟨rfl, h1⟩ | ⟨rfl, h1⟩ | ⟨rfl, h1⟩ | ⟨rfl, y, h1, rfl⟩
      · exact ⟨Or.inl h.in0, Nat.lt_of_lt_of_le (h.sep.lt _ _ h.in0) hsz⟩
      · exact ⟨(hs.st.fm k h1).imp (fun hh => h.in1 hh) id, lt1 k h1⟩
      · exact ⟨(hs.st.fs k h1).imp (fun hh => h.in2 hh) id, lt2 k h1⟩
      · have h3 : k ∈ l.F g.T 3 := gF_mem.2 (Or.inr (Or.inr (Or.inr (Or.inl ⟨rfl, h1⟩))))
        exact ⟨Or.inl h3, Nat.lt_of_lt_of_le (h.sep.lt _ _ h3) hsz⟩
      · exact ⟨Or.inl (h.in4 h1), Nat.lt_of_lt_of_le (h.sep.lt _ _ (h.in4 h1)) hsz⟩
      · exact ⟨Or.inl (h.in5 h1), Nat.lt_of_lt_of_le (h.sep.lt _ _ (h.in5 h1)) hsz⟩
    · have key : ∀ p, k ∈ gF l.gb l.m l.Q M' l.B V' l.wd l.vC l.vL l.vT g.T p → p = 1 ∧ k ∈ footM l.m l.Q M' ∨ p = 2 ∧ k ∈ foot l.B V' := by
        intro p hk
        rcases gF_mem.1 hk with ⟨rfl, rfl⟩ | ⟨rfl, h1⟩ | ⟨rfl, h1⟩ | ⟨rfl, h1⟩ | ⟨rfl, h1⟩ | ⟨rfl, y, h1, rfl⟩
        · have := h.sep.lt _ _ h.in0; omega
        · exact Or.inl ⟨rfl, h1⟩
        · exact Or.inr ⟨rfl, h1⟩
        · have h3 : k ∈ l.F g.T 3 := gF_mem.2 (Or.inr (Or.inr (Or.inr (Or.inl ⟨rfl, h1⟩))))
          have := h.sep.lt _ _ h3; omega
        · have := h.sep.lt _ _ (h.in4 h1); omega
        · have := h.sep.lt _ _ (h.in5 h1); omega
      rcases key p hp with ⟨rfl, a1⟩ | ⟨rfl, a1⟩ <;> rcases key q hq with ⟨rfl, b1⟩ | ⟨rfl, b1⟩
      · rfl
      · exact absurd b1 (hs.work.far k a1)
      · exact absurd a1 (hs.work.far k b1)
      · rfl

end Go.Proofs.YtbkaemajjaiklaaGreat

/- SlabPlays: the game behind a step: one that does not end its turn, one that does. -/
namespace Go.Proofs.YtbkaemajjaiklaaGreat
open Go.RowKit
set_option linter.unusedVariables false
set_option linter.unusedSimpArgs false

theorem set_mem : ∀ {T : List TR} {i : Nat} {x y : TR}, T[i]? = some x → (T.map (·.t)).Nodup → y ∈ T.set i x.next → y = x.next ∨ y ∈ T ∧ y.t ≠ x.t
  | [], _, _, _, h, _, _ => by cases h
  | z :: T, 0, x, y, h, hn, hy => by
    obtain rfl : z = x := by simpa using h
    rw [List.set_cons_zero] at hy
    rw [List.map_cons, List.nodup_cons] at hn
    rcases List.mem_cons.1 hy with h1 | h1
    · exact Or.inl h1
    · exact Or.inr ⟨List.mem_cons_of_mem _ h1, fun e => hn.1 (e ▸ List.mem_map.2 ⟨y, h1, rfl⟩)⟩
  | z :: T, i + 1, x, y, h, hn, hy => by
    rw [List.set_cons_succ] at hy
    rw [List.map_cons, List.nodup_cons] at hn
    have h' : T[i]? = some x := by simpa using h
    rcases List.mem_cons.1 hy with h1 | h1
    · subst h1
      exact Or.inr ⟨List.mem_cons_self .., fun e => hn.1 (e ▸ List.mem_map.2 ⟨x, List.mem_of_getElem? h', rfl⟩)⟩
    · rcases set_mem h' hn.2 h1 with h2 | ⟨h2, h3⟩
      · exact Or.inl h2
      · exact Or.inr ⟨List.mem_cons_of_mem _ h2, h3⟩
theorem set_map {β : Type} (f : TR → β) : ∀ {T : List TR} {i : Nat} {x : TR}, T[i]? = some x → f x.next = f x → (T.set i x.next).map f = T.map f
  | [], _, _, h, _ => by cases h
  | z :: T, 0, x, h, hf => by
    obtain rfl : z = x := by simpa using h
    rw [List.set_cons_zero, List.map_cons, List.map_cons, hf]
  | z :: T, i + 1, x, h, hf => by
    rw [List.set_cons_succ, List.map_cons, List.map_cons, set_map f (by simpa using h) hf]
theorem gF_T (gb m : Nat) (Q : MB) (M : MemS) (B : SB) (V : Nat → Value) (wd : Nat) (vC vL vT : Value) (T T' : List TR) (h : T'.map (·.t) = T.map (·.t)) : gF gb m Q M B V wd vC vL vT T' = gF gb m Q M B V wd vC vL vT T := by
  funext p
  unfold gF
  rw [h]

section
variable {w w1 : World} {N n K : Nat} {l : GL} {g : GA} {x : TR} {M' : MemS} {V' : Nat → Value} {A' : SA}
/-- the row's block is of no other part -/
theorem Mid.noT (h : Mid w w1 N n K l g x M' V' A') {bT : Nat} (hT : l.vT.ownBlock = some bT) {p k : Nat} (hk : k ∈ gF l.gb l.m l.Q M' l.B V' l.wd l.vC l.vL l.vT g.T p) (hp : p ≠ 4) : k ∉ [bT] := fun hm => by
  obtain rfl := List.mem_singleton.1 hm
  exact hp (h.sep.one _ _ _ hk (gF_mem.2 (Or.inr (Or.inr (Or.inr (Or.inr (Or.inl ⟨rfl, hT⟩)))))))
theorem GameIs.stepped (h : GameIs w N n K l g) {idx : Nat} (hx : g.T[idx]? = some x) (hph : x.ph < 3) (hm : Mid w w1 N n K l g x M' V' A') (hv : M'.view.length = l.M.view.length)
    (al : Alike A' n g.cs g.ls) (hp : ∀ d, HeapL (A'.fr d)) (bits : ∀ i, ∃ b : Nat, b < 18446744073709551616 ∧ (A'.hd.getD i (0, 0)).2 = (b : Int)) {bT cap : Nat} (hT : l.vT = .slice (some ⟨bT, 0, none⟩) g.T.length cap) :
    GameIs (w1.setCell ⟨bT, idx * 4 + 3, none⟩ (.int .i64 ((x.ph + 1 : Nat) : Int))) N n (K + 1) { l with M := M', V := V' } { g with ma := absM M', A := A', T := g.T.set idx x.next } := by
  have hTo : l.vT.ownBlock = some bT := by rw [hT]; rfl
  have ho : Only [bT] w1 (w1.setCell ⟨bT, idx * 4 + 3, none⟩ (.int .i64 ((x.ph + 1 : Nat) : Int))) := (Only.refl _ _).setCell (Or.inl (by simp)) _
  have no := fun {p k : Nat} (hk : k ∈ gF l.gb l.m l.Q M' l.B V' l.wd l.vC l.vL l.vT g.T p) (hp : p ≠ 4) => hm.noT hTo hk hp
  have n0 := no (p := 0) (gF_mem.2 (Or.inl ⟨rfl, rfl⟩)) (by decide)
  have n1 := fun k (hk : k ∈ footM l.m l.Q M') => no (p := 1) (gF_mem.2 (Or.inr (Or.inl ⟨rfl, hk⟩))) (by decide)
  have n2 := fun k (hk : k ∈ foot l.B V') => no (p := 2) (gF_mem.2 (Or.inr (Or.inr (Or.inl ⟨rfl, hk⟩)))) (by decide)
  have n3 := fun k (hk : k = l.wd ∨ l.vC.ownBlock = some k ∨ l.vL.ownBlock = some k) => no (p := 3) (gF_mem.2 (Or.inr (Or.inr (Or.inr (Or.inl ⟨rfl, hk⟩))))) (by decide)
  have n5 := fun y (hy : y ∈ g.T) => no (p := 5) (k := y.t) (gF_mem.2 (Or.inr (Or.inr (Or.inr (Or.inr (Or.inr ⟨rfl, y, hy, rfl⟩)))))) (by decide)
  have hxm : x ∈ g.T := List.mem_of_getElem? hx
  refine ⟨ho.blk hm.gblk n0, hm.work.only ho n1 n2, rfl, hm.wo.only ho (n3 _ (Or.inl rfl)) (fun k hk => n3 k (Or.inr (Or.inl hk))) (fun k hk => n3 k (Or.inr (Or.inr hk))), al, hp, bits, ?_, fun y hy => ?_, fun y hy => ?_, ?_, ?_, ?_, h.n6, h.gN, hm.loM, fun y hy => (by rcases set_mem hx h.tt hy with rfl | ⟨h1, _⟩; exact h.loT x hxm; exact h.loT y h1)⟩
  · have := rowT_set (hT ▸ hm.row) hx
    rw [← hT] at this
    exact this
  · rcases set_mem hx h.tt hy with rfl | ⟨h1, h2⟩
    · exact ho.blk hm.own (n5 x hxm)
    · exact ho.blk (hm.oth y h1 h2) (n5 y h1)
  · rcases set_mem hx h.tt hy with rfl | ⟨h1, h2⟩
    · obtain ⟨f1, f2, f3⟩ := h.fits x hxm
      exact ⟨by show x.ph + 1 < 4; omega, f2, f3⟩
    · exact h.fits y h1
  · show ((g.T.set idx x.next).map (·.a)).Nodup
    rw [set_map (·.a) hx rfl]; exact h.ta
  · show ((g.T.set idx x.next).map (·.t)).Nodup
    rw [set_map (·.t) hx rfl]; exact h.tt
  · show Sep _ (gF l.gb l.m l.Q M' l.B V' l.wd l.vC l.vL l.vT (g.T.set idx x.next))
    rw [gF_T _ _ _ _ _ _ _ _ _ _ _ _ (set_map (·.t) hx rfl)]
    exact hm.sep.mono ho.size
end

theorem erase_mem : ∀ {T : List TR} {i : Nat} {x y : TR}, T[i]? = some x → (T.map (·.t)).Nodup → (T.map (·.a)).Nodup → y ∈ T.eraseIdx i → y ∈ T ∧ y.t ≠ x.t ∧ y.a ≠ x.a
  | [], _, _, _, h, _, _, _ => by cases h
  | z :: T, 0, x, y, h, hn, ha, hy => by
    obtain rfl : z = x := by simpa using h
    rw [List.map_cons, List.nodup_cons] at hn ha
    exact ⟨List.mem_cons_of_mem _ hy, fun e => hn.1 (e ▸ List.mem_map.2 ⟨y, hy, rfl⟩), fun e => ha.1 (e ▸ List.mem_map.2 ⟨y, hy, rfl⟩)⟩
  | z :: T, i + 1, x, y, h, hn, ha, hy => by
    rw [List.eraseIdx_cons_succ] at hy
    rw [List.map_cons, List.nodup_cons] at hn ha
    have h' : T[i]? = some x := by simpa using h
    rcases List.mem_cons.1 hy with h1 | h1
    · subst h1
      exact ⟨List.mem_cons_self .., fun e => hn.1 (e ▸ List.mem_map.2 ⟨x, List.mem_of_getElem? h', rfl⟩), fun e => ha.1 (e ▸ List.mem_map.2 ⟨x, List.mem_of_getElem? h', rfl⟩)⟩
    · obtain ⟨h2, h3, h4⟩ := erase_mem h' hn.2 ha.2 h1
      exact ⟨List.mem_cons_of_mem _ h2, h3, h4⟩

section
variable {w w1 w2 w3 : World} {N n K : Nat} {l : GL} {g : GA} {x : TR} {M' : MemS} {V' : Nat → Value} {A' : SA}
/-- a step that ended its turn: the row's cells turned (to w2), the document told, the turn taken out -/
theorem GameIs.ended (h : GameIs w N n K l g) {idx : Nat} (hx : g.T[idx]? = some x) (hm : Mid w w1 N n K l g x M' V' A') (hv : M'.view.length = l.M.view.length)
    {bT : Nat} (hT : l.vT.ownBlock = some bT) {ls' : List (Int × Int)} {vL' vT' : Value} (ho : Only [l.gb, l.wd, bT] w1 w2) (hg : Blk w2 l.gb 55 #[.pointer (some ⟨l.m, 0, none⟩), .pointer (some ⟨l.B.s, 0, none⟩), .pointer (some ⟨l.wd, 0, none⟩), vT'])
    (hw : WorldIs w2 N l.wd ((8 * l.M.view.length : Nat) : Int) g.cs ls' l.vC vL') (hr : w2.ownsRow N 179 4 vT' (g.T.eraseIdx idx).length ((g.T.eraseIdx idx).flatMap trC))
    (hvL : ∀ k, vL'.ownBlock = some k → w1.heap.size ≤ k) (hvT : ∀ k, vT'.ownBlock = some k → w1.heap.size ≤ k ∧ vL'.ownBlock ≠ some k)
    (al : Alike A' n g.cs ls') (hp : ∀ d, HeapL (A'.fr d)) (bits : ∀ i, ∃ b : Nat, b < 18446744073709551616 ∧ (A'.hd.getD i (0, 0)).2 = (b : Int)) (hls : ∀ a, a ≠ x.a → isGet ls' a = isGet g.ls a) :
    GameIs w2 N n (K + 1) { l with M := M', V := V', vL := vL', vT := vT' } { g with ma := absM M', A := A', ls := ls', T := g.T.eraseIdx idx } := by
  have no : ∀ {p k : Nat}, k ∈ gF l.gb l.m l.Q M' l.B V' l.wd l.vC l.vL l.vT g.T p → p ≠ 0 → p ≠ 3 → p ≠ 4 → k ∉ [l.gb, l.wd, bT] := by
    intro p k hk p0 p3 p4 hmm
    simp only [List.mem_cons, List.not_mem_nil, or_false] at hmm
    rcases hmm with rfl | rfl | rfl
    · exact p0 (hm.sep.one _ _ _ hk (gF_mem.2 (Or.inl ⟨rfl, rfl⟩)))
    · exact p3 (hm.sep.one _ _ _ hk (gF_mem.2 (Or.inr (Or.inr (Or.inr (Or.inl ⟨rfl, Or.inl rfl⟩))))))
    · exact p4 (hm.sep.one _ _ _ hk (gF_mem.2 (Or.inr (Or.inr (Or.inr (Or.inr (Or.inl ⟨rfl, hT⟩)))))))
  have i1 : ∀ k, k ∈ footM l.m l.Q M' → k ∈ gF l.gb l.m l.Q M' l.B V' l.wd l.vC l.vL l.vT g.T 1 := fun k hk => gF_mem.2 (Or.inr (Or.inl ⟨rfl, hk⟩))
  have i2 : ∀ k, k ∈ foot l.B V' → k ∈ gF l.gb l.m l.Q M' l.B V' l.wd l.vC l.vL l.vT g.T 2 := fun k hk => gF_mem.2 (Or.inr (Or.inr (Or.inl ⟨rfl, hk⟩)))
  have i5 : ∀ y, y ∈ g.T → y.t ∈ gF l.gb l.m l.Q M' l.B V' l.wd l.vC l.vL l.vT g.T 5 := fun y hy => gF_mem.2 (Or.inr (Or.inr (Or.inr (Or.inr (Or.inr ⟨rfl, y, hy, rfl⟩)))))
  have hsz := ho.size
  have sub := List.eraseIdx_sublist (l := g.T) (k := idx)
  refine ⟨hg, hm.work.only ho (fun k hk => no (i1 k hk) (by decide) (by decide) (by decide)) (fun k hk => no (i2 k hk) (by decide) (by decide) (by decide)), rfl, ?_, al, hp, bits, hr, fun y hy => ?_, fun y hy => ?_, ?_, ?_, ?_, h.n6, h.gN, hm.loM, fun y hy => h.loT y (sub.subset hy)⟩
  · show WorldIs w2 N l.wd ((8 * M'.view.length : Nat) : Int) g.cs ls' l.vC vL'
    rw [hv]; exact hw
  · obtain ⟨h1, h2, h3⟩ := erase_mem hx h.tt h.ta hy
    exact ho.blk (hm.oth y h1 h2) (no (i5 y h1) (by decide) (by decide) (by decide))
  · obtain ⟨h1, h2, h3⟩ := erase_mem hx h.tt h.ta hy
    obtain ⟨f1, f2, f3⟩ := h.fits y h1
    refine ⟨f1, f2, ?_⟩
    show y.tb = 2 ∧ isGet ls' y.a = 4 ∨ y.tb = 0 ∧ isGet ls' y.a = 3
    rw [hls _ h3]; exact f3
  · exact (sub.map (·.a)).nodup h.ta
  · exact (sub.map (·.t)).nodup h.tt
  · have lt1 : ∀ p k, k ∈ gF l.gb l.m l.Q M' l.B V' l.wd l.vC l.vL l.vT g.T p → k < w2.heap.size := fun p k hk => Nat.lt_of_lt_of_le (hm.sep.lt p k hk) hsz
    refine hm.sep.turns hsz (fun p k hk => ?_) (fun p q k hf hp hq => ?_)
    · rcases gF_mem.1 hk with ⟨rfl, rfl⟩ | ⟨rfl, h1⟩ | ⟨rfl, h1⟩ | ⟨rfl, h1⟩ | ⟨rfl, h1⟩ | ⟨rfl, y, h1, rfl⟩
      · have a0 : l.gb ∈ gF l.gb l.m l.Q M' l.B V' l.wd l.vC l.vL l.vT g.T 0 := gF_mem.2 (Or.inl ⟨rfl, rfl⟩)
        exact ⟨Or.inl a0, lt1 _ _ a0⟩
      · exact ⟨Or.inl (i1 k h1), lt1 _ _ (i1 k h1)⟩
      · exact ⟨Or.inl (i2 k h1), lt1 _ _ (i2 k h1)⟩
      · rcases h1 with rfl | h1 | h1
        · have a3 : l.wd ∈ gF l.gb l.m l.Q M' l.B V' l.wd l.vC l.vL l.vT g.T 3 := gF_mem.2 (Or.inr (Or.inr (Or.inr (Or.inl ⟨rfl, Or.inl rfl⟩))))
          exact ⟨Or.inl a3, lt1 _ _ a3⟩
        · have a3 : k ∈ gF l.gb l.m l.Q M' l.B V' l.wd l.vC l.vL l.vT g.T 3 := gF_mem.2 (Or.inr (Or.inr (Or.inr (Or.inl ⟨rfl, Or.inr (Or.inl h1)⟩))))
          exact ⟨Or.inl a3, lt1 _ _ a3⟩
        · exact ⟨Or.inr (hvL k h1), own_lt hw.rl k h1⟩
      · exact ⟨Or.inr (hvT k h1).1, own_lt hr k h1⟩
      · have a5 := i5 y (sub.subset h1)
        exact ⟨Or.inl a5, lt1 _ _ a5⟩
    · have old : ∀ p, k ∈ gF l.gb l.m l.Q M' l.B V' l.wd l.vC l.vL l.vT g.T p → False := fun p hk => by have := hm.sep.lt p k hk; omega
      have key : ∀ p, k ∈ gF l.gb l.m l.Q M' l.B V' l.wd l.vC vL' vT' (g.T.eraseIdx idx) p → p = 3 ∧ vL'.ownBlock = some k ∨ p = 4 ∧ vT'.ownBlock = some k ∧ vL'.ownBlock ≠ some k := by
        intro p hk
        rcases gF_mem.1 hk with ⟨rfl, rfl⟩ | ⟨rfl, h1⟩ | ⟨rfl, h1⟩ | ⟨rfl, h1⟩ | ⟨rfl, h1⟩ | ⟨rfl, y, h1, rfl⟩
        · exact (old 0 (gF_mem.2 (Or.inl ⟨rfl, rfl⟩))).elim
        · exact (old 1 (i1 k h1)).elim
        · exact (old 2 (i2 k h1)).elim
        · rcases h1 with rfl | h1 | h1
          · exact (old 3 (gF_mem.2 (Or.inr (Or.inr (Or.inr (Or.inl ⟨rfl, Or.inl rfl⟩)))))).elim
          · exact (old 3 (gF_mem.2 (Or.inr (Or.inr (Or.inr (Or.inl ⟨rfl, Or.inr (Or.inl h1)⟩)))))).elim
          · exact Or.inl ⟨rfl, h1⟩
        · exact Or.inr ⟨rfl, h1, (hvT k h1).2⟩
        · exact (old 5 (i5 y (sub.subset h1))).elim
      rcases key p hp with ⟨rfl, a1⟩ | ⟨rfl, a1, a2⟩ <;> rcases key q hq with ⟨rfl, b1⟩ | ⟨rfl, b1, b2⟩
      · rfl
      · exact absurd a1 b2
      · exact absurd b1 a2
      · rfl
end

end Go.Proofs.YtbkaemajjaiklaaGreat

/- SlabPlays: a step that ends its turn: the blocks say what the document is told. -/
namespace Go.Proofs.YtbkaemajjaiklaaGreat
open Go.RowKit
set_option linter.unusedVariables false
set_option linter.unusedSimpArgs false

theorem delS_isSet (l : List (Int × Int)) (a v : Int) (hu : UniqA l) : delS (isSet l a v) a = delS l a := by
  induction l with
  | nil => show (if a = a then [] else _) = []; rw [if_pos rfl]
  | cons x l ih =>
    show delS (if x.1 = a then (a, v) :: l else x :: isSet l a v) a = if x.1 = a then l else x :: delS l a
    have hu' : UniqA l := (List.nodup_cons.1 (show (x.1 :: l.map (·.1)).Nodup from hu)).2
    by_cases h : x.1 = a
    · rw [if_pos h, if_pos h]
      show (if a = a then l else _) = l
      rw [if_pos rfl]
    · rw [if_neg h, if_neg h]
      show (if x.1 = a then _ else x :: delS (isSet l a v) a) = _
      rw [if_neg h, ih hu']
/-- a step that ends its turn -/
theorem nextSA_end {A : SA} {n i c j b i0 j0 : Nat} {a tb : Int} {cs : List Int} {ls : List (Int × Int)} (h : Alike A n cs ls) (hn : n ≤ 64) (ht : tb = 2 ∨ tb = 0) (hi : i0 < n) (hj : j0 < nb c) (hc : 1 ≤ c ∧ c ≤ 3) (hcs : cs.getD i0 0 = (c : Int)) (ha : a = blockZ ((i0 : Int) + 1) c j0) (hne : isGet ls a ≠ 0) (hh : ∀ d, HeapL (A.fr d))
    (hbits : ∀ i, ∃ b : Nat, b < 18446744073709551616 ∧ (A.hd.getD i (0, 0)).2 = (b : Int)) :
    Alike (nextSA A i c j b a tb 3) n cs (setW ls a tb) ∧ (∀ d, HeapL ((nextSA A i c j b a tb 3).fr d)) ∧ (∀ k, ∃ b' : Nat, b' < 18446744073709551616 ∧ ((nextSA A i c j b a tb 3).hd.getD k (0, 0)).2 = (b' : Int)) := by
  unfold nextSA
  rw [if_neg (by decide), if_pos rfl]
  rcases ht with rfl | rfl
  · rw [if_pos rfl]
    exact ⟨h.setTo hne (by decide), hh, hbits⟩
  · rw [if_neg (by decide)]
    refine ⟨h.setFree hi hn hj hc hcs ha _ (h.ua.set _ _) (fun p hp => ?_) (fun b hb => by rw [isGet_setTo, if_neg hb]), freeSA_heap hh, hbits⟩
    rw [delS_isSet _ _ _ h.ua] at hp
    exact h.nz p ((delS_sub _ _).subset hp)

end Go.Proofs.YtbkaemajjaiklaaGreat

/- SlabPlays: the row of turns without one of them. -/
namespace Go.Proofs.YtbkaemajjaiklaaGreat
open Go.RowKit
set_option linter.unusedVariables false
set_option linter.unusedSimpArgs false

theorem trC_take : ∀ (T : List TR) (k : Nat), (T.flatMap trC).take (k * 4) = (T.take k).flatMap trC
  | [], k => by simp
  | x :: T, 0 => by simp
  | x :: T, k + 1 => by
    have ih := trC_take T k
    rw [List.take_succ_cons, List.flatMap_cons, List.flatMap_cons, ← ih, Nat.succ_mul]
    simp [trC, List.take_succ_cons]
theorem trC_drop : ∀ (T : List TR) (k : Nat), (T.flatMap trC).drop (k * 4) = (T.drop k).flatMap trC
  | [], k => by simp
  | x :: T, 0 => by simp
  | x :: T, k + 1 => by
    have ih := trC_drop T k
    rw [List.drop_succ_cons, List.flatMap_cons, ← ih, Nat.succ_mul]
    simp [trC, List.drop_succ_cons]
theorem trC_one {T : List TR} {u : Value} (h : u ∈ T.flatMap trC) : u.oneCell' = true := by
  obtain ⟨x, _, hx⟩ := List.mem_flatMap.1 h
  simp [trC] at hx
  rcases hx with rfl | rfl | rfl | rfl <;> rfl
theorem own_down {w : World} {base base' : Nat} {e : TypeId} {size : Nat} {v : Value} {n : Nat} {xs : List Value} (h : w.ownsRow base e size v n xs) (hb : base' ≤ base) : w.ownsRow base' e size v n xs := by
  rcases h with ⟨h1, h2 | ⟨b, cap, cur, e1, e2, h3⟩⟩
  · exact ⟨h1, Or.inl h2⟩
  · exact ⟨h1, Or.inr ⟨b, cap, cur, e1, Nat.le_trans hb e2, h3⟩⟩
/-- one taken out: two rows are put one behind the other -/
theorem app_cut (N : Nat) (W : World) (b cap idx : Nat) (T : List TR) (hi : idx < T.length) (hr : W.ownsRow N 179 4 (.slice (some ⟨b, 0, none⟩) T.length cap) T.length (T.flatMap trC)) (hN : N ≤ W.heap.size) (hl : T.length ≤ 100000) (P1 : Option Addr) (hP : P1 = if cap = idx + 1 then some ⟨b, 0, none⟩ else some ⟨b, (idx + 1) * 4, none⟩) :
    ∃ a1 c1 W1 ao co W2, appRun2 Tryz.prog #[53, 53] 53 #[.slice none 0 0, .slice (some ⟨b, 0, none⟩) idx cap] W = .ok (.slice a1 idx c1) W1 ∧
      appRun2 Tryz.prog #[53, 53] 53 #[.slice a1 idx c1, .slice P1 (T.length - (idx + 1)) (cap - (idx + 1))] W1 = .ok (.slice ao (T.length - 1) co) W2 ∧
      W2.ownsRow N 179 4 (.slice ao (T.length - 1) co) (T.eraseIdx idx).length ((T.eraseIdx idx).flatMap trC) ∧ Only [] W W1 ∧ Only [] W W2 ∧ ∀ k, (Value.slice ao (T.length - 1) co).ownBlock = some k → W.heap.size ≤ k := by
  obtain ⟨i0, hi0, hz0, hz1, hz2⟩ := info_parts info_turn
  have hne : T ≠ [] := by intro e; rw [e] at hi; simp at hi
  obtain ⟨b', cap', e1, hc⟩ := rowT hr hne
  obtain ⟨rfl, rfl⟩ : b' = b ∧ cap' = cap := by injection e1 with a1 a2 a3; injection a1 with a1; injection a1 with a1; exact ⟨a1.symm, a3.symm⟩
  have hcap : T.length ≤ cap' := by
    rcases hr.2 with ⟨h, _⟩ | ⟨b2, cap2, cur, h1, h2, h3, h4, h5, h6, h7⟩
    · cases h
    · injection h1 with a1 a2 a3; rw [a3]; exact h4
  have x1 : NewsAt W (.slice (some ⟨b', 0, none⟩) idx cap') idx ((T.take idx).flatMap trC) := Or.inr ⟨b', 0, cap', rfl, fun j u hj => by
    rw [← trC_take] at hj
    rw [Nat.zero_add]
    refine (hc j u ?_).1
    have := (List.getElem?_eq_some_iff.1 hj).1
    rw [List.length_take] at this
    rw [List.getElem?_take, if_pos (by omega)] at hj
    exact hj⟩
  obtain ⟨v1, W1, q1⟩ := run_app (P := Tryz.prog) W W.heap.size 53 53 179 i0 _ 4 32 Tryz.underlying53 hi0 hz0 hz1 hz2 rfl (by decide) (.slice none 0 0) 0 [] (World.ownsRow_nil _ _ _ _) _ idx _ x1
    (by rw [trC_len, List.length_take, Nat.min_eq_left (Nat.le_of_lt hi)]) (fun u hu => trC_one hu) (by unfold maxLen; omega) (by omega) (Nat.le_refl _)
  have o1 : Only [] W W1 := Only.of_grown q1.grown (fun k hk => by simp [Value.ownBlock] at hk)
  have own1 := q1.own
  rw [Nat.zero_add, List.nil_append] at own1
  have h1s : ∀ k, v1.ownBlock = some k → W.heap.size ≤ k := fun k hk => own_base own1 k hk
  have f1 : ∃ a1 c1, v1 = .slice a1 idx c1 := row_form1 own1
  obtain ⟨a1, c1, rfl⟩ := f1
  have hr1 := o1.own hr (fun k hk => by simp)
  obtain ⟨b2, cap2, e2, hc2⟩ := rowT hr1 hne
  obtain ⟨rfl, rfl⟩ : b2 = b' ∧ cap2 = cap' := by injection e2 with a1 a2 a3; injection a1 with a1; injection a1 with a1; exact ⟨a1.symm, a3.symm⟩
  have x2 : NewsAt W1 (.slice P1 (T.length - (idx + 1)) (cap2 - (idx + 1))) (T.length - (idx + 1)) ((T.drop (idx + 1)).flatMap trC) := by
    by_cases hcc : cap2 = idx + 1
    · rw [if_pos hcc] at hP
      have hd : T.drop (idx + 1) = [] := List.drop_eq_nil_of_le (by omega)
      rw [hd, hP]
      exact Or.inr ⟨b2, 0, _, rfl, fun j u hj => by simp at hj⟩
    · rw [if_neg hcc] at hP
      rw [hP]
      refine Or.inr ⟨b2, _, _, rfl, fun j u hj => ?_⟩
      rw [← trC_drop, List.getElem?_drop] at hj
      exact (hc2 _ u hj).1
  obtain ⟨v2, W2, q2⟩ := run_app (P := Tryz.prog) W1 N 53 53 179 i0 _ 4 32 Tryz.underlying53 hi0 hz0 hz1 hz2 rfl (by decide) (.slice a1 idx c1) idx _ (own_down own1 hN) _ (T.length - (idx + 1)) _ x2
    (by rw [trC_len, List.length_drop]) (fun u hu => trC_one hu) (by unfold maxLen; omega) (by omega) (Nat.le_trans hN o1.size)
  have own2 := q2.own
  rw [show idx + (T.length - (idx + 1)) = T.length - 1 by omega, ← List.flatMap_append, ← List.eraseIdx_eq_take_drop_succ] at own2
  obtain ⟨ao, co, rfl⟩ := row_form1 own2
  have o2 := Only.of_grown (f := (Value.slice a1 idx c1).ownBlock.toList) q2.grown (fun k hk => by simp [hk])
  refine ⟨a1, c1, W1, ao, co, W2, q1.run, q2.run, ?_, o1, ?_, fun k hk => ?_⟩
  · rw [List.length_eraseIdx, if_pos hi]; exact own2
  · exact o1.trans o2 (fun y hy => Or.inr (h1s y (by simpa using hy)))
  · rcases q2.ob with e | e
    · exact h1s k (by rw [← e]; exact hk)
    · rw [e] at hk
      injection hk with hk
      have := o1.size
      omega

end Go.Proofs.YtbkaemajjaiklaaGreat
