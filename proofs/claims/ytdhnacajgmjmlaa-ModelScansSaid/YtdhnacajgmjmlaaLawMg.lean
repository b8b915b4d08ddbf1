/- ModelScans: what a scan is; the laws of its two loops. -/
import Derived.Maps.OwnIn
import Derived.Maps.AppendAt
import Derived.Stop.RegionWithIn
import Derived.Test.YtdhnacajgmjmlaaStays
namespace Go.Proofs.Ytdhnacajgmjmlaa
open Go.RowKit Go.Shelf
set_option linter.unusedVariables false
set_option linter.unusedSimpArgs false

def scL (lo hi lim : Int) (ps : PairL) : PairL := if boundsErr lo hi lim = 0 then scanL lo hi lim ps else []
def ScanPost (w : World) (ce : Int) (gl : PairL) (e : Ending) (W' : World) : Prop := ∃ a pn, e = .returned (.tuple #[.slice a gl.length pn, .int .i64 ce]) ∧ W'.ownsRow w.heap.size 52 2 (.slice a gl.length pn) gl.length (pc gl) ∧ Below w.heap.size w W'
theorem Scan_any (m : Nat) (v : Value) (ps : PairL) (lo hi lim : Int) (w : World) (h : MapIs w m v ps) :
    Calls Try.prog 40 #[.pointer (some ⟨m, 0, none⟩), .int .u64 lo, .int .u64 hi, .int .i64 lim] w (ScanPost w (boundsErr lo hi lim) (scL lo hi lim ps)) := by
  by_cases hb : boundsErr lo hi lim = 0
  · rw [show scL lo hi lim ps = scanL lo hi lim ps from if_pos hb, hb]
    refine (Scan_z m v ps lo hi lim w h hb).mono ?_
    rintro e W' ⟨pv, rfl, hr, hB⟩
    obtain ⟨a, pn, rfl⟩ := row_form hr
    exact ⟨a, pn, rfl, hr, hB⟩
  · rw [show scL lo hi lim ps = [] from if_neg hb, boundsErr_two hb]
    refine (Scan_bad m lo hi lim w hb).mono ?_
    rintro e W' ⟨rfl, hB⟩
    exact ⟨none, 0, rfl, ⟨rfl, Or.inl ⟨rfl, rfl⟩⟩, hB⟩
theorem scan_do (lo hi lim : Int) (s : ByteArray) (ps : PairL) : doC 4 lo hi lim s.size ps = boundsErr lo hi lim ∧ doV 4 lo hi lim s.size ps = ⟨#[]⟩ ∧ doP 4 lo hi lim s.size ps = scL lo hi lim ps ∧ doN 4 lo hi lim s ps = ps := by
  have hm : mayZ 4 lo hi lim s.size = boundsErr lo hi lim := bounds_may
  by_cases hb : boundsErr lo hi lim = 0
  · obtain ⟨d1, d2, d3, d4⟩ := do_scan (key := lo) (hi := hi) (lim := lim) (s := s) ps (hm.trans hb)
    exact ⟨d1.trans hb.symm, d2, by rw [d3]; exact (if_pos hb).symm, d4⟩
  · obtain ⟨d1, d2, d3, d4⟩ := do_bad (op := 4) (key := lo) (hi := hi) (lim := lim) (s := s) ps (by rw [hm]; exact hb)
    exact ⟨d1.trans hm, d2, by rw [d3]; exact (if_neg hb).symm, d4⟩

/-- what the second loop has collected -/
def outL (lo hi lim : Int) (pre : PairL) : PairL := if boundsErr lo hi lim = 0 then (bL lo hi pre).take lim.toNat else []
theorem outL_nil (lo hi lim : Int) : outL lo hi lim [] = [] := by unfold outL bL; split <;> simp
theorem outL_all (lo hi lim : Int) (ps : PairL) : outL lo hi lim ps = scL lo hi lim ps := rfl
theorem outL_len {lo hi lim : Int} {pre : PairL} : (outL lo hi lim pre).length ≤ 256 := by
  unfold outL
  split
  · rename_i h
    obtain ⟨_, h1, h2⟩ := bounds_ok h
    have := List.length_take_le lim.toNat (bL lo hi pre)
    omega
  · simp
theorem outL_lim {lo hi lim : Int} {pre : PairL} (h : boundsErr lo hi lim = 0) : (outL lo hi lim pre).length ≤ lim.toNat := by
  unfold outL; rw [if_pos h]; exact List.length_take_le _ _
theorem outL_bad {lo hi lim : Int} {pre : PairL} (h : boundsErr lo hi lim ≠ 0) : outL lo hi lim pre = [] := if_neg h
theorem outL_out {lo hi lim : Int} {pre : PairL} {x : Int × ByteArray} (h : ¬ (lo ≤ x.1 ∧ x.1 ≤ hi)) : outL lo hi lim (pre ++ [x]) = outL lo hi lim pre := by
  unfold outL; split
  · rw [bL_snoc, if_neg h]
  · rfl
theorem outL_full {lo hi lim : Int} {pre : PairL} {x : Int × ByteArray} (hb : boundsErr lo hi lim = 0) (h : ¬ (outL lo hi lim pre).length < lim.toNat) : outL lo hi lim (pre ++ [x]) = outL lo hi lim pre := by
  unfold outL at h ⊢
  rw [if_pos hb] at h ⊢
  rw [if_pos hb, bL_snoc]
  have h2 : lim.toNat ≤ (bL lo hi pre).length := by
    rw [List.length_take] at h; omega
  split
  · rw [List.take_append_of_le_length h2]
  · rfl
theorem outL_in {lo hi lim : Int} {pre : PairL} {x : Int × ByteArray} (hb : boundsErr lo hi lim = 0) (hx : lo ≤ x.1 ∧ x.1 ≤ hi) (h : (outL lo hi lim pre).length < lim.toNat) : outL lo hi lim (pre ++ [x]) = outL lo hi lim pre ++ [x] := by
  unfold outL at h ⊢
  rw [if_pos hb] at h ⊢
  rw [if_pos hb, bL_snoc, if_pos hx]
  have h2 : (bL lo hi pre).length < lim.toNat := by
    rw [List.length_take] at h; omega
  rw [List.take_of_length_le (by simp; omega), List.take_of_length_le (by omega)]
def lastK (pre : PairL) : Int := match pre.getLast? with | some p => p.1 | none => 0
theorem lastK_snoc (pre : PairL) (x : Int × ByteArray) : lastK (pre ++ [x]) = x.1 := by simp [lastK]
theorem last_rises {ps pre : PairL} {x : Int × ByteArray} (hr : Rises ps) (hp : pre ++ [x] <+: ps) (hne : pre ≠ []) (hx : x.1 ≤ lastK pre) : False := by
  obtain ⟨rest, rfl⟩ := hp
  rw [Rises.iff, List.append_assoc, List.pairwise_append] at hr
  have h2 := hr.2.2
  have hl : pre.getLast hne ∈ pre := List.getLast_mem hne
  have := h2 _ hl x (by simp)
  have he : lastK pre = (pre.getLast hne).1 := by unfold lastK; rw [List.getLast?_eq_some_getLast hne]
  omega

theorem OwnFrom.only {β : Type} (f : List Nat) (X : World) {B : Nat} (hB : X.heap.size ≤ B) : OwnFrom B (fun (_ : β) W => Only f X W) := fun _ W W' row h hg hr =>
  ⟨hg.os.trans h.os, hg.tape.trans h.tape, hg.output.trans h.output, Nat.le_trans h.size hg.size, fun k hk hf => by
    rw [hg.block k (Nat.lt_of_lt_of_le hk h.size) (fun e => by have := (hr k e.symm).1; omega)]
    exact h.block k hk hf⟩

structure Five (b : Nat) (lo hi lim few2 : Int) (W : World) : Prop where
  b0 : Blk W b 29 #[.int .u64 lo]
  b1 : Blk W (b + 1) 29 #[.int .u64 hi]
  b2 : Blk W (b + 1 + 1) 3 #[.int .i64 lim]
  b3 : Blk W (b + 1 + 1 + 1) 3 #[.int .i64 few2]
  b4 : Blk W (b + 1 + 1 + 1 + 1) 4 #[.bool false]
theorem Five.only {b : Nat} {lo hi lim few2 : Int} {W W' : World} {f : List Nat} (h : Five b lo hi lim few2 W) (ho : Only f W W') (hf : ∀ k, k ∈ f → b + 5 ≤ k) : Five b lo hi lim few2 W' :=
  ⟨ho.blk h.b0 (fun hx => by have := hf _ hx; omega), ho.blk h.b1 (fun hx => by have := hf _ hx; omega), ho.blk h.b2 (fun hx => by have := hf _ hx; omega), ho.blk h.b3 (fun hx => by have := hf _ hx; omega), ho.blk h.b4 (fun hx => by have := hf _ hx; omega)⟩
theorem Five.bel {b : Nat} {lo hi lim few2 : Int} {W W' : World} (h : Five b lo hi lim few2 W) (hb : Below W.heap.size W W') : Five b lo hi lim few2 W' := h.only (Only.of_below hb []) (fun _ hx => by cases hx)
def fiveW (w : World) (lo hi lim few2 : Int) : World := ((((w.alloc (.cells #[.int .u64 lo] 29)).alloc (.cells #[.int .u64 hi] 29)).alloc (.cells #[.int .i64 lim] 3)).alloc (.cells #[.int .i64 few2] 3)).alloc (.cells #[.bool false] 4)
theorem Five.new (w : World) (lo hi lim few2 : Int) : Five w.heap.size lo hi lim few2 (fiveW w lo hi lim few2) ∧ (fiveW w lo hi lim few2).heap.size = w.heap.size + 5 ∧ Below w.heap.size w (fiveW w lo hi lim few2) := by
  unfold fiveW
  refine ⟨⟨((((Blk.new w 29 #[.int .u64 lo]).alloc _).alloc _).alloc _).alloc _, ?_, ?_, ?_, ?_⟩, by simp, ba (ba (ba (ba (ba (Below.refl _ _) _) _) _) _) _⟩
  · have := Blk.new (w.alloc (.cells #[.int .u64 lo] 29)) 29 #[.int .u64 hi]
    rw [World.size_alloc] at this
    exact ((this.alloc _).alloc _).alloc _
  · have := Blk.new ((w.alloc (.cells #[.int .u64 lo] 29)).alloc (.cells #[.int .u64 hi] 29)) 3 #[.int .i64 lim]
    rw [World.size_alloc, World.size_alloc] at this
    exact (this.alloc _).alloc _
  · have := Blk.new (((w.alloc (.cells #[.int .u64 lo] 29)).alloc (.cells #[.int .u64 hi] 29)).alloc (.cells #[.int .i64 lim] 3)) 3 #[.int .i64 few2]
    rw [World.size_alloc, World.size_alloc, World.size_alloc] at this
    exact this.alloc _
  · have := Blk.new ((((w.alloc (.cells #[.int .u64 lo] 29)).alloc (.cells #[.int .u64 hi] 29)).alloc (.cells #[.int .i64 lim] 3)).alloc (.cells #[.int .i64 few2] 3)) 4 #[.bool false]
    rw [World.size_alloc, World.size_alloc, World.size_alloc, World.size_alloc] at this
    exact this

theorem KeepF.wider {F F' : List Nat} {O : Nat} {A B : World} (h : KeepF F O A B) (hF : ∀ x, x ∈ F → x ∈ F') : KeepF F' O A B :=
  ⟨h.size, fun k o h1 h2 h3 => h.block k o h1 h2 (fun hx => h3 (mem_ft.2 ((mem_ft.1 hx).imp (hF k) id))), fun x hx => (mem_ft.1 hx).elim (fun h1 => Or.inl (mem_ft.2 (Or.inl h1))) (fun h1 => (h.foot x (mem_ft.2 (Or.inr h1))).imp (fun h2 => mem_ft.2 ((mem_ft.1 h2).imp (hF x) id)) id)⟩
/-- Q, and no panic -/
def CalmQ (Q : Exit → Act → World → Prop) : Exit → Act → World → Prop
  | .panic _, _, _ => False
  | e, a, w => Q e a w
theorem CalmQ.imp {Q : Exit → Act → World → Prop} : ∀ (e : Exit) (a : Act) (w : World), CalmQ Q e a w → Q e a w := fun e a w h => by
  cases e <;> first | exact h | exact (h : False).elim
theorem CalmQ.normal {Q : Exit → Act → World → Prop} {a : Act} {w : World} (h : Q .normal a w) : CalmQ Q .normal a w := h
/-- where the second loop stands -/
structure Got (X2 : World) (nb ob : Nat) (cnt : Int) (lk : Int) (ov : Value) (out : PairL) (V : World) : Prop where
  only : Only [nb, ob, ob + 1] X2 V
  n : Boxed V nb 3 (.int .i64 cnt)
  l : Boxed V (ob + 1) 29 (.int .u64 lk)
  o : Boxed V ob 46 ov
  row : V.ownsRow ob 52 2 ov out.length (pc out)
theorem Got.own {X2 V : World} {nb ob : Nat} {cnt lk : Int} {ov : Value} {out : PairL} (h : Got X2 nb ob cnt lk ov out V) : ∀ k, ov.ownBlock = some k → k ≠ nb ∧ ob + 2 ≤ k := fun k hk =>
  ⟨fun e => h.n.not_row (by decide) h.row (by rw [hk, e]), by
    have h1 := (row_lt h.row k hk).1
    have h2 : k ≠ ob := fun e => h.o.not_row (by decide) h.row (by rw [hk, e])
    have h3 : k ≠ ob + 1 := fun e => h.l.not_row (by decide) h.row (by rw [hk, e])
    omega⟩
theorem Got.step {X2 V : World} {nb ob : Nat} {cnt lk : Int} {ov : Value} {out : PairL} (h : Got X2 nb ob cnt lk ov out V) (h1 : nb < ob) (c' k' : Int) :
    KeepsOthers V ((V.setCell ⟨ob + 1, 0, none⟩ (.int .u64 k')).setCell ⟨nb, 0, none⟩ (.int .i64 c')) ∧ KeepF [nb, ob, ob + 1] ob V ((V.setCell ⟨ob + 1, 0, none⟩ (.int .u64 k')).setCell ⟨nb, 0, none⟩ (.int .i64 c')) ∧
    Got X2 nb ob c' k' ov out ((V.setCell ⟨ob + 1, 0, none⟩ (.int .u64 k')).setCell ⟨nb, 0, none⟩ (.int .i64 c')) := by
  have hb : Boxed ((V.setCell ⟨ob + 1, 0, none⟩ (.int .u64 k')).setCell ⟨nb, 0, none⟩ (.int .i64 c')) ob 46 ov := (h.o.other (by omega) _).other (by omega) _
  have ho : Only [nb, ob, ob + 1] V ((V.setCell ⟨ob + 1, 0, none⟩ (.int .u64 k')).setCell ⟨nb, 0, none⟩ (.int .i64 c')) := ((Only.refl _ _).setCell (Or.inl (by simp)) _).setCell (Or.inl (by simp)) _
  refine ⟨(KeepsOthers.setCell _ _ _).trans (KeepsOthers.setCell _ _ _), ?_, ⟨h.only.trans ho (fun x hx => Or.inl hx), (h.n.other (by omega) _).set _, (h.l.set _).other (by omega) _, hb, ?_⟩⟩
  · refine KeepF.of_only (ho.mono fun x hx => mem_ft.2 (Or.inl hx)) (fun x hx => ?_)
    rw [hb.cell] at hx
    exact Or.inl (mem_ft.2 (Or.inr (by rw [h.o.cell]; exact hx)))
  · exact ho.own h.row (fun k hk hx => by
      have := h.own k hk
      simp at hx
      omega)
theorem Got.app {X2 V w1 : World} {nb ob : Nat} {cnt lk : Int} {ov v' : Value} {out out' : PairL} {ys : List Value} {tmp : Obj} (h : Got X2 nb ob cnt lk ov out V) (h1 : nb < ob) (hsz : X2.heap.size = ob + 2) (hout : out'.length = out.length + 1) (hys : ys = pc out')
    (hown : w1.ownsRow ob 52 2 v' (out.length + 1) ys) (hgrow : (V.alloc tmp).grownBy w1 ov.ownBlock) (hob : v'.ownBlock = ov.ownBlock ∨ v'.ownBlock = some (V.alloc tmp).heap.size) :
    (∃ a c, v' = .slice a (out.length + 1) c) ∧ Boxed w1 ob 46 ov ∧ KeepsOthers V (w1.setCell ⟨ob, 0, none⟩ v') ∧ KeepF [nb, ob, ob + 1] ob V (w1.setCell ⟨ob, 0, none⟩ v') ∧ Got X2 nb ob cnt lk v' out' (w1.setCell ⟨ob, 0, none⟩ v') := by
  have hoV := h.o.lt
  obtain ⟨hv1, hb1, hb2, hr2, hk2, _, hkf⟩ := append_tail (n₀ := ob) h.o h.row (Nat.le_of_lt hoV) (Nat.le_refl _) hown hgrow hob
  refine ⟨hv1, hb1, hk2, hkf.wider (by simp), ⟨?_, ?_, ?_, hb2, ?_⟩⟩
  · refine (h.only.trans (g := ov.ownBlock.toList) (((Only.refl _ V).alloc tmp).trans (Only.of_grown (f := ov.ownBlock.toList) hgrow (fun k hk => by simp [hk])) (fun x hx => Or.inl hx)) (fun x hx => Or.inr ?_)).setCell (Or.inl (by simp)) _
    have := h.own x (by simpa using hx)
    omega
  · exact ((h.n.alloc tmp).kept hgrow (h.n.not_row (by decide) h.row)).kept (grownBy_setCell' _ ob v') (by intro e; injection e with e; omega)
  · exact ((h.l.alloc tmp).kept hgrow (h.l.not_row (by decide) h.row)).kept (grownBy_setCell' _ ob v') (by intro e; injection e with e; omega)
  · rw [hout, ← hys]; exact hr2

attribute [local go_sem] Oper.semAt_some

theorem eql_all2 (b : Nat) (W : World) : (binOp .eql 92 (.func (.func 68) #[] #[.pointer (some ⟨b, 0, none⟩)]) Value.nilFunc).run Try.prog W = .ok (.bool false) W := by kernel_rfl

set_option maxRecDepth 100000 in
set_option maxHeartbeats 4000000 in
theorem ModelScans_in (v0 : Value) (cs : List CallT) (lo hi lim few2 : Int) (w : World) (h : CallsAt w v0 cs) (hf : fewB cs 40 = true) : CallsIn Fence.wide 5 Try.prog 9 #[v0, .int .u64 lo, .int .u64 hi, .int .i64 lim, .int .i64 few2] w fun e w' => e = .returned (.bool true) ∧ Below w.heap.size w w' := by
  have hle : cs.length ≤ 40 := by have := fewB_t hf; omega
  have HF := hid hf
  have HH := hid h
  obtain ⟨ao, cap, hv, _⟩ := h
  subst hv
  clear hf
  refine callsIn_of_wp_marks Try.func9 rfl trivial ?_ rfl
  simp only [Try.ntmps9, List.size_toArray, List.length_cons, List.length_nil, Nat.reduceAdd, Nat.reduceSub, Array.replicate_succ, Array.replicate_zero, List.push_toArray, List.append_toArray, List.nil_append, List.cons_append]
  gi_wp2_with fail
  refine ⟨trivial, (callsIn_wide.2 (few_z _ cs 40 _ (HH.out.bel (by (repeat (first | exact Below.refl _ _ | (refine ba ?_ _) | (refine Below.drew ?_) | (refine below_drewN ?_ _) | (refine Below.alloc ?_ (by first | omega | (simp; done) | (simp; omega)) _) | (refine Below.setCell ?_ (by first | omega | (simp; done) | (simp; omega)) _) | (refine bx ?_ (by assumption)) | (refine Below.trans ?_ (Below.mono (by assumption) (by first | omega | (simp; done) | (simp; omega)))))))) (by omega))).mono ?_⟩
  rintro e w1 ⟨rfl, rfl⟩
  rw [HF.out]
  gi_wp2_with fail
  refine ⟨trivial, (callsIn_wide.2 (behind_z _ cs _ (HH.out.bel (by (repeat (first | exact Below.refl _ _ | (refine ba ?_ _) | (refine Below.drew ?_) | (refine below_drewN ?_ _) | (refine Below.alloc ?_ (by first | omega | (simp; done) | (simp; omega)) _) | (refine Below.setCell ?_ (by first | omega | (simp; done) | (simp; omega)) _) | (refine bx ?_ (by assumption)) | (refine Below.trans ?_ (Below.mono (by assumption) (by first | omega | (simp; done) | (simp; omega)))))))) (by omega))).mono ?_⟩
  rintro e w2 ⟨m, v, r, u, L, rfl, hL, hB⟩
  have B2 : Hid (Both (fiveW w lo hi lim few2) m v (absL L) r u L w2) := hB
  obtain ⟨F0, hF5, hFb⟩ := Five.new w lo hi lim few2
  have F2 := hid (F0.bel hB.bel)
  have HW2 := hid (bx hFb hB.bel)
  have hz2 : w.heap.size + 5 ≤ w2.heap.size := by have := hB.bel.size; have h9 : (fiveW w lo hi lim few2).heap.size ≤ w2.heap.size := this; omega
  have c0 := F2.out.b0.cell 0
  have c1 := F2.out.b1.cell 0
  have c2 := F2.out.b2.cell 0
  clear hB F0 hF5 hFb
  gi_wp2_with fail
  refine ⟨trivial, (callsIn_wide.2 (Scan_any m v (absL L) lo hi lim _ B2.out.map)).mono ?_⟩
  rintro e w3 ⟨ga, gn, rfl, hr3, hb3⟩
  obtain ⟨ce, hce⟩ : ∃ ce, ce = boundsErr lo hi lim := ⟨_, rfl⟩
  obtain ⟨gl, hgl⟩ : ∃ gl, gl = scL lo hi lim (absL L) := ⟨_, rfl⟩
  rw [← hce, ← hgl]
  rw [← hgl] at hr3
  have HCE := hid hce
  have HGL := hid hgl
  have G3 := hid (B2.out.sideRow hr3)
  have B3 := hid (B2.out.bel' hb3)
  have F3 := hid (F2.out.bel hb3)
  have hz3 : w2.heap.size ≤ w3.heap.size := hb3.size
  clear hr3 hb3 hce hgl B2 F2
  have E3 := hid (B3.out.side 26 #[.int .i64 ce])
  have T3 := hid (Turn.bel (m := m) (r := r) (v := v) (u := u) (ba (Below.refl _ w3) (.cells #[.int .i64 ce] 26)))
  have B3' := hid (B3.out.bel' (ba (Below.refl _ _) (.cells #[.int .i64 ce] 26)))
  have G3' := hid (G3.out.turn T3.out)
  have F3' := hid (F3.out.bel (ba (Below.refl _ _) (.cells #[.int .i64 ce] 26)))
  clear G3 B3 F3 T3 c0 c1 c2
  have c0 := F3'.out.b0.cell 0
  have c1 := F3'.out.b1.cell 0
  have c2 := F3'.out.b2.cell 0
  gi_wp2_with fail
  refine ⟨trivial, (callsIn_wide.2 (RDo_z r u 4 lo hi lim ⟨#[]⟩ L _ B3'.out.ref (by omega))).mono ?_⟩
  intro e w4 hp
  obtain ⟨L', u', qa, qn, rfl, hL1, hL2, hB4, hT4, hS4⟩ := B3'.out.rdoPost hp
  obtain ⟨d1, d2, d3, d4⟩ := scan_do lo hi lim ⟨#[]⟩ (absL L)
  rw [d1, d2, d3, ← HCE.out, ← HGL.out]
  rw [d3, ← HGL.out] at hS4
  have B4 := hid hB4
  have G4 := hid (G3'.out.turn hT4)
  have E4 := hid (E3.out.turn hT4)
  have Q4 := hid hS4
  have F4 := hid (F3'.out.only hT4.only (fun k hk => by
    have h9 : (fiveW w lo hi lim few2).heap.size ≤ k := (List.mem_append.1 hk).elim (B3'.out.mlow k) (B3'.out.rlow k)
    have h8 := (Five.new w lo hi lim few2).2.1
    omega))
  have HG := hid (show gl.length ≤ 256 by rw [HGL.out]; exact outL_len)
  have hz4 : w3.heap.size + 1 ≤ w4.heap.size := by have := hT4.only.size; rw [World.size_alloc] at this; exact this
  clear hp hL1 hL2 hB4 hT4 hS4 d1 d2 d3 d4 G3' E3 F3' B3'
  have T4 := hid (Turn.bel (m := m) (r := r) (v := v) (u := u') (ba (Below.refl _ w4) (.cells #[.int .i64 ce, .string ⟨#[]⟩, .slice qa gl.length qn] 54)))
  have B4' := hid (B4.out.bel' (ba (Below.refl _ _) (.cells #[.int .i64 ce, .string ⟨#[]⟩, .slice qa gl.length qn] 54)))
  have G4' := hid (G4.out.turn T4.out)
  have E4' := hid (E4.out.turn T4.out)
  have Q4' := hid (Q4.out.turn T4.out)
  have F4' := hid (F4.out.bel (ba (Below.refl _ _) (.cells #[.int .i64 ce, .string ⟨#[]⟩, .slice qa gl.length qn] 54)))
  have x0 := E4'.out.blk.cell 0
  have hw34 : w3.heap.size ≠ w4.heap.size := by omega
  clear B4 G4 E4 Q4 F4 T4
  gi_wp2_with fail
  refine ⟨trivial, (callsIn_wide.2 (RSamePairs_z _ _ gl gl _ G4'.out.row Q4'.out.row (by have := HG.out; omega) (by have := HG.out; omega))).mono ?_⟩
  rintro e w5 ⟨rfl, hb5⟩
  rw [pairsEq_self]
  have B5 := hid (B4'.out.bel' hb5)
  have G5 := hid (G4'.out.turn (Turn.bel hb5)).row
  have B2W := hid (bx (Five.new w lo hi lim few2).2.2 B5.out.bel)
  have E5 := hid (E4'.out.turn (Turn.bel hb5)).blk
  have F5 := hid (F4'.out.bel hb5)
  have hz5 : w4.heap.size + 1 ≤ w5.heap.size := by have := hb5.size; rw [World.size_alloc] at this; exact this
  clear hb5 B4' G4' E4' Q4' F4' x0
  gi_wp2_with fail
  refine ⟨trivial, (All_make _ _ _ (Or.inr ⟨_, rfl⟩)).mono ?_⟩
  rintro e w6 ⟨rfl, rfl⟩
  have he := eql_all2 w5.heap.size (w5.alloc (.cells #[.pointer (some ⟨m, 0, none⟩)] 59))
  gi_wp2_with fail
  rename_i K0 hK0
  clear he
  have hz6 : w.heap.size + 5 ≤ w5.heap.size := by omega

  have hN1 : Hid (Boxed ((w5.alloc (.cells #[.pointer (some ⟨m, 0, none⟩)] 59)).alloc (.cells #[.int .i64 0] 3)) (w5.heap.size + 1) 3 (.int .i64 0)) := by
    have := Boxed.new (w5.alloc (.cells #[.pointer (some ⟨m, 0, none⟩)] 59)) 3 (.int .i64 0)
    rw [World.size_alloc] at this
    exact this
  have F6 := hid (F5.out.bel (W' := ((w5.alloc (.cells #[.pointer (some ⟨m, 0, none⟩)] 59)).alloc (.cells #[.int .i64 0] 3))) (ba (ba (Below.refl _ _) _) _))
  have E6 := hid (E5.out.bel (w' := ((w5.alloc (.cells #[.pointer (some ⟨m, 0, none⟩)] 59)).alloc (.cells #[.int .i64 0] 3))) (ba (ba (Below.refl _ _) _) _))
  have G6 := hid (row_zero (row_alloc (row_alloc G5.out (.cells #[.pointer (some ⟨m, 0, none⟩)] 59)) (.cells #[.int .i64 0] 3)))
  have M6 := hid (B5.out.map.bel (w' := ((w5.alloc (.cells #[.pointer (some ⟨m, 0, none⟩)] 59)).alloc (.cells #[.int .i64 0] 3))) (ba (ba (Below.refl _ _) _) _))
  have hlen := hid (show (absL L).length ≤ 40 by have := absL_length L; omega)
  refine wpIn_rangeFunc_ownG rfl (by omega) (gf := 68) (lb := #[.pointer (some ⟨w5.heap.size, 0, none⟩)]) rfl trivial (enters_of Try.func68 (by kernel_rfl) rfl)
    (All_stops 4 (absL L) (.pointer (some ⟨m, 0, none⟩)) [w5.heap.size + 1] (w5.heap.size + 1) w5.heap.size _ (by simp) ?hF ?hc (MapAny.of M6.out)) KeepF.trans ?hKb (Below.refl _ _) (fun _ => rfl)
    (fun pre W => Only [w5.heap.size + 1] ((w5.alloc (.cells #[.pointer (some ⟨m, 0, none⟩)] 59)).alloc (.cells #[.int .i64 0] 3)) W ∧ Boxed W (w5.heap.size + 1) 3 (.int .i64 (List.length pre))) (fun c pre W => c = .exit 0 ∧ Only [w5.heap.size + 1] ((w5.alloc (.cells #[.pointer (some ⟨m, 0, none⟩)] 59)).alloc (.cells #[.int .i64 0] 3)) W ∧ ∃ z : Int, Boxed W (w5.heap.size + 1) 3 (.int .i64 z))
    (OwnFrom.and (OwnFrom.only _ _ (Nat.le_refl _)) (Own.from (boxed_own (w5.heap.size + 1) 3 (fun pre => .int .i64 (List.length pre))) _)) ?hIx ⟨Only.refl _ _, hN1.out⟩
    ?a1 ?assign ?body ?done ?stop
  case hF =>
    intro x hx
    rw [mem_ft] at hx
    rcases hx with hx | hx
    · simp at hx; subst hx; simp
    · rw [hN1.out.cell] at hx; cases hx
  case hc => go_simp
  case hKb =>
    intro W l o o' hl ho hc hw
    exact KeepF.putObj ho hc (by simp at hl; omega)
  case hIx =>
    rintro c pre W W' row ⟨h1, h2, z, h3⟩ hg hr
    exact ⟨h1, OwnFrom.only (β := Unit) _ _ (Nat.le_refl _) () _ _ _ h2 hg hr, z, (Own.from (boxed_own (β := Unit) (w5.heap.size + 1) 3 (fun _ => .int .i64 z)) _) () _ _ _ h3 hg hr⟩
  case assign =>
    intro l x W K hK
    gi_wp2
    exact hK
  case body =>
    rintro l pre x W ⟨ho, hb⟩ hlt
    have HO := hid ho
    have HB := hid hb
    have k0 := hb.cell
    have k1 := hb.frozen
    have k3 := (F6.out.only ho (fun k hk => by simp at hk; omega)).b3.cell 0
    obtain ⟨cnt, hcnt⟩ : ∃ cnt, cnt = List.length pre := ⟨_, rfl⟩
    have HC := hid hcnt
    rw [← hcnt] at k0 hlt
    have hc40 : cnt < 40 := by have := hlen.out; omega
    clear ho hb hcnt
    by_cases t : (cnt : Int) = few2
    · have d1 : ((cnt : Int) == few2) = true := by simpa using t
      gi_wp2
      exact ⟨KeepsFrom.refl _ _, rfl, HO.out, _, HB.out⟩
    · have d1 : ((cnt : Int) == few2) = false := by simpa using t
      gi_wp2
      have hs := HB.out.set (.int .i64 ((cnt : Int) + 1))
      refine ⟨(KeepsOthers.setCell _ _ _).from _, KeepF.of_flat ((Only.refl _ _).setCell (Or.inl (by simp)) _) (by rw [hs.cell]; rfl), HO.out.setCell (Or.inl (by simp)) _, ?_⟩
      rw [List.length_append, ← HC.out]
      exact hs
  case done =>
    rintro D ys W hD rfl ⟨ho, hb⟩ hK
    obtain ⟨z, hz⟩ : ∃ z : Int, z = (List.length (absL L) : Int) := ⟨_, rfl⟩
    rw [← hz] at hb
    clear hz
    have hWz : w5.heap.size + 1 + 1 ≤ W.heap.size := by have := ho.size; simp at this; omega
    have HO1 := hid ho
    have hQ := (hb.alloc (.cells #[.slice none 0 0] 46)).alloc (.cells #[.int .u64 0] 29)
    have q0 := hQ.cell
    have q1 := hQ.frozen
    have cN : w5.heap.size + 1 < W.heap.size := by omega
    have HN2 := hid (hQ.set (.int .i64 0))
    have HX := hid (((ho.alloc (.cells #[.slice none 0 0] 46)).alloc (.cells #[.int .u64 0] 29)).setCell (p := ⟨w5.heap.size + 1, 0, none⟩) (Or.inl (by simp)) (.int .i64 0))
    have HOB : Hid (Boxed (((W.alloc (.cells #[.slice none 0 0] 46)).alloc (.cells #[.int .u64 0] 29)).setCell ⟨w5.heap.size + 1, 0, none⟩ (.int .i64 0)) W.heap.size 46 (.slice none 0 0)) := ((Boxed.new W 46 (.slice none 0 0)).alloc _).other (by omega) _
    have HLB : Hid (Boxed (((W.alloc (.cells #[.slice none 0 0] 46)).alloc (.cells #[.int .u64 0] 29)).setCell ⟨w5.heap.size + 1, 0, none⟩ (.int .i64 0)) (W.heap.size + 1) 29 (.int .u64 0)) := by
      have := Boxed.new (W.alloc (.cells #[.slice none 0 0] 46)) 29 (.int .u64 0)
      rw [World.size_alloc] at this
      exact this.other (by omega) _
    have HX2S : Hid ((((W.alloc (.cells #[.slice none 0 0] 46)).alloc (.cells #[.int .u64 0] 29)).setCell ⟨w5.heap.size + 1, 0, none⟩ (.int .i64 0)).heap.size = W.heap.size + 2) := hid (by simp)
    have HDW : Hid (D < W.heap.size) := (Array.getElem?_eq_some_iff.1 hK).1
    have HDX : Hid (w5.heap.size + 1 + 1 ≤ D) := by have h9 := hD; simp at h9; exact h9
    have HK1 := hid ((((KeepsOthers.alloc W (.cells #[.slice none 0 0] 46)).trans (KeepsOthers.alloc _ (.cells #[.int .u64 0] 29))).trans (KeepsOthers.setCell _ ⟨w5.heap.size + 1, 0, none⟩ (.int .i64 0))).same D _ hK rfl)
    have M7 := hid (M6.out.only HX.out (by have h9 := B5.out.map.obj.lt; simp; omega) (fun k hk hx => by have h9 := B5.out.map.own_lt k hk; simp at hx; omega))
    have F7 := hid (F6.out.only HX.out (fun k hk => by simp at hk; omega))
    have E7 := hid (HX.out.blk E6.out (by simp; omega))
    have hP : (((W.alloc (.cells #[.slice none 0 0] 46)).alloc (.cells #[.int .u64 0] 29)).setCell ⟨w5.heap.size + 1, 0, none⟩ (.int .i64 0)).cell? ⟨w5.heap.size, 0, none⟩ = some (.pointer (some ⟨m, 0, none⟩)) := (HX.out.cell (p := ⟨w5.heap.size, 0, none⟩) (by simp; omega) (by simp)).trans (by go_simp)
    have HP := hid hP
    refine hK0 _ _ ?_
    dsimp only
    clear ho hb hK hQ hP
    gi_wp2_with fail
    rename_i K1 hK1
    clear q0 q1
    refine wpIn_rangeFunc_ownG rfl (by omega) (gf := 68) (lb := #[.pointer (some ⟨w5.heap.size, 0, none⟩)]) rfl trivial (enters_of Try.func68 (by kernel_rfl) rfl)
      (All_stops 4 (absL L) (.pointer (some ⟨m, 0, none⟩)) [w5.heap.size + 1, W.heap.size, W.heap.size + 1] W.heap.size w5.heap.size _ (by simp; omega) ?hFP HP.out (MapAny.of M7.out)) KeepF.trans ?hKbP (Below.refl _ _) (fun _ => rfl)
      (fun pre V => Only [w5.heap.size + 1, W.heap.size, W.heap.size + 1] (((W.alloc (.cells #[.slice none 0 0] 46)).alloc (.cells #[.int .u64 0] 29)).setCell ⟨w5.heap.size + 1, 0, none⟩ (.int .i64 0)) V ∧ Boxed V (w5.heap.size + 1) 3 (.int .i64 (List.length pre)) ∧ Boxed V (W.heap.size + 1) 29 (.int .u64 (lastK pre)) ∧ ∃ ov, Boxed V W.heap.size 46 ov ∧ V.ownsRow W.heap.size 52 2 ov (outL lo hi lim pre).length (pc (outL lo hi lim pre)) ∧ True)
      (fun c pre V => c = .ret ∧ ∃ pre0 x, pre = pre0 ++ [x] ∧ pre0 ≠ [] ∧ x.1 ≤ lastK pre0)
      (OwnFrom.and (OwnFrom.only _ _ (Nat.le_refl _)) (OwnFrom.and (Own.from (boxed_own (w5.heap.size + 1) 3 (fun pre => .int .i64 (List.length pre))) _) (OwnFrom.and (Own.from (boxed_own (W.heap.size + 1) 29 (fun pre => .int .u64 (lastK pre))) _) (Own.from (holdsRow_own W.heap.size W.heap.size 46 52 2 (fun pre => (outL lo hi lim pre).length) (fun pre => pc (outL lo hi lim pre)) (fun _ _ => True)) _))))
      (fun c => ownFrom_pure _ _) ⟨Only.refl _ _, HN2.out, HLB.out, _, HOB.out, by rw [outL_nil]; exact ⟨rfl, Or.inl ⟨rfl, rfl⟩⟩, trivial⟩
      ?a1P ?assignP ?bodyP ?doneP ?stopP
    case hFP =>
      intro x hx
      rw [mem_ft] at hx
      rcases hx with hx | hx
      · simp at hx ⊢; omega
      · rw [HOB.out.cell] at hx; cases hx
    case hKbP =>
      intro V l o o' hl ho hc hw
      exact KeepF.putObj ho hc (by simp at hl; omega)
    case assignP =>
      intro l x V K hK
      gi_wp2
      exact hK
    case bodyP =>
      rintro l pre x V ⟨ho2, hn, hl, ov, hov, hrow, _⟩ hlt
      have HG2 : Hid (Got (((W.alloc (.cells #[.slice none 0 0] 46)).alloc (.cells #[.int .u64 0] 29)).setCell ⟨w5.heap.size + 1, 0, none⟩ (.int .i64 0)) (w5.heap.size + 1) W.heap.size (List.length pre) (lastK pre) ov (outL lo hi lim pre) V) := ⟨ho2, hn, hl, hov, hrow⟩
      have F8 := F7.out.only ho2 (fun k hk => by simp at hk; omega)
      have hVs : W.heap.size + 2 ≤ V.heap.size := by have := ho2.size; rw [HX2S.out] at this; exact this
      have y0 := F8.b0.cell 0
      have y1 := F8.b1.cell 0
      have y2 := F8.b2.cell 0
      have y4 := F8.b4.cell 0
      have y5 := F8.b4.frozen 0
      have y6 := (ho2.blk E7.out (by simp; omega)).cell 0
      have kn := hn.cell
      have kn2 := hn.frozen
      have kl := hl.cell
      have kl2 := hl.frozen
      have ko := hov.cell
      have ko3 := hov.frozen
      obtain ⟨oa, oc, rfl⟩ := row_form hrow
      obtain ⟨cnt, hcnt⟩ : ∃ cnt, cnt = List.length pre := ⟨_, rfl⟩
      obtain ⟨lk, hlk⟩ : ∃ lk, lk = lastK pre := ⟨_, rfl⟩
      obtain ⟨nn, hnn⟩ : ∃ nn, nn = (outL lo hi lim pre).length := ⟨_, rfl⟩
      have HNN := hid hnn
      have hn256 : nn ≤ 256 := by rw [hnn]; exact outL_len
      rw [← hcnt] at kn hlt HG2
      rw [← hlk] at kl HG2
      rw [← hnn] at ko HG2
      have HLEN := hid (show (List.length (pre ++ [x]) : Int) = (cnt : Int) + 1 by rw [List.length_append, ← hcnt]; rfl)
      have HLAST := hid (lastK_snoc pre x)
      have HNE := hid (show 0 < cnt → pre ≠ [] from fun h e => by rw [hcnt, e] at h; simp at h)
      have HLK := hid hlk
      have hc40 : cnt < 40 := by have := hlen.out; omega
      have HSTP := hid (HG2.out.step cN ((cnt : Int) + 1) x.1)
      obtain ⟨i0, hi0, hz0, hz1, hz2⟩ := info_parts infoPair
      clear ho2 hn hl hov hrow F8 hcnt hlk hnn
      by_cases g1 : 0 < cnt
      · have g2 : (cnt : Int) > 0 := by omega
        by_cases g3 : x.1 ≤ lk
        · gi_wp2
          exact ⟨(KeepsOthers.setCell _ _ _).from _, rfl, pre, x, rfl, HNE.out g1, by rw [← HLK.out]; exact g3⟩
        · by_cases hbz : boundsErr lo hi lim = 0
          · have e0 : (ce == 0) = true := by rw [HCE.out]; simpa using hbz
            have hlim := hid (outL_lim (pre := pre) hbz)
            obtain ⟨_, hl1, hl2⟩ := bounds_ok hbz
            by_cases t1 : lo ≤ x.1
            · by_cases t2 : x.1 ≤ hi
              · by_cases t3 : nn < lim.toNat
                · have t4 : (nn : Int) < lim := by omega
                  have HOUT := hid (show outL lo hi lim (pre ++ [x]) = outL lo hi lim pre ++ [x] from outL_in hbz ⟨t1, t2⟩ (by rw [← HNN.out]; exact t3))
                  have R1 := hid HSTP.out.2.2.row
                  have hl256 : (outL lo hi lim pre).length ≤ 256 := outL_len
                  have HNEWS : Hid (∀ j u, [Value.int .u64 x.1, .string x.2][j]? = some u → (((V.setCell ⟨W.heap.size + 1, 0, none⟩ (.int .u64 x.1)).setCell ⟨w5.heap.size + 1, 0, none⟩ (.int .i64 ((cnt : Int) + 1))).alloc (.cells #[.int .u64 x.1, .string x.2] 52)).cell? ((⟨V.heap.size, 0, none⟩ : Addr).add j) = some u) := by
                    have h9 := cells_two_new ((V.setCell ⟨W.heap.size + 1, 0, none⟩ (.int .u64 x.1)).setCell ⟨w5.heap.size + 1, 0, none⟩ (.int .i64 ((cnt : Int) + 1))) (.int .u64 x.1) (.string x.2) 52
                    rw [show ((V.setCell ⟨W.heap.size + 1, 0, none⟩ (.int .u64 x.1)).setCell ⟨w5.heap.size + 1, 0, none⟩ (.int .i64 ((cnt : Int) + 1))).heap.size = V.heap.size from by simp] at h9
                    exact h9
                  have ko2 := HSTP.out.2.2.o.cell
                  gi_wp2_with (gi_at_builtin; refine wpListIn_append_own_at _ rfl _ _ 46 rfl W.heap.size 52 i0 (.agg #[.int .u64 0, .string ⟨#[]⟩]) 2 24 Try.underlying46 hi0 hz0 hz1 hz2 rfl (by decide) _ _ _ rfl (R1.out.alloc _) ⟨V.heap.size, 0, none⟩ 1 1 [.int .u64 x.1, .string x.2] rfl rfl HNEWS.out (by simp [Value.oneCell']) (by unfold maxLen; omega) (by omega) (by simp; omega) ?_; intro v' w9 hown' hgrow _ hob; obtain ⟨⟨a', c', rfl⟩, hv1, hk2, hkf, hgt⟩ := HSTP.out.2.2.app (out' := outL lo hi lim (pre ++ [x])) cN HX2S.out (by rw [HOUT.out]; simp) (by rw [HOUT.out, pc_append]; rfl) hown' hgrow hob; have hc1' := hv1.cell; have hf1 := hv1.frozen; have HGT := hid hgt; have HK2 := hid hk2; have HKF := hid hkf; clear hown' hgrow hob hgt hk2 hkf)
                  refine ⟨(HSTP.out.1.trans HK2.out).from _, KeepF.trans HSTP.out.2.1 HKF.out, HGT.out.only, by rw [HLEN.out]; exact HGT.out.n, by rw [HLAST.out]; exact HGT.out.l, _, HGT.out.o, ?_⟩
                  first | exact HGT.out.row | exact ⟨HGT.out.row, trivial⟩

                · have t4 : ¬ (nn : Int) < lim := by omega
                  have HOUT := hid (show outL lo hi lim (pre ++ [x]) = outL lo hi lim pre from outL_full hbz (by rw [← HNN.out]; exact t3))
                  gi_wp2
                  refine ⟨HSTP.out.1.from _, HSTP.out.2.1, HSTP.out.2.2.only, by rw [HLEN.out]; exact HSTP.out.2.2.n, by rw [HLAST.out]; exact HSTP.out.2.2.l, _, HSTP.out.2.2.o, ?_⟩
                  rw [HOUT.out]
                  first | exact HSTP.out.2.2.row | exact ⟨HSTP.out.2.2.row, trivial⟩

              · have HOUT := hid (show outL lo hi lim (pre ++ [x]) = outL lo hi lim pre from outL_out (fun h => t2 h.2))
                gi_wp2
                refine ⟨HSTP.out.1.from _, HSTP.out.2.1, HSTP.out.2.2.only, by rw [HLEN.out]; exact HSTP.out.2.2.n, by rw [HLAST.out]; exact HSTP.out.2.2.l, _, HSTP.out.2.2.o, ?_⟩
                rw [HOUT.out]
                first | exact HSTP.out.2.2.row | exact ⟨HSTP.out.2.2.row, trivial⟩

            · have HOUT := hid (show outL lo hi lim (pre ++ [x]) = outL lo hi lim pre from outL_out (fun h => t1 h.1))
              gi_wp2
              refine ⟨HSTP.out.1.from _, HSTP.out.2.1, HSTP.out.2.2.only, by rw [HLEN.out]; exact HSTP.out.2.2.n, by rw [HLAST.out]; exact HSTP.out.2.2.l, _, HSTP.out.2.2.o, ?_⟩
              rw [HOUT.out]
              first | exact HSTP.out.2.2.row | exact ⟨HSTP.out.2.2.row, trivial⟩

          · have e0 : (ce == 0) = false := by rw [HCE.out]; simpa using hbz
            have HOUT := hid (show outL lo hi lim (pre ++ [x]) = outL lo hi lim pre from by rw [outL_bad hbz, outL_bad hbz])
            gi_wp2
            refine ⟨HSTP.out.1.from _, HSTP.out.2.1, HSTP.out.2.2.only, by rw [HLEN.out]; exact HSTP.out.2.2.n, by rw [HLAST.out]; exact HSTP.out.2.2.l, _, HSTP.out.2.2.o, ?_⟩
            rw [HOUT.out]
            first | exact HSTP.out.2.2.row | exact ⟨HSTP.out.2.2.row, trivial⟩


      · obtain rfl : cnt = 0 := by omega
        have HSTP := hid (HG2.out.step cN 1 x.1)
        have HLEN := hid (show (List.length (pre ++ [x]) : Int) = 1 by rw [HLEN.out]; rfl)
        by_cases hbz : boundsErr lo hi lim = 0
        · have e0 : (ce == 0) = true := by rw [HCE.out]; simpa using hbz
          have hlim := hid (outL_lim (pre := pre) hbz)
          obtain ⟨_, hl1, hl2⟩ := bounds_ok hbz
          by_cases t1 : lo ≤ x.1
          · by_cases t2 : x.1 ≤ hi
            · by_cases t3 : nn < lim.toNat
              · have t4 : (nn : Int) < lim := by omega
                have HOUT := hid (show outL lo hi lim (pre ++ [x]) = outL lo hi lim pre ++ [x] from outL_in hbz ⟨t1, t2⟩ (by rw [← HNN.out]; exact t3))
                have R1 := hid HSTP.out.2.2.row
                have hl256 : (outL lo hi lim pre).length ≤ 256 := outL_len
                have HNEWS : Hid (∀ j u, [Value.int .u64 x.1, .string x.2][j]? = some u → (((V.setCell ⟨W.heap.size + 1, 0, none⟩ (.int .u64 x.1)).setCell ⟨w5.heap.size + 1, 0, none⟩ (.int .i64 1)).alloc (.cells #[.int .u64 x.1, .string x.2] 52)).cell? ((⟨V.heap.size, 0, none⟩ : Addr).add j) = some u) := by
                  have h9 := cells_two_new ((V.setCell ⟨W.heap.size + 1, 0, none⟩ (.int .u64 x.1)).setCell ⟨w5.heap.size + 1, 0, none⟩ (.int .i64 1)) (.int .u64 x.1) (.string x.2) 52
                  rw [show ((V.setCell ⟨W.heap.size + 1, 0, none⟩ (.int .u64 x.1)).setCell ⟨w5.heap.size + 1, 0, none⟩ (.int .i64 1)).heap.size = V.heap.size from by simp] at h9
                  exact h9
                have ko2 := HSTP.out.2.2.o.cell
                gi_wp2_with (gi_at_builtin; refine wpListIn_append_own_at _ rfl _ _ 46 rfl W.heap.size 52 i0 (.agg #[.int .u64 0, .string ⟨#[]⟩]) 2 24 Try.underlying46 hi0 hz0 hz1 hz2 rfl (by decide) _ _ _ rfl (R1.out.alloc _) ⟨V.heap.size, 0, none⟩ 1 1 [.int .u64 x.1, .string x.2] rfl rfl HNEWS.out (by simp [Value.oneCell']) (by unfold maxLen; omega) (by omega) (by simp; omega) ?_; intro v' w9 hown' hgrow _ hob; obtain ⟨⟨a', c', rfl⟩, hv1, hk2, hkf, hgt⟩ := HSTP.out.2.2.app (out' := outL lo hi lim (pre ++ [x])) cN HX2S.out (by rw [HOUT.out]; simp) (by rw [HOUT.out, pc_append]; rfl) hown' hgrow hob; have hc1' := hv1.cell; have hf1 := hv1.frozen; have HGT := hid hgt; have HK2 := hid hk2; have HKF := hid hkf; clear hown' hgrow hob hgt hk2 hkf)
                refine ⟨(HSTP.out.1.trans HK2.out).from _, KeepF.trans HSTP.out.2.1 HKF.out, HGT.out.only, by rw [HLEN.out]; exact HGT.out.n, by rw [HLAST.out]; exact HGT.out.l, _, HGT.out.o, ?_⟩
                first | exact HGT.out.row | exact ⟨HGT.out.row, trivial⟩

              · have t4 : ¬ (nn : Int) < lim := by omega
                have HOUT := hid (show outL lo hi lim (pre ++ [x]) = outL lo hi lim pre from outL_full hbz (by rw [← HNN.out]; exact t3))
                gi_wp2
                refine ⟨HSTP.out.1.from _, HSTP.out.2.1, HSTP.out.2.2.only, by rw [HLEN.out]; exact HSTP.out.2.2.n, by rw [HLAST.out]; exact HSTP.out.2.2.l, _, HSTP.out.2.2.o, ?_⟩
                rw [HOUT.out]
                first | exact HSTP.out.2.2.row | exact ⟨HSTP.out.2.2.row, trivial⟩

            · have HOUT := hid (show outL lo hi lim (pre ++ [x]) = outL lo hi lim pre from outL_out (fun h => t2 h.2))
              gi_wp2
              refine ⟨HSTP.out.1.from _, HSTP.out.2.1, HSTP.out.2.2.only, by rw [HLEN.out]; exact HSTP.out.2.2.n, by rw [HLAST.out]; exact HSTP.out.2.2.l, _, HSTP.out.2.2.o, ?_⟩
              rw [HOUT.out]
              first | exact HSTP.out.2.2.row | exact ⟨HSTP.out.2.2.row, trivial⟩

          · have HOUT := hid (show outL lo hi lim (pre ++ [x]) = outL lo hi lim pre from outL_out (fun h => t1 h.1))
            gi_wp2
            refine ⟨HSTP.out.1.from _, HSTP.out.2.1, HSTP.out.2.2.only, by rw [HLEN.out]; exact HSTP.out.2.2.n, by rw [HLAST.out]; exact HSTP.out.2.2.l, _, HSTP.out.2.2.o, ?_⟩
            rw [HOUT.out]
            first | exact HSTP.out.2.2.row | exact ⟨HSTP.out.2.2.row, trivial⟩

        · have e0 : (ce == 0) = false := by rw [HCE.out]; simpa using hbz
          have HOUT := hid (show outL lo hi lim (pre ++ [x]) = outL lo hi lim pre from by rw [outL_bad hbz, outL_bad hbz])
          gi_wp2
          refine ⟨HSTP.out.1.from _, HSTP.out.2.1, HSTP.out.2.2.only, by rw [HLEN.out]; exact HSTP.out.2.2.n, by rw [HLAST.out]; exact HSTP.out.2.2.l, _, HSTP.out.2.2.o, ?_⟩
          rw [HOUT.out]
          first | exact HSTP.out.2.2.row | exact ⟨HSTP.out.2.2.row, trivial⟩


    case doneP =>
      rintro D2 zs V hD2 rfl ⟨ho2, hn, hl, ov, hov, hrow, _⟩ hK2
      rw [outL_all, ← HGL.out] at hrow
      obtain ⟨oa, oc, rfl⟩ := row_form hrow
      obtain ⟨np, hnp⟩ : ∃ np, np = List.length (absL L) := ⟨_, rfl⟩
      rw [← hnp] at hn
      have HNP := hid hnp
      have F8 := F7.out.only ho2 (fun k hk => by simp at hk; omega)
      have M8 := hid (M7.out.only ho2 (by have h9 := B5.out.map.obj.lt; simp; omega) (fun k hk hx => by have h9 := B5.out.map.own_lt k hk; simp at hx; omega))
      have kn := hn.cell
      have ko := hov.cell
      have y4 := F8.b4.cell 0
      have y5 := F8.b4.frozen 0
      have y6 := (ho2.blk E7.out (by simp; omega)).cell 0
      have GV : Hid (V.drew.ownsRow 0 52 2 (.slice ga gl.length gn) gl.length (pc gl)) := ho2.own (HX.out.own G6.out (fun k hk hx => by have h9 := (row_lt G5.out k hk).2; simp at hx; omega)) (fun k hk hx => by have h9 := (row_lt G5.out k hk).2; simp at hx; omega)
      have OV : Hid (V.drew.ownsRow 0 52 2 (.slice oa gl.length oc) gl.length (pc gl)) := row_zero hrow
      have MV := hid (M8.out.bel (bdrew (Below.refl _ _)))
      have KV := hid (F8.bel (bdrew (Below.refl _ _)))
      have hDX : D < W.heap.size := HDW.out
      have DA : Hid (V.drew.heap[D]? = some (.deferred (some []))) := (ho2.block D (by rw [HX2S.out]; omega) (by have h9 := HDX.out; simp at h9 ⊢; omega)).trans HK1.out
      have DB : Hid (V.drew.heap[D2]? = some (.deferred (some []))) := hK2
      have DV : Hid (D < V.drew.heap.size ∧ D2 < V.drew.heap.size) := ⟨(Array.getElem?_eq_some_iff.1 DA.out).1, (Array.getElem?_eq_some_iff.1 DB.out).1⟩
      have hwX : w.heap.size + 5 ≤ W.heap.size := by omega
      have BW : Hid (Below w.heap.size w V.drew) := bdrew (((B2W.out.trans (((ba (ba (Below.refl _ w5) (.cells #[.pointer (some ⟨m, 0, none⟩)] 59)) (.cells #[.int .i64 0] 3))).mono (by omega))).trans (HX.out.below (B := w.heap.size) (by simp; omega) (by simp; omega))).trans (ho2.below (B := w.heap.size) (by simp; omega) (by rw [HX2S.out]; omega)))
      refine hK1 _ _ ?_
      dsimp only
      have HD2 : Hid (W.heap.size + 2 ≤ D2) := by have h9 := hD2; rw [HX2S.out] at h9; exact h9
      clear hrow ho2 hn hl hov hK2 F8
      gi_wp2_with fail
      refine wpIn_mono (Q := CalmQ _) ?_ CalmQ.imp
      by_cases hce0 : ce = 0
      · have e1 : (ce != 0) = false := by simpa using hce0
        clear hce0
        gi_region_with (first
        | (refine ⟨trivial, ?_⟩; gi_at_call 24; (with_reducible refine (callsIn_wide.2 (Len_z m v (absL L) _ MV.out)).mono ?_); rintro e x9 ⟨rfl, rfl⟩; rw [← HNP.out])
        | (refine ⟨trivial, ?_⟩; gi_at_call 26; (with_reducible refine (callsIn_wide.2 (RSamePairs_z _ _ gl gl _ GV.out OV.out (by have := HG.out; omega) (by have := HG.out; omega))).mono ?_); rintro e V5 ⟨rfl, hb⟩; rw [pairsEq_self]; have KV5 := hid (KV.out.bel hb); have KV := KV5; have y7 := KV.out.b4.cell 0; have y8 := KV.out.b4.frozen 0; have DA := hid ((hb.block D (Nat.lt_of_lt_of_le DV.out.1 (Nat.le_refl _))).trans DA.out); have DB := hid ((hb.block D2 DV.out.2).trans DB.out); have DV : Hid (D < V5.heap.size ∧ D2 < V5.heap.size) := ⟨Nat.lt_of_lt_of_le DV.out.1 hb.size, Nat.lt_of_lt_of_le DV.out.2 hb.size⟩; have BW := hid (bx BW.out hb); clear hb)
        | (refine ⟨trivial, ?_⟩; gi_at_call 21; (with_reducible refine (callsIn_wide.2 (known_z22 _)).mono ?_); rintro e V6 ⟨rfl, hb⟩; have KV6 := hid (KV.out.bel hb); have y9 := KV6.out.b4.cell 0; have y10 := KV6.out.b4.frozen 0; have DA6 := hid ((hb.block D DV.out.1).trans DA.out); have DB6 := hid ((hb.block D2 DV.out.2).trans DB.out); have BW6 := hid (bx BW.out hb); clear hb))
        all_goals
          refine CalmQ.normal ?_
          try go_simp
          try simp only [Act.put, List.setIfInBounds_toArray, List.set_cons_zero, List.set_cons_succ]
          gi_wp2
          have hs7 := (KeepsOthers.setCell V6 ⟨w.heap.size + 1 + 1 + 1 + 1, 0, none⟩ (.bool true))
          have h2 := hs7.same D2 _ DB6.out rfl
          have h1 := hs7.same D _ DA6.out rfl
          have B7 : Boxed (V6.setCell ⟨w.heap.size + 1 + 1 + 1 + 1, 0, none⟩ (.bool true)) (w.heap.size + 1 + 1 + 1 + 1) 4 (.bool true) := Boxed.set (.bool true) KV6.out.b4
          have hd1 := HDX.out
          have hd2 := HD2.out
          have B9 := (B7.kept (grownBy_putObj' _ D2 (.deferred none)) (by intro e; injection e with e; omega)).kept (grownBy_putObj' _ D (.deferred none)) (by intro e; injection e with e; omega)
          have h1' := (World.putObj_heap_other (o := .deferred none) (w := V6.setCell ⟨w.heap.size + 1 + 1 + 1 + 1, 0, none⟩ (.bool true)) (show D ≠ D2 from by omega)).trans h1
          refine ⟨by simp, .inl ⟨_, _, rfl, run_takeDeferred h2, ?_⟩⟩
          refine ⟨by simp, .inl ⟨_, _, rfl, run_takeDeferred h1', ?_⟩⟩
          refine ⟨_, ?_, rfl, below_putObj (below_putObj (Below.setCell (p := ⟨w.heap.size + 1 + 1 + 1 + 1, 0, none⟩) BW6.out (by show w.heap.size ≤ w.heap.size + 1 + 1 + 1 + 1; omega) _) (by omega) _) (by omega) _⟩
          simp [results, Try.results9, go_sem, B9.cell]
      · obtain rfl : ce = 2 := by rw [HCE.out]; exact boundsErr_two (by rw [← HCE.out]; exact hce0)
        clear hce0
        first
          | gi_region_with (first
        | (refine ⟨trivial, ?_⟩; gi_at_call 24; (with_reducible refine (callsIn_wide.2 (Len_z m v (absL L) _ MV.out)).mono ?_); rintro e x9 ⟨rfl, rfl⟩; rw [← HNP.out])
        | (refine ⟨trivial, ?_⟩; gi_at_call 26; (with_reducible refine (callsIn_wide.2 (RSamePairs_z _ _ gl gl _ GV.out OV.out (by have := HG.out; omega) (by have := HG.out; omega))).mono ?_); rintro e V5 ⟨rfl, hb⟩; rw [pairsEq_self]; have KV5 := hid (KV.out.bel hb); have KV := KV5; have y7 := KV.out.b4.cell 0; have y8 := KV.out.b4.frozen 0; have DA := hid ((hb.block D (Nat.lt_of_lt_of_le DV.out.1 (Nat.le_refl _))).trans DA.out); have DB := hid ((hb.block D2 DV.out.2).trans DB.out); have DV : Hid (D < V5.heap.size ∧ D2 < V5.heap.size) := ⟨Nat.lt_of_lt_of_le DV.out.1 hb.size, Nat.lt_of_lt_of_le DV.out.2 hb.size⟩; have BW := hid (bx BW.out hb); clear hb)
        | (refine ⟨trivial, ?_⟩; gi_at_call 21; (with_reducible refine (callsIn_wide.2 (known_z22 _)).mono ?_); rintro e V6 ⟨rfl, hb⟩; have KV6 := hid (KV.out.bel hb); have y9 := KV6.out.b4.cell 0; have y10 := KV6.out.b4.frozen 0; have DA6 := hid ((hb.block D DV.out.1).trans DA.out); have DB6 := hid ((hb.block D2 DV.out.2).trans DB.out); have BW6 := hid (bx BW.out hb); clear hb)
        | (refine ⟨trivial, ?_⟩))
          | fail
        all_goals
          refine CalmQ.normal ?_
          try go_simp
          try simp only [Act.put, List.setIfInBounds_toArray, List.set_cons_zero, List.set_cons_succ]
          gi_wp2
          have hs7 := (KeepsOthers.setCell V6 ⟨w.heap.size + 1 + 1 + 1 + 1, 0, none⟩ (.bool true))
          have h2 := hs7.same D2 _ DB6.out rfl
          have h1 := hs7.same D _ DA6.out rfl
          have B7 : Boxed (V6.setCell ⟨w.heap.size + 1 + 1 + 1 + 1, 0, none⟩ (.bool true)) (w.heap.size + 1 + 1 + 1 + 1) 4 (.bool true) := Boxed.set (.bool true) KV6.out.b4
          have hd1 := HDX.out
          have hd2 := HD2.out
          have B9 := (B7.kept (grownBy_putObj' _ D2 (.deferred none)) (by intro e; injection e with e; omega)).kept (grownBy_putObj' _ D (.deferred none)) (by intro e; injection e with e; omega)
          have h1' := (World.putObj_heap_other (o := .deferred none) (w := V6.setCell ⟨w.heap.size + 1 + 1 + 1 + 1, 0, none⟩ (.bool true)) (show D ≠ D2 from by omega)).trans h1
          refine ⟨by simp, .inl ⟨_, _, rfl, run_takeDeferred h2, ?_⟩⟩
          refine ⟨by simp, .inl ⟨_, _, rfl, run_takeDeferred h1', ?_⟩⟩
          refine ⟨_, ?_, rfl, below_putObj (below_putObj (Below.setCell (p := ⟨w.heap.size + 1 + 1 + 1 + 1, 0, none⟩) BW6.out (by show w.heap.size ≤ w.heap.size + 1 + 1 + 1 + 1; omega) _) (by omega) _) (by omega) _⟩
          simp [results, Try.results9, go_sem, B9.cell]
    case stopP =>
      rintro D2 c0 pre V hD2 hpre ⟨rfl, pre0, x, rfl, hne, hx⟩ hK2
      exact (last_rises (absL_rises L) hpre hne hx).elim

  case stop =>
    rintro D c0 pre W hD hpre ⟨rfl, ho, z, hb⟩ hK
    have hWz : w5.heap.size + 1 + 1 ≤ W.heap.size := by have := ho.size; simp at this; omega
    have HO1 := hid ho
    have hQ := (hb.alloc (.cells #[.slice none 0 0] 46)).alloc (.cells #[.int .u64 0] 29)
    have q0 := hQ.cell
    have q1 := hQ.frozen
    have cN : w5.heap.size + 1 < W.heap.size := by omega
    have HN2 := hid (hQ.set (.int .i64 0))
    have HX := hid (((ho.alloc (.cells #[.slice none 0 0] 46)).alloc (.cells #[.int .u64 0] 29)).setCell (p := ⟨w5.heap.size + 1, 0, none⟩) (Or.inl (by simp)) (.int .i64 0))
    have HOB : Hid (Boxed (((W.alloc (.cells #[.slice none 0 0] 46)).alloc (.cells #[.int .u64 0] 29)).setCell ⟨w5.heap.size + 1, 0, none⟩ (.int .i64 0)) W.heap.size 46 (.slice none 0 0)) := ((Boxed.new W 46 (.slice none 0 0)).alloc _).other (by omega) _
    have HLB : Hid (Boxed (((W.alloc (.cells #[.slice none 0 0] 46)).alloc (.cells #[.int .u64 0] 29)).setCell ⟨w5.heap.size + 1, 0, none⟩ (.int .i64 0)) (W.heap.size + 1) 29 (.int .u64 0)) := by
      have := Boxed.new (W.alloc (.cells #[.slice none 0 0] 46)) 29 (.int .u64 0)
      rw [World.size_alloc] at this
      exact this.other (by omega) _
    have HX2S : Hid ((((W.alloc (.cells #[.slice none 0 0] 46)).alloc (.cells #[.int .u64 0] 29)).setCell ⟨w5.heap.size + 1, 0, none⟩ (.int .i64 0)).heap.size = W.heap.size + 2) := hid (by simp)
    have HDW : Hid (D < W.heap.size) := (Array.getElem?_eq_some_iff.1 hK).1
    have HDX : Hid (w5.heap.size + 1 + 1 ≤ D) := by have h9 := hD; simp at h9; exact h9
    have HK1 := hid ((((KeepsOthers.alloc W (.cells #[.slice none 0 0] 46)).trans (KeepsOthers.alloc _ (.cells #[.int .u64 0] 29))).trans (KeepsOthers.setCell _ ⟨w5.heap.size + 1, 0, none⟩ (.int .i64 0))).same D _ hK rfl)
    have M7 := hid (M6.out.only HX.out (by have h9 := B5.out.map.obj.lt; simp; omega) (fun k hk hx => by have h9 := B5.out.map.own_lt k hk; simp at hx; omega))
    have F7 := hid (F6.out.only HX.out (fun k hk => by simp at hk; omega))
    have E7 := hid (HX.out.blk E6.out (by simp; omega))
    have hP : (((W.alloc (.cells #[.slice none 0 0] 46)).alloc (.cells #[.int .u64 0] 29)).setCell ⟨w5.heap.size + 1, 0, none⟩ (.int .i64 0)).cell? ⟨w5.heap.size, 0, none⟩ = some (.pointer (some ⟨m, 0, none⟩)) := (HX.out.cell (p := ⟨w5.heap.size, 0, none⟩) (by simp; omega) (by simp)).trans (by go_simp)
    have HP := hid hP
    clear ho hb hK hQ hP
    gi_wp2_with fail
    rename_i K1 hK1
    clear q0 q1
    refine wpIn_rangeFunc_ownG rfl (by omega) (gf := 68) (lb := #[.pointer (some ⟨w5.heap.size, 0, none⟩)]) rfl trivial (enters_of Try.func68 (by kernel_rfl) rfl)
      (All_stops 4 (absL L) (.pointer (some ⟨m, 0, none⟩)) [w5.heap.size + 1, W.heap.size, W.heap.size + 1] W.heap.size w5.heap.size _ (by simp; omega) ?hFS HP.out (MapAny.of M7.out)) KeepF.trans ?hKbS (Below.refl _ _) (fun _ => rfl)
      (fun pre V => Only [w5.heap.size + 1, W.heap.size, W.heap.size + 1] (((W.alloc (.cells #[.slice none 0 0] 46)).alloc (.cells #[.int .u64 0] 29)).setCell ⟨w5.heap.size + 1, 0, none⟩ (.int .i64 0)) V ∧ Boxed V (w5.heap.size + 1) 3 (.int .i64 (List.length pre)) ∧ Boxed V (W.heap.size + 1) 29 (.int .u64 (lastK pre)) ∧ ∃ ov, Boxed V W.heap.size 46 ov ∧ V.ownsRow W.heap.size 52 2 ov (outL lo hi lim pre).length (pc (outL lo hi lim pre)) ∧ True)
      (fun c pre V => c = .ret ∧ ∃ pre0 x, pre = pre0 ++ [x] ∧ pre0 ≠ [] ∧ x.1 ≤ lastK pre0)
      (OwnFrom.and (OwnFrom.only _ _ (Nat.le_refl _)) (OwnFrom.and (Own.from (boxed_own (w5.heap.size + 1) 3 (fun pre => .int .i64 (List.length pre))) _) (OwnFrom.and (Own.from (boxed_own (W.heap.size + 1) 29 (fun pre => .int .u64 (lastK pre))) _) (Own.from (holdsRow_own W.heap.size W.heap.size 46 52 2 (fun pre => (outL lo hi lim pre).length) (fun pre => pc (outL lo hi lim pre)) (fun _ _ => True)) _))))
      (fun c => ownFrom_pure _ _) ⟨Only.refl _ _, HN2.out, HLB.out, _, HOB.out, by rw [outL_nil]; exact ⟨rfl, Or.inl ⟨rfl, rfl⟩⟩, trivial⟩
      ?a1S ?assignS ?bodyS ?doneS ?stopS
    case hFS =>
      intro x hx
      rw [mem_ft] at hx
      rcases hx with hx | hx
      · simp at hx ⊢; omega
      · rw [HOB.out.cell] at hx; cases hx
    case hKbS =>
      intro V l o o' hl ho hc hw
      exact KeepF.putObj ho hc (by simp at hl; omega)
    case assignS =>
      intro l x V K hK
      gi_wp2
      exact hK
    case bodyS =>
      rintro l pre x V ⟨ho2, hn, hl, ov, hov, hrow, _⟩ hlt
      have HG2 : Hid (Got (((W.alloc (.cells #[.slice none 0 0] 46)).alloc (.cells #[.int .u64 0] 29)).setCell ⟨w5.heap.size + 1, 0, none⟩ (.int .i64 0)) (w5.heap.size + 1) W.heap.size (List.length pre) (lastK pre) ov (outL lo hi lim pre) V) := ⟨ho2, hn, hl, hov, hrow⟩
      have F8 := F7.out.only ho2 (fun k hk => by simp at hk; omega)
      have hVs : W.heap.size + 2 ≤ V.heap.size := by have := ho2.size; rw [HX2S.out] at this; exact this
      have y0 := F8.b0.cell 0
      have y1 := F8.b1.cell 0
      have y2 := F8.b2.cell 0
      have y4 := F8.b4.cell 0
      have y5 := F8.b4.frozen 0
      have y6 := (ho2.blk E7.out (by simp; omega)).cell 0
      have kn := hn.cell
      have kn2 := hn.frozen
      have kl := hl.cell
      have kl2 := hl.frozen
      have ko := hov.cell
      have ko3 := hov.frozen
      obtain ⟨oa, oc, rfl⟩ := row_form hrow
      obtain ⟨cnt, hcnt⟩ : ∃ cnt, cnt = List.length pre := ⟨_, rfl⟩
      obtain ⟨lk, hlk⟩ : ∃ lk, lk = lastK pre := ⟨_, rfl⟩
      obtain ⟨nn, hnn⟩ : ∃ nn, nn = (outL lo hi lim pre).length := ⟨_, rfl⟩
      have HNN := hid hnn
      have hn256 : nn ≤ 256 := by rw [hnn]; exact outL_len
      rw [← hcnt] at kn hlt HG2
      rw [← hlk] at kl HG2
      rw [← hnn] at ko HG2
      have HLEN := hid (show (List.length (pre ++ [x]) : Int) = (cnt : Int) + 1 by rw [List.length_append, ← hcnt]; rfl)
      have HLAST := hid (lastK_snoc pre x)
      have HNE := hid (show 0 < cnt → pre ≠ [] from fun h e => by rw [hcnt, e] at h; simp at h)
      have HLK := hid hlk
      have hc40 : cnt < 40 := by have := hlen.out; omega
      have HSTP := hid (HG2.out.step cN ((cnt : Int) + 1) x.1)
      obtain ⟨i0, hi0, hz0, hz1, hz2⟩ := info_parts infoPair
      clear ho2 hn hl hov hrow F8 hcnt hlk hnn
      by_cases g1 : 0 < cnt
      · have g2 : (cnt : Int) > 0 := by omega
        by_cases g3 : x.1 ≤ lk
        · gi_wp2
          exact ⟨(KeepsOthers.setCell _ _ _).from _, rfl, pre, x, rfl, HNE.out g1, by rw [← HLK.out]; exact g3⟩
        · by_cases hbz : boundsErr lo hi lim = 0
          · have e0 : (ce == 0) = true := by rw [HCE.out]; simpa using hbz
            have hlim := hid (outL_lim (pre := pre) hbz)
            obtain ⟨_, hl1, hl2⟩ := bounds_ok hbz
            by_cases t1 : lo ≤ x.1
            · by_cases t2 : x.1 ≤ hi
              · by_cases t3 : nn < lim.toNat
                · have t4 : (nn : Int) < lim := by omega
                  have HOUT := hid (show outL lo hi lim (pre ++ [x]) = outL lo hi lim pre ++ [x] from outL_in hbz ⟨t1, t2⟩ (by rw [← HNN.out]; exact t3))
                  have R1 := hid HSTP.out.2.2.row
                  have hl256 : (outL lo hi lim pre).length ≤ 256 := outL_len
                  have HNEWS : Hid (∀ j u, [Value.int .u64 x.1, .string x.2][j]? = some u → (((V.setCell ⟨W.heap.size + 1, 0, none⟩ (.int .u64 x.1)).setCell ⟨w5.heap.size + 1, 0, none⟩ (.int .i64 ((cnt : Int) + 1))).alloc (.cells #[.int .u64 x.1, .string x.2] 52)).cell? ((⟨V.heap.size, 0, none⟩ : Addr).add j) = some u) := by
                    have h9 := cells_two_new ((V.setCell ⟨W.heap.size + 1, 0, none⟩ (.int .u64 x.1)).setCell ⟨w5.heap.size + 1, 0, none⟩ (.int .i64 ((cnt : Int) + 1))) (.int .u64 x.1) (.string x.2) 52
                    rw [show ((V.setCell ⟨W.heap.size + 1, 0, none⟩ (.int .u64 x.1)).setCell ⟨w5.heap.size + 1, 0, none⟩ (.int .i64 ((cnt : Int) + 1))).heap.size = V.heap.size from by simp] at h9
                    exact h9
                  have ko2 := HSTP.out.2.2.o.cell
                  gi_wp2_with (gi_at_builtin; refine wpListIn_append_own_at _ rfl _ _ 46 rfl W.heap.size 52 i0 (.agg #[.int .u64 0, .string ⟨#[]⟩]) 2 24 Try.underlying46 hi0 hz0 hz1 hz2 rfl (by decide) _ _ _ rfl (R1.out.alloc _) ⟨V.heap.size, 0, none⟩ 1 1 [.int .u64 x.1, .string x.2] rfl rfl HNEWS.out (by simp [Value.oneCell']) (by unfold maxLen; omega) (by omega) (by simp; omega) ?_; intro v' w9 hown' hgrow _ hob; obtain ⟨⟨a', c', rfl⟩, hv1, hk2, hkf, hgt⟩ := HSTP.out.2.2.app (out' := outL lo hi lim (pre ++ [x])) cN HX2S.out (by rw [HOUT.out]; simp) (by rw [HOUT.out, pc_append]; rfl) hown' hgrow hob; have hc1' := hv1.cell; have hf1 := hv1.frozen; have HGT := hid hgt; have HK2 := hid hk2; have HKF := hid hkf; clear hown' hgrow hob hgt hk2 hkf)
                  refine ⟨(HSTP.out.1.trans HK2.out).from _, KeepF.trans HSTP.out.2.1 HKF.out, HGT.out.only, by rw [HLEN.out]; exact HGT.out.n, by rw [HLAST.out]; exact HGT.out.l, _, HGT.out.o, ?_⟩
                  first | exact HGT.out.row | exact ⟨HGT.out.row, trivial⟩

                · have t4 : ¬ (nn : Int) < lim := by omega
                  have HOUT := hid (show outL lo hi lim (pre ++ [x]) = outL lo hi lim pre from outL_full hbz (by rw [← HNN.out]; exact t3))
                  gi_wp2
                  refine ⟨HSTP.out.1.from _, HSTP.out.2.1, HSTP.out.2.2.only, by rw [HLEN.out]; exact HSTP.out.2.2.n, by rw [HLAST.out]; exact HSTP.out.2.2.l, _, HSTP.out.2.2.o, ?_⟩
                  rw [HOUT.out]
                  first | exact HSTP.out.2.2.row | exact ⟨HSTP.out.2.2.row, trivial⟩

              · have HOUT := hid (show outL lo hi lim (pre ++ [x]) = outL lo hi lim pre from outL_out (fun h => t2 h.2))
                gi_wp2
                refine ⟨HSTP.out.1.from _, HSTP.out.2.1, HSTP.out.2.2.only, by rw [HLEN.out]; exact HSTP.out.2.2.n, by rw [HLAST.out]; exact HSTP.out.2.2.l, _, HSTP.out.2.2.o, ?_⟩
                rw [HOUT.out]
                first | exact HSTP.out.2.2.row | exact ⟨HSTP.out.2.2.row, trivial⟩

            · have HOUT := hid (show outL lo hi lim (pre ++ [x]) = outL lo hi lim pre from outL_out (fun h => t1 h.1))
              gi_wp2
              refine ⟨HSTP.out.1.from _, HSTP.out.2.1, HSTP.out.2.2.only, by rw [HLEN.out]; exact HSTP.out.2.2.n, by rw [HLAST.out]; exact HSTP.out.2.2.l, _, HSTP.out.2.2.o, ?_⟩
              rw [HOUT.out]
              first | exact HSTP.out.2.2.row | exact ⟨HSTP.out.2.2.row, trivial⟩

          · have e0 : (ce == 0) = false := by rw [HCE.out]; simpa using hbz
            have HOUT := hid (show outL lo hi lim (pre ++ [x]) = outL lo hi lim pre from by rw [outL_bad hbz, outL_bad hbz])
            gi_wp2
            refine ⟨HSTP.out.1.from _, HSTP.out.2.1, HSTP.out.2.2.only, by rw [HLEN.out]; exact HSTP.out.2.2.n, by rw [HLAST.out]; exact HSTP.out.2.2.l, _, HSTP.out.2.2.o, ?_⟩
            rw [HOUT.out]
            first | exact HSTP.out.2.2.row | exact ⟨HSTP.out.2.2.row, trivial⟩


      · obtain rfl : cnt = 0 := by omega
        have HSTP := hid (HG2.out.step cN 1 x.1)
        have HLEN := hid (show (List.length (pre ++ [x]) : Int) = 1 by rw [HLEN.out]; rfl)
        by_cases hbz : boundsErr lo hi lim = 0
        · have e0 : (ce == 0) = true := by rw [HCE.out]; simpa using hbz
          have hlim := hid (outL_lim (pre := pre) hbz)
          obtain ⟨_, hl1, hl2⟩ := bounds_ok hbz
          by_cases t1 : lo ≤ x.1
          · by_cases t2 : x.1 ≤ hi
            · by_cases t3 : nn < lim.toNat
              · have t4 : (nn : Int) < lim := by omega
                have HOUT := hid (show outL lo hi lim (pre ++ [x]) = outL lo hi lim pre ++ [x] from outL_in hbz ⟨t1, t2⟩ (by rw [← HNN.out]; exact t3))
                have R1 := hid HSTP.out.2.2.row
                have hl256 : (outL lo hi lim pre).length ≤ 256 := outL_len
                have HNEWS : Hid (∀ j u, [Value.int .u64 x.1, .string x.2][j]? = some u → (((V.setCell ⟨W.heap.size + 1, 0, none⟩ (.int .u64 x.1)).setCell ⟨w5.heap.size + 1, 0, none⟩ (.int .i64 1)).alloc (.cells #[.int .u64 x.1, .string x.2] 52)).cell? ((⟨V.heap.size, 0, none⟩ : Addr).add j) = some u) := by
                  have h9 := cells_two_new ((V.setCell ⟨W.heap.size + 1, 0, none⟩ (.int .u64 x.1)).setCell ⟨w5.heap.size + 1, 0, none⟩ (.int .i64 1)) (.int .u64 x.1) (.string x.2) 52
                  rw [show ((V.setCell ⟨W.heap.size + 1, 0, none⟩ (.int .u64 x.1)).setCell ⟨w5.heap.size + 1, 0, none⟩ (.int .i64 1)).heap.size = V.heap.size from by simp] at h9
                  exact h9
                have ko2 := HSTP.out.2.2.o.cell
                gi_wp2_with (gi_at_builtin; refine wpListIn_append_own_at _ rfl _ _ 46 rfl W.heap.size 52 i0 (.agg #[.int .u64 0, .string ⟨#[]⟩]) 2 24 Try.underlying46 hi0 hz0 hz1 hz2 rfl (by decide) _ _ _ rfl (R1.out.alloc _) ⟨V.heap.size, 0, none⟩ 1 1 [.int .u64 x.1, .string x.2] rfl rfl HNEWS.out (by simp [Value.oneCell']) (by unfold maxLen; omega) (by omega) (by simp; omega) ?_; intro v' w9 hown' hgrow _ hob; obtain ⟨⟨a', c', rfl⟩, hv1, hk2, hkf, hgt⟩ := HSTP.out.2.2.app (out' := outL lo hi lim (pre ++ [x])) cN HX2S.out (by rw [HOUT.out]; simp) (by rw [HOUT.out, pc_append]; rfl) hown' hgrow hob; have hc1' := hv1.cell; have hf1 := hv1.frozen; have HGT := hid hgt; have HK2 := hid hk2; have HKF := hid hkf; clear hown' hgrow hob hgt hk2 hkf)
                refine ⟨(HSTP.out.1.trans HK2.out).from _, KeepF.trans HSTP.out.2.1 HKF.out, HGT.out.only, by rw [HLEN.out]; exact HGT.out.n, by rw [HLAST.out]; exact HGT.out.l, _, HGT.out.o, ?_⟩
                first | exact HGT.out.row | exact ⟨HGT.out.row, trivial⟩

              · have t4 : ¬ (nn : Int) < lim := by omega
                have HOUT := hid (show outL lo hi lim (pre ++ [x]) = outL lo hi lim pre from outL_full hbz (by rw [← HNN.out]; exact t3))
                gi_wp2
                refine ⟨HSTP.out.1.from _, HSTP.out.2.1, HSTP.out.2.2.only, by rw [HLEN.out]; exact HSTP.out.2.2.n, by rw [HLAST.out]; exact HSTP.out.2.2.l, _, HSTP.out.2.2.o, ?_⟩
                rw [HOUT.out]
                first | exact HSTP.out.2.2.row | exact ⟨HSTP.out.2.2.row, trivial⟩

            · have HOUT := hid (show outL lo hi lim (pre ++ [x]) = outL lo hi lim pre from outL_out (fun h => t2 h.2))
              gi_wp2
              refine ⟨HSTP.out.1.from _, HSTP.out.2.1, HSTP.out.2.2.only, by rw [HLEN.out]; exact HSTP.out.2.2.n, by rw [HLAST.out]; exact HSTP.out.2.2.l, _, HSTP.out.2.2.o, ?_⟩
              rw [HOUT.out]
              first | exact HSTP.out.2.2.row | exact ⟨HSTP.out.2.2.row, trivial⟩

          · have HOUT := hid (show outL lo hi lim (pre ++ [x]) = outL lo hi lim pre from outL_out (fun h => t1 h.1))
            gi_wp2
            refine ⟨HSTP.out.1.from _, HSTP.out.2.1, HSTP.out.2.2.only, by rw [HLEN.out]; exact HSTP.out.2.2.n, by rw [HLAST.out]; exact HSTP.out.2.2.l, _, HSTP.out.2.2.o, ?_⟩
            rw [HOUT.out]
            first | exact HSTP.out.2.2.row | exact ⟨HSTP.out.2.2.row, trivial⟩

        · have e0 : (ce == 0) = false := by rw [HCE.out]; simpa using hbz
          have HOUT := hid (show outL lo hi lim (pre ++ [x]) = outL lo hi lim pre from by rw [outL_bad hbz, outL_bad hbz])
          gi_wp2
          refine ⟨HSTP.out.1.from _, HSTP.out.2.1, HSTP.out.2.2.only, by rw [HLEN.out]; exact HSTP.out.2.2.n, by rw [HLAST.out]; exact HSTP.out.2.2.l, _, HSTP.out.2.2.o, ?_⟩
          rw [HOUT.out]
          first | exact HSTP.out.2.2.row | exact ⟨HSTP.out.2.2.row, trivial⟩


    case doneS =>
      rintro D2 zs V hD2 rfl ⟨ho2, hn, hl, ov, hov, hrow, _⟩ hK2
      rw [outL_all, ← HGL.out] at hrow
      obtain ⟨oa, oc, rfl⟩ := row_form hrow
      obtain ⟨np, hnp⟩ : ∃ np, np = List.length (absL L) := ⟨_, rfl⟩
      rw [← hnp] at hn
      have HNP := hid hnp
      have F8 := F7.out.only ho2 (fun k hk => by simp at hk; omega)
      have M8 := hid (M7.out.only ho2 (by have h9 := B5.out.map.obj.lt; simp; omega) (fun k hk hx => by have h9 := B5.out.map.own_lt k hk; simp at hx; omega))
      have kn := hn.cell
      have ko := hov.cell
      have y4 := F8.b4.cell 0
      have y5 := F8.b4.frozen 0
      have y6 := (ho2.blk E7.out (by simp; omega)).cell 0
      have GV : Hid (V.drew.ownsRow 0 52 2 (.slice ga gl.length gn) gl.length (pc gl)) := ho2.own (HX.out.own G6.out (fun k hk hx => by have h9 := (row_lt G5.out k hk).2; simp at hx; omega)) (fun k hk hx => by have h9 := (row_lt G5.out k hk).2; simp at hx; omega)
      have OV : Hid (V.drew.ownsRow 0 52 2 (.slice oa gl.length oc) gl.length (pc gl)) := row_zero hrow
      have MV := hid (M8.out.bel (bdrew (Below.refl _ _)))
      have KV := hid (F8.bel (bdrew (Below.refl _ _)))
      have hDX : D < W.heap.size := HDW.out
      have DA : Hid (V.drew.heap[D]? = some (.deferred (some []))) := (ho2.block D (by rw [HX2S.out]; omega) (by have h9 := HDX.out; simp at h9 ⊢; omega)).trans HK1.out
      have DB : Hid (V.drew.heap[D2]? = some (.deferred (some []))) := hK2
      have DV : Hid (D < V.drew.heap.size ∧ D2 < V.drew.heap.size) := ⟨(Array.getElem?_eq_some_iff.1 DA.out).1, (Array.getElem?_eq_some_iff.1 DB.out).1⟩
      have hwX : w.heap.size + 5 ≤ W.heap.size := by omega
      have BW : Hid (Below w.heap.size w V.drew) := bdrew (((B2W.out.trans (((ba (ba (Below.refl _ w5) (.cells #[.pointer (some ⟨m, 0, none⟩)] 59)) (.cells #[.int .i64 0] 3))).mono (by omega))).trans (HX.out.below (B := w.heap.size) (by simp; omega) (by simp; omega))).trans (ho2.below (B := w.heap.size) (by simp; omega) (by rw [HX2S.out]; omega)))
      refine hK1 _ _ ?_
      dsimp only
      have HD2 : Hid (W.heap.size + 2 ≤ D2) := by have h9 := hD2; rw [HX2S.out] at h9; exact h9
      clear hrow ho2 hn hl hov hK2 F8
      gi_wp2_with fail
      refine wpIn_mono (Q := CalmQ _) ?_ CalmQ.imp
      by_cases hce0 : ce = 0
      · have e1 : (ce != 0) = false := by simpa using hce0
        clear hce0
        gi_region_with (first
        | (refine ⟨trivial, ?_⟩; gi_at_call 24; (with_reducible refine (callsIn_wide.2 (Len_z m v (absL L) _ MV.out)).mono ?_); rintro e x9 ⟨rfl, rfl⟩; rw [← HNP.out])
        | (refine ⟨trivial, ?_⟩; gi_at_call 26; (with_reducible refine (callsIn_wide.2 (RSamePairs_z _ _ gl gl _ GV.out OV.out (by have := HG.out; omega) (by have := HG.out; omega))).mono ?_); rintro e V5 ⟨rfl, hb⟩; rw [pairsEq_self]; have KV5 := hid (KV.out.bel hb); have KV := KV5; have y7 := KV.out.b4.cell 0; have y8 := KV.out.b4.frozen 0; have DA := hid ((hb.block D (Nat.lt_of_lt_of_le DV.out.1 (Nat.le_refl _))).trans DA.out); have DB := hid ((hb.block D2 DV.out.2).trans DB.out); have DV : Hid (D < V5.heap.size ∧ D2 < V5.heap.size) := ⟨Nat.lt_of_lt_of_le DV.out.1 hb.size, Nat.lt_of_lt_of_le DV.out.2 hb.size⟩; have BW := hid (bx BW.out hb); clear hb)
        | (refine ⟨trivial, ?_⟩; gi_at_call 21; (with_reducible refine (callsIn_wide.2 (known_z22 _)).mono ?_); rintro e V6 ⟨rfl, hb⟩; have KV6 := hid (KV.out.bel hb); have y9 := KV6.out.b4.cell 0; have y10 := KV6.out.b4.frozen 0; have DA6 := hid ((hb.block D DV.out.1).trans DA.out); have DB6 := hid ((hb.block D2 DV.out.2).trans DB.out); have BW6 := hid (bx BW.out hb); clear hb))
        all_goals
          refine CalmQ.normal ?_
          try go_simp
          try simp only [Act.put, List.setIfInBounds_toArray, List.set_cons_zero, List.set_cons_succ]
          gi_wp2
          have hs7 := (KeepsOthers.setCell V6 ⟨w.heap.size + 1 + 1 + 1 + 1, 0, none⟩ (.bool true))
          have h2 := hs7.same D2 _ DB6.out rfl
          have h1 := hs7.same D _ DA6.out rfl
          have B7 : Boxed (V6.setCell ⟨w.heap.size + 1 + 1 + 1 + 1, 0, none⟩ (.bool true)) (w.heap.size + 1 + 1 + 1 + 1) 4 (.bool true) := Boxed.set (.bool true) KV6.out.b4
          have hd1 := HDX.out
          have hd2 := HD2.out
          have B9 := (B7.kept (grownBy_putObj' _ D2 (.deferred none)) (by intro e; injection e with e; omega)).kept (grownBy_putObj' _ D (.deferred none)) (by intro e; injection e with e; omega)
          have h1' := (World.putObj_heap_other (o := .deferred none) (w := V6.setCell ⟨w.heap.size + 1 + 1 + 1 + 1, 0, none⟩ (.bool true)) (show D ≠ D2 from by omega)).trans h1
          refine ⟨by simp, .inl ⟨_, _, rfl, run_takeDeferred h2, ?_⟩⟩
          refine ⟨by simp, .inl ⟨_, _, rfl, run_takeDeferred h1', ?_⟩⟩
          refine ⟨_, ?_, rfl, below_putObj (below_putObj (Below.setCell (p := ⟨w.heap.size + 1 + 1 + 1 + 1, 0, none⟩) BW6.out (by show w.heap.size ≤ w.heap.size + 1 + 1 + 1 + 1; omega) _) (by omega) _) (by omega) _⟩
          simp [results, Try.results9, go_sem, B9.cell]
      · obtain rfl : ce = 2 := by rw [HCE.out]; exact boundsErr_two (by rw [← HCE.out]; exact hce0)
        clear hce0
        first
          | gi_region_with (first
        | (refine ⟨trivial, ?_⟩; gi_at_call 24; (with_reducible refine (callsIn_wide.2 (Len_z m v (absL L) _ MV.out)).mono ?_); rintro e x9 ⟨rfl, rfl⟩; rw [← HNP.out])
        | (refine ⟨trivial, ?_⟩; gi_at_call 26; (with_reducible refine (callsIn_wide.2 (RSamePairs_z _ _ gl gl _ GV.out OV.out (by have := HG.out; omega) (by have := HG.out; omega))).mono ?_); rintro e V5 ⟨rfl, hb⟩; rw [pairsEq_self]; have KV5 := hid (KV.out.bel hb); have KV := KV5; have y7 := KV.out.b4.cell 0; have y8 := KV.out.b4.frozen 0; have DA := hid ((hb.block D (Nat.lt_of_lt_of_le DV.out.1 (Nat.le_refl _))).trans DA.out); have DB := hid ((hb.block D2 DV.out.2).trans DB.out); have DV : Hid (D < V5.heap.size ∧ D2 < V5.heap.size) := ⟨Nat.lt_of_lt_of_le DV.out.1 hb.size, Nat.lt_of_lt_of_le DV.out.2 hb.size⟩; have BW := hid (bx BW.out hb); clear hb)
        | (refine ⟨trivial, ?_⟩; gi_at_call 21; (with_reducible refine (callsIn_wide.2 (known_z22 _)).mono ?_); rintro e V6 ⟨rfl, hb⟩; have KV6 := hid (KV.out.bel hb); have y9 := KV6.out.b4.cell 0; have y10 := KV6.out.b4.frozen 0; have DA6 := hid ((hb.block D DV.out.1).trans DA.out); have DB6 := hid ((hb.block D2 DV.out.2).trans DB.out); have BW6 := hid (bx BW.out hb); clear hb)
        | (refine ⟨trivial, ?_⟩))
          | fail
        all_goals
          refine CalmQ.normal ?_
          try go_simp
          try simp only [Act.put, List.setIfInBounds_toArray, List.set_cons_zero, List.set_cons_succ]
          gi_wp2
          have hs7 := (KeepsOthers.setCell V6 ⟨w.heap.size + 1 + 1 + 1 + 1, 0, none⟩ (.bool true))
          have h2 := hs7.same D2 _ DB6.out rfl
          have h1 := hs7.same D _ DA6.out rfl
          have B7 : Boxed (V6.setCell ⟨w.heap.size + 1 + 1 + 1 + 1, 0, none⟩ (.bool true)) (w.heap.size + 1 + 1 + 1 + 1) 4 (.bool true) := Boxed.set (.bool true) KV6.out.b4
          have hd1 := HDX.out
          have hd2 := HD2.out
          have B9 := (B7.kept (grownBy_putObj' _ D2 (.deferred none)) (by intro e; injection e with e; omega)).kept (grownBy_putObj' _ D (.deferred none)) (by intro e; injection e with e; omega)
          have h1' := (World.putObj_heap_other (o := .deferred none) (w := V6.setCell ⟨w.heap.size + 1 + 1 + 1 + 1, 0, none⟩ (.bool true)) (show D ≠ D2 from by omega)).trans h1
          refine ⟨by simp, .inl ⟨_, _, rfl, run_takeDeferred h2, ?_⟩⟩
          refine ⟨by simp, .inl ⟨_, _, rfl, run_takeDeferred h1', ?_⟩⟩
          refine ⟨_, ?_, rfl, below_putObj (below_putObj (Below.setCell (p := ⟨w.heap.size + 1 + 1 + 1 + 1, 0, none⟩) BW6.out (by show w.heap.size ≤ w.heap.size + 1 + 1 + 1 + 1; omega) _) (by omega) _) (by omega) _⟩
          simp [results, Try.results9, go_sem, B9.cell]
    case stopS =>
      rintro D2 c0 pre V hD2 hpre ⟨rfl, pre0, x, rfl, hne, hx⟩ hK2
      exact (last_rises (absL_rises L) hpre hne hx).elim

set_option maxRecDepth 100000 in
set_option maxHeartbeats 1000000 in
theorem ModelScans_many (v0 : Value) (cs : List CallT) (lo hi lim few2 : Int) (w : World) (h : CallsAt w v0 cs) (hm : cs.length ≤ 9223372036854775807) (hf : fewB cs 40 = false) : CallsIn Fence.wide 5 Try.prog 9 #[v0, .int .u64 lo, .int .u64 hi, .int .i64 lim, .int .i64 few2] w fun e w' => e = .returned (.bool true) ∧ Below w.heap.size w w' := by
  have HF := hid hf
  have HH := hid h
  obtain ⟨ao, cap, hv, _⟩ := h
  subst hv
  clear hf
  refine callsIn_of_wp_marks Try.func9 rfl trivial ?_ rfl
  simp only [Try.ntmps9, List.size_toArray, List.length_cons, List.length_nil, Nat.reduceAdd, Nat.reduceSub, Array.replicate_succ, Array.replicate_zero, List.push_toArray, List.append_toArray, List.nil_append, List.cons_append]
  gi_wp2_with fail
  refine ⟨trivial, (callsIn_wide.2 (few_z _ cs 40 _ (HH.out.bel (by (repeat (first | exact Below.refl _ _ | (refine ba ?_ _) | (refine Below.drew ?_) | (refine below_drewN ?_ _) | (refine Below.alloc ?_ (by first | omega | (simp; done) | (simp; omega)) _) | (refine Below.setCell ?_ (by first | omega | (simp; done) | (simp; omega)) _) | (refine bx ?_ (by assumption)) | (refine Below.trans ?_ (Below.mono (by assumption) (by first | omega | (simp; done) | (simp; omega)))))))) hm)).mono ?_⟩
  rintro e w1 ⟨rfl, rfl⟩
  rw [HF.out]
  gi_wp2_with fail
  refine ⟨trivial, (callsIn_wide.2 (known_z22 _)).mono ?_⟩
  rintro e w2 ⟨rfl, hb⟩
  obtain ⟨F0, hF5, hFb⟩ := Five.new w lo hi lim few2
  have F2 := hid (F0.bel (W' := w2) hb)
  have HB := hid (bx hFb (c := w2) hb)
  have c0 := F2.out.b4.cell 0
  have c1 := F2.out.b4.frozen 0
  clear hb F0 hF5 hFb
  gi_wp2
  have B7 : Boxed (w2.setCell ⟨w.heap.size + 1 + 1 + 1 + 1, 0, none⟩ (.bool true)) (w.heap.size + 1 + 1 + 1 + 1) 4 (.bool true) := Boxed.set (.bool true) F2.out.b4
  refine ⟨_, ?_, rfl, Below.setCell (p := ⟨w.heap.size + 1 + 1 + 1 + 1, 0, none⟩) HB.out (by show w.heap.size ≤ w.heap.size + 1 + 1 + 1 + 1; omega) _⟩
  simp [results, Try.results9, go_sem, B7.cell]

theorem ModelScans_z (v0 : Value) (cs : List CallT) (lo hi lim few2 : Int) (w : World) (h : CallsAt w v0 cs) (hm : cs.length ≤ 9223372036854775807) (_ : 0 ≤ lo) (_ : lo ≤ 18446744073709551615) (_ : 0 ≤ hi) (_ : hi ≤ 18446744073709551615) (_ : -9223372036854775808 ≤ lim) (_ : lim ≤ 9223372036854775807) (_ : -9223372036854775808 ≤ few2) (_ : few2 ≤ 9223372036854775807) :
    Calls Try.prog 9 #[v0, .int .u64 lo, .int .u64 hi, .int .i64 lim, .int .i64 few2] w fun e w' => e = .returned (.bool true) ∧ Below w.heap.size w w' := by
  cases hf : fewB cs 40 with
  | true => exact callsIn_wide.1 (ModelScans_in v0 cs lo hi lim few2 w h hf)
  | false => exact callsIn_wide.1 (ModelScans_many v0 cs lo hi lim few2 w h hm hf)

end Go.Proofs.Ytdhnacajgmjmlaa
