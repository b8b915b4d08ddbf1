/- The map's Scan: a loop over All that leaves early, and collects. -/
import Derived.Maps.OwnIn
import Derived.Maps.AppendAt
import Derived.Test.YtdhnacajgmjmlaaMapC
namespace Go.Proofs.Ytdhnacajgmjmlaa
open Go.RowKit Go.Shelf
set_option linter.unusedVariables false

attribute [local go_sem] Oper.semAt_some

def filL (lo : Int) (ps : PairL) : PairL := ps.filter fun p => decide (lo ≤ p.1)
def scanL (lo hi lim : Int) (ps : PairL) : PairL := (ps.filter fun p => decide (lo ≤ p.1 ∧ p.1 ≤ hi)).take lim.toNat
theorem filL_snoc (lo : Int) (ps : PairL) (p : Int × ByteArray) : filL lo (ps ++ [p]) = if lo ≤ p.1 then filL lo ps ++ [p] else filL lo ps := by
  unfold filL; rw [List.filter_append]; by_cases h : lo ≤ p.1 <;> simp [h]
theorem filL_all {lo hi : Int} {ps : PairL} (h : ∀ p ∈ ps, p.1 ≤ hi) : ps.filter (fun p => decide (lo ≤ p.1 ∧ p.1 ≤ hi)) = filL lo ps := by
  unfold filL
  exact List.filter_congr fun p hp => by simp [h p hp]
theorem scanL_done {lo hi lim : Int} {ps : PairL} (h : ∀ p ∈ ps, p.1 ≤ hi) (hl : (filL lo ps).length ≤ lim.toNat) : scanL lo hi lim ps = filL lo ps := by
  unfold scanL; rw [filL_all h, List.take_of_length_le hl]
theorem scanL_stop {lo hi lim : Int} {ps pre : PairL} {x : Int × ByteArray} (hr : Rises ps) (hp : pre ++ [x] <+: ps) (h : ∀ p ∈ pre, p.1 ≤ hi) (hl : (filL lo pre).length ≤ lim.toNat)
    (hx : x.1 > hi ∨ (filL lo pre).length = lim.toNat) : scanL lo hi lim ps = filL lo pre := by
  obtain ⟨rest, rfl⟩ := hp
  unfold scanL
  rw [List.append_assoc, List.filter_append, filL_all h]
  rcases hx with hx | hx
  · have hz : ([x] ++ rest).filter (fun p => decide (lo ≤ p.1 ∧ p.1 ≤ hi)) = [] := by
      rw [List.filter_eq_nil_iff]
      intro p hp
      rw [Rises.iff, List.append_assoc, List.pairwise_append] at hr
      have h2 := hr.2.1
      rw [List.singleton_append, List.pairwise_cons] at h2
      rw [List.singleton_append, List.mem_cons] at hp
      rcases hp with rfl | hp
      · simp; omega
      · have := h2.1 p hp
        simp; omega
    rw [hz, List.append_nil, List.take_of_length_le hl]
  · rw [List.take_append_of_le_length (by omega), List.take_of_length_le (by omega)]

def ScanI (w : World) (lo hi lim : Int) (pre : PairL) (W : World) : Prop :=
  (∃ v, Boxed W (w.heap.size + 1 + 1 + 1) 46 v ∧ W.ownsRow w.heap.size 52 2 v (filL lo pre).length (pc (filL lo pre)) ∧ True) ∧ Below w.heap.size w W ∧
  Boxed W w.heap.size 29 (.int .u64 lo) ∧ Boxed W (w.heap.size + 1) 29 (.int .u64 hi) ∧ Boxed W (w.heap.size + 1 + 1) 3 (.int .i64 lim) ∧ ((∀ p ∈ pre, p.1 ≤ hi) ∧ (filL lo pre).length ≤ lim.toNat)
theorem ScanI.own (w : World) (lo hi lim : Int) (B : Nat) (hB : w.heap.size ≤ B) : OwnFrom B (ScanI w lo hi lim) :=
  OwnFrom.and (Own.from (holdsRow_own w.heap.size (w.heap.size + 1 + 1 + 1) 46 52 2 (fun pre => (filL lo pre).length) (fun pre => pc (filL lo pre)) (fun _ _ => True)) B)
    (OwnFrom.and (ownFrom_below (Nat.le_refl _) hB) (OwnFrom.and (Own.from (boxed_own w.heap.size 29 (fun _ => .int .u64 lo)) B) (OwnFrom.and (Own.from (boxed_own (w.heap.size + 1) 29 (fun _ => .int .u64 hi)) B)
      (OwnFrom.and (Own.from (boxed_own (w.heap.size + 1 + 1) 3 (fun _ => .int .i64 lim)) B) (fun _ _ _ _ hs _ _ => hs)))))
def ScanX (w : World) (lo hi lim : Int) (c : Code) (pre : PairL) (W : World) : Prop :=
  c = .exit 0 ∧ ∃ pre0 x, pre = pre0 ++ [x] ∧ ScanI w lo hi lim pre0 W ∧ (x.1 > hi ∨ (filL lo pre0).length = lim.toNat)
theorem ScanX.own (w : World) (lo hi lim : Int) (B : Nat) (hB : w.heap.size ≤ B) (c : Code) : OwnFrom B (ScanX w lo hi lim c) := by
  rintro s A W row ⟨hc, pre0, x, rfl, hI, hx⟩ hg hr
  exact ⟨hc, pre0, x, rfl, ScanI.own w lo hi lim B hB _ _ _ _ hI hg hr, hx⟩
theorem bounds_ok {lo hi lim : Int} (h : boundsErr lo hi lim = 0) : lo ≤ hi ∧ 1 ≤ lim ∧ lim ≤ 256 := by
  unfold boundsErr at h
  split at h
  · cases h
  · omega
theorem row_form {w : World} {base : Nat} {e : TypeId} {size : Nat} {v : Value} {n : Nat} {xs : List Value} (h : w.ownsRow base e size v n xs) : ∃ a c, v = .slice a n c := by
  rcases h.2 with ⟨rfl, rfl⟩ | ⟨g, cap, cur, rfl, _⟩
  · exact ⟨_, _, rfl⟩
  · exact ⟨_, _, rfl⟩
/-- a round that appends to the row that O holds -/
theorem KeepF.appended {W w1 : World} {O : Nat} {t : TypeId} {v v' : Value} {tmp : Obj} (hv : Boxed W O t v) (hv2 : Boxed (w1.setCell ⟨O, 0, none⟩ v') O t v')
    (hgrow : (W.alloc tmp).grownBy w1 v.ownBlock) (hob : v'.ownBlock = v.ownBlock ∨ v'.ownBlock = some (W.alloc tmp).heap.size) : KeepF [O] O W (w1.setCell ⟨O, 0, none⟩ v') := by
  have hm : ∀ k, v.ownBlock = some k → k ∈ ft [O] O W := fun k hk => mem_ft.2 (Or.inr (by rw [hv.cell]; exact hk))
  refine KeepF.of_only ((((Only.refl _ W).alloc tmp).trans (Only.of_grown (f := ft [O] O W) hgrow hm) (fun x hx => Or.inl hx)).setCell (Or.inl (mem_ft.2 (Or.inl (by simp)))) v') ?_
  intro x hx
  rw [hv2.cell] at hx
  rcases hob with hob | hob
  · exact Or.inl (hm x (hob ▸ hx))
  · right
    have : v'.ownBlock = some x := hx
    rw [hob] at this
    simp at this
    omega
theorem append_tail {W w1 : World} {n₀ O k m : Nat} {v v' : Value} {xs ys : List Value} {tmp : Obj} (hv : Boxed W O 46 v) (hrow : W.ownsRow n₀ 52 2 v k xs) (hn : n₀ ≤ W.heap.size) (hO : n₀ ≤ O)
    (hown : w1.ownsRow n₀ 52 2 v' m ys) (hgrow : (W.alloc tmp).grownBy w1 v.ownBlock) (hob : v'.ownBlock = v.ownBlock ∨ v'.ownBlock = some (W.alloc tmp).heap.size) :
    (∃ a c, v' = .slice a m c) ∧ Boxed w1 O 46 v ∧ Boxed (w1.setCell ⟨O, 0, none⟩ v') O 46 v' ∧ (w1.setCell ⟨O, 0, none⟩ v').ownsRow n₀ 52 2 v' m ys ∧ KeepsOthers W (w1.setCell ⟨O, 0, none⟩ v') ∧ Below n₀ W (w1.setCell ⟨O, 0, none⟩ v') ∧ KeepF [O] O W (w1.setCell ⟨O, 0, none⟩ v') := by
  obtain ⟨hv1, hv2, hr2, hk2, hb2⟩ := hv.appended (by decide) hrow hn hO hown hgrow
  exact ⟨row_form hown, hv1, hv2, hr2, hk2, hb2, KeepF.appended hv hv2 hgrow hob⟩

theorem cells_two_new (w : World) (x y : Value) (t : TypeId) : ∀ j u, [x, y][j]? = some u → (w.alloc (.cells #[x, y] t)).cell? ((⟨w.heap.size, 0, none⟩ : Addr).add j) = some u := World.news_of_block (Blk.new w t #[x, y])

set_option maxRecDepth 100000 in
set_option maxHeartbeats 2000000 in
theorem Scan_in (m : Nat) (v0 : Value) (ps : PairL) (lo hi lim : Int) (w : World) (h : MapIs w m v0 ps) (hbd : boundsErr lo hi lim = 0) :
    CallsIn Fence.wide 5 Try.prog 40 #[.pointer (some ⟨m, 0, none⟩), .int .u64 lo, .int .u64 hi, .int .i64 lim] w fun e W' => ∃ v, e = .returned (.tuple #[v, .int .i64 0]) ∧ W'.ownsRow w.heap.size 52 2 v (scanL lo hi lim ps).length (pc (scanL lo hi lim ps)) ∧ Below w.heap.size w W' := by
  obtain ⟨i0, hi0, hz0, hz1, hz2⟩ := info_parts infoPair
  refine callsIn_of_wp_marks Try.func40 rfl trivial ?_ rfl
  simp only [Try.ntmps40, List.size_toArray, List.length_cons, List.length_nil, Nat.reduceAdd, Nat.reduceSub, Array.replicate_succ, Array.replicate_zero, List.push_toArray, List.append_toArray, List.nil_append, List.cons_append]
  gi_wp2_with fail
  refine ⟨trivial, (callsIn_wide.2 (bounds_z lo hi lim _)).mono ?_⟩
  rintro e w1 ⟨rfl, rfl⟩
  rw [hbd]
  gi_wp2_with fail
  refine ⟨trivial, (All_make _ _ _ (Or.inr ⟨_, rfl⟩)).mono ?_⟩
  rintro e w1 ⟨rfl, rfl⟩
  gi_wp2_with fail
  obtain ⟨hlo, hl1, hl2⟩ := bounds_ok hbd
  have HH := hid h
  have m0 : m < w.heap.size := h.obj.lt
  refine wpIn_rangeFunc_ownG rfl (by omega) (gf := 68) (lb := #[.pointer (some ⟨w.heap.size + 1 + 1 + 1 + 1, 0, none⟩)]) rfl trivial (enters_of Try.func68 (by kernel_rfl) rfl)
    (All_stops 4 ps (.pointer (some ⟨m, 0, none⟩)) [w.heap.size + 1 + 1 + 1] (w.heap.size + 1 + 1 + 1) (w.heap.size + 1 + 1 + 1 + 1) _ (by simp) ?hF ?hc ?hm) KeepF.trans ?hKb (Below.refl _ _) (fun _ => rfl)
    (ScanI w lo hi lim) (ScanX w lo hi lim) (ScanI.own w lo hi lim _ (by simp; omega)) (ScanX.own w lo hi lim _ (by simp; omega))
    ?h0
    (fun x => { tmps := #[.pointer (some ⟨m, 0, none⟩), .int .u64 lo, .int .u64 hi, .int .i64 lim, undef, .pointer (some ⟨w.heap.size, 0, none⟩), .pointer (some ⟨w.heap.size + 1, 0, none⟩), .pointer (some ⟨w.heap.size + 1 + 1, 0, none⟩), .pointer (some ⟨w.heap.size + 1 + 1 + 1, 0, none⟩), .int .i64 0, .int .i64 0, .int .u64 x.1, .string x.2, .pointer (some ⟨m, 0, none⟩), .bool false, .int .u64 lo, .int .u64 hi, .int .i64 lim, .int .i64 0, .int .i64 0, .bool false, undef, .pointer (some ⟨m, 0, none⟩), .func (.func 68) #[] #[.pointer (some ⟨w.heap.size + 1 + 1 + 1 + 1, 0, none⟩)], .int .u64 x.1, .string x.2, undef, undef, undef, undef, undef, undef, undef, undef, undef, undef, undef, undef, undef, undef, undef, undef, undef, undef, undef], defers := [] }) ?assign ?body ?done ?stop
  case hF =>
    intro x hx
    rw [mem_ft] at hx
    rcases hx with hx | hx
    · simp at hx; subst hx; simp
    · rw [show ((((((w.alloc (Obj.cells #[.int .u64 lo] 29)).alloc (.cells #[.int .u64 hi] 29)).alloc (.cells #[.int .i64 lim] 3)).alloc (.cells #[.slice none 0 0] 46)).alloc (.cells #[.pointer (some ⟨m, 0, none⟩)] 59)).cell? ⟨w.heap.size + 1 + 1 + 1, 0, none⟩) = some (.slice none 0 0) from by go_simp] at hx
      cases hx
  case hc => go_simp
  case hm => exact MapAny.of (HH.out.bel (ba (ba (ba (ba (ba (Below.refl _ _) _) _) _) _) _))
  case hKb =>
    intro W l o o' hl ho hc hw
    exact KeepF.putObj ho hc (by simp at hl; omega)
  case h0 =>
    refine ⟨⟨.slice none 0 0, ?_, ⟨rfl, Or.inl ⟨rfl, rfl⟩⟩, trivial⟩, ba (ba (ba (ba (ba (Below.refl _ _) _) _) _) _) _, ?_, ?_, ?_, ?_⟩
    · exact (by simpa using Boxed.new (((w.alloc (Obj.cells #[.int .u64 lo] 29)).alloc (.cells #[.int .u64 hi] 29)).alloc (.cells #[.int .i64 lim] 3)) 46 (.slice none 0 0) : Boxed ((((w.alloc (Obj.cells #[.int .u64 lo] 29)).alloc (.cells #[.int .u64 hi] 29)).alloc (.cells #[.int .i64 lim] 3)).alloc (.cells #[.slice none 0 0] 46)) (w.heap.size + 1 + 1 + 1) 46 (.slice none 0 0)).alloc _
    · exact ((((Boxed.new w 29 (.int .u64 lo)).alloc _).alloc _).alloc _).alloc _
    · exact (((by simpa using Boxed.new (w.alloc (Obj.cells #[.int .u64 lo] 29)) 29 (.int .u64 hi) : Boxed ((w.alloc (Obj.cells #[.int .u64 lo] 29)).alloc (.cells #[.int .u64 hi] 29)) (w.heap.size + 1) 29 (.int .u64 hi)).alloc _).alloc _).alloc _
    · exact ((by simpa using Boxed.new ((w.alloc (Obj.cells #[.int .u64 lo] 29)).alloc (.cells #[.int .u64 hi] 29)) 3 (.int .i64 lim) : Boxed (((w.alloc (Obj.cells #[.int .u64 lo] 29)).alloc (.cells #[.int .u64 hi] 29)).alloc (.cells #[.int .i64 lim] 3)) (w.heap.size + 1 + 1) 3 (.int .i64 lim)).alloc _).alloc _
    · exact ⟨by simp, by simp [filL]⟩
  case assign =>
    intro l x W K hK
    gi_wp2
    exact hK
  case body =>
    rintro l pre x W hI hlt
    obtain ⟨⟨v, hv, hrow, _⟩, hB, b1, b2, b3, hle, hlen⟩ := hI
    have HI := hid (show ScanI w lo hi lim pre W from ⟨⟨v, hv, hrow, trivial⟩, hB, b1, b2, b3, hle, hlen⟩)
    have hc := hv.cell
    have hc1 := b1.cell
    have hc2 := b2.cell
    have hc3 := b3.cell
    have HV := hid hv
    have HR := hid hrow
    have HBB := hid hB
    clear hbd h HH b1 b2 b3 hle
    by_cases h1 : x.1 > hi
    · clear hv hrow hB
      gi_wp2
      exact ⟨KeepsFrom.refl _ _, rfl, pre, x, rfl, HI.out, Or.inl h1⟩
    · obtain ⟨nn, hnn⟩ : ∃ nn, nn = (filL lo pre).length := ⟨_, rfl⟩
      have HN := hid hnn
      have hnle : nn ≤ 256 := by omega
      have HO : w.heap.size ≤ w.heap.size + 1 + 1 + 1 := by omega
      have hWs := HBB.out.size
      by_cases h2 : nn = lim.toNat
      · obtain ⟨a, c, rfl⟩ := row_form hrow
        have hq : ((nn : Int) == lim) = true := by simp; omega
        rw [← hnn] at hc
        clear hv hrow hB hnn
        gi_wp2
        exact ⟨KeepsFrom.refl _ _, rfl, pre, x, rfl, HI.out, Or.inr (by rw [← HN.out]; exact h2)⟩
      · obtain ⟨a, c, rfl⟩ := row_form hrow
        have hq : ((nn : Int) == lim) = false := by simp; omega
        rw [← hnn] at hc HV HR
        by_cases h3 : x.1 ≥ lo
        · have hfs := hid (show filL lo (pre ++ [x]) = filL lo pre ++ [x] by rw [filL_snoc, if_pos h3])
          clear hv hrow hB hnn
          gi_wp2_with (gi_at_builtin; refine wpListIn_append_own_at _ rfl _ _ 46 rfl w.heap.size 52 i0 (.agg #[.int .u64 0, .string ⟨#[]⟩]) 2 24 Try.underlying46 hi0 hz0 hz1 hz2 rfl (by decide) _ _ _ rfl (HR.out.alloc _) ⟨W.heap.size, 0, none⟩ 1 1 [.int .u64 x.1, .string x.2] rfl rfl (cells_two_new _ _ _ _) (by simp [Value.oneCell']) (by unfold maxLen; omega) (by omega) (by simp; omega) ?_; intro v' w1 hown' hgrow _ hob; obtain ⟨⟨a', c', rfl⟩, hv1, hv2, hr2, hk2, hb2, hkf⟩ := append_tail HV.out HR.out HBB.out.size HO hown' hgrow hob; have hc1' := hv1.cell; have hf1 := hv1.frozen)
          obtain ⟨⟨v, hv, hrow, _⟩, hB, b1, b2, b3, hle, hlen⟩ := HI.out
          have c1 := (((b1.alloc (.cells #[.int .u64 x.1, .string x.2] 52)).kept hgrow (b1.not_row (by decide) HR.out)).kept (grownBy_setCell' _ (w.heap.size + 1 + 1 + 1) (Value.slice a' (nn + 1) c')) (by intro e; injection e with e; omega))
          have c2 := (((b2.alloc (.cells #[.int .u64 x.1, .string x.2] 52)).kept hgrow (b2.not_row (by decide) HR.out)).kept (grownBy_setCell' _ (w.heap.size + 1 + 1 + 1) (Value.slice a' (nn + 1) c')) (by intro e; injection e with e; omega))
          have c3 := (((b3.alloc (.cells #[.int .u64 x.1, .string x.2] 52)).kept hgrow (b3.not_row (by decide) HR.out)).kept (grownBy_setCell' _ (w.heap.size + 1 + 1 + 1) (Value.slice a' (nn + 1) c')) (by intro e; injection e with e; omega))
          have hlN : (filL lo (pre ++ [x])).length = nn + 1 := by rw [hfs.out, List.length_append, ← HN.out]; rfl
          have hpc : pc (filL lo (pre ++ [x])) = pc (filL lo pre) ++ [.int .u64 x.1, .string x.2] := by rw [hfs.out, pc_append]; rfl
          refine ⟨hk2.from _, hkf, ⟨_, hv2, by rw [hlN, hpc]; exact hr2, trivial⟩, hB.trans hb2, c1, c2, c3, ?_, by rw [hlN]; have := HN.out; omega⟩
          intro p hp
          rcases List.mem_append.1 hp with hp | hp
          · exact hle p hp
          · simp at hp; subst hp; omega
        · have hfs := hid (show filL lo (pre ++ [x]) = filL lo pre by rw [filL_snoc, if_neg h3])
          clear hv hrow hB hnn
          gi_wp2
          obtain ⟨⟨v, hv, hrow, _⟩, hB, b1, b2, b3, hle, hlen⟩ := HI.out
          refine ⟨KeepsFrom.refl _ _, KeepF.refl _ _ _, ⟨v, hv, by rw [hfs.out]; exact hrow, trivial⟩, hB, b1, b2, b3, ?_, by rw [hfs.out]; exact hlen⟩
          intro p hp
          rcases List.mem_append.1 hp with hp | hp
          · exact hle p hp
          · simp at hp; subst hp; omega
  case done =>
    rintro D ys W hD rfl ⟨⟨v, hv, hrow, _⟩, hB, b1, b2, b3, hle, hlen⟩ hK
    have hS := hid (scanL_done (lo := lo) hle hlen)
    have hc := hv.cell
    have hf := hv.frozen
    obtain ⟨a, c, rfl⟩ := row_form hrow
    have HV := hid hv
    have HR := hid hrow
    have HB := hid hB
    clear hv hrow hB b1 b2 b3 hle hlen h HH
    gi_wp2
    have hr1 := HR.out.kept (grownBy_setCell' W (w.heap.size + 1 + 1 + 1) (Value.slice a (List.length (filL lo ys)) c)) (.inr (HV.out.not_row (by decide) HR.out).symm)
    have hv1 := HV.out.set (Value.slice a (List.length (filL lo ys)) c)
    have hk1 : (W.setCell ⟨w.heap.size + 1 + 1 + 1, 0, none⟩ (Value.slice a (List.length (filL lo ys)) c)).heap[D]? = some (.deferred (some [])) := (KeepsOthers.setCell _ _ _).same D _ hK rfl
    have hr2 := ownsRow_putObj hr1 (.deferred none) hk1 rfl
    have hv2 := hv1.kept (grownBy_putObj' _ D (.deferred none)) (by intro e; injection e with e; simp at hD; omega)
    have hb1 := HB.out.setCell (p := ⟨w.heap.size + 1 + 1 + 1, 0, none⟩) (by show w.heap.size ≤ w.heap.size + 1 + 1 + 1; omega) (Value.slice a (List.length (filL lo ys)) c)
    have hb2 := hb1.trans (belowK_b (w := w) (Nat.le_refl _) _ D _ (.deferred none) (by simp at hD; omega) hk1 rfl rfl)
    refine ⟨by simp, .inl ⟨_, _, rfl, run_takeDeferred hk1, ?_⟩⟩
    refine ⟨_, ?_, _, rfl, by rw [hS.out]; exact hr2, hb2⟩
    simp [results, Try.results40, go_sem, hv2.cell]
  case stop =>
    rintro D c0 pre W hD hpre ⟨rfl, ys, x, rfl, ⟨⟨v, hv, hrow, _⟩, hB, b1, b2, b3, hle, hlen⟩, hx⟩ hK
    have hS := hid (scanL_stop h.rises hpre hle hlen hx)
    have hc := hv.cell
    have hf := hv.frozen
    obtain ⟨a, c, rfl⟩ := row_form hrow
    have HV := hid hv
    have HR := hid hrow
    have HB := hid hB
    clear hv hrow hB b1 b2 b3 hle hlen hx hpre h HH
    gi_wp2
    have hr1 := HR.out.kept (grownBy_setCell' W (w.heap.size + 1 + 1 + 1) (Value.slice a (List.length (filL lo ys)) c)) (.inr (HV.out.not_row (by decide) HR.out).symm)
    have hv1 := HV.out.set (Value.slice a (List.length (filL lo ys)) c)
    have hk1 : (W.setCell ⟨w.heap.size + 1 + 1 + 1, 0, none⟩ (Value.slice a (List.length (filL lo ys)) c)).heap[D]? = some (.deferred (some [])) := (KeepsOthers.setCell _ _ _).same D _ hK rfl
    have hr2 := ownsRow_putObj hr1 (.deferred none) hk1 rfl
    have hv2 := hv1.kept (grownBy_putObj' _ D (.deferred none)) (by intro e; injection e with e; simp at hD; omega)
    have hb1 := HB.out.setCell (p := ⟨w.heap.size + 1 + 1 + 1, 0, none⟩) (by show w.heap.size ≤ w.heap.size + 1 + 1 + 1; omega) (Value.slice a (List.length (filL lo ys)) c)
    have hb2 := hb1.trans (belowK_b (w := w) (Nat.le_refl _) _ D _ (.deferred none) (by simp at hD; omega) hk1 rfl rfl)
    refine ⟨by simp, .inl ⟨_, _, rfl, run_takeDeferred hk1, ?_⟩⟩
    refine ⟨_, ?_, _, rfl, by rw [hS.out]; exact hr2, hb2⟩
    simp [results, Try.results40, go_sem, hv2.cell]

theorem Scan_z (m : Nat) (v0 : Value) (ps : PairL) (lo hi lim : Int) (w : World) (h : MapIs w m v0 ps) (hbd : boundsErr lo hi lim = 0) :
    Calls Try.prog 40 #[.pointer (some ⟨m, 0, none⟩), .int .u64 lo, .int .u64 hi, .int .i64 lim] w fun e W' => ∃ v, e = .returned (.tuple #[v, .int .i64 0]) ∧ W'.ownsRow w.heap.size 52 2 v (scanL lo hi lim ps).length (pc (scanL lo hi lim ps)) ∧ Below w.heap.size w W' :=
  callsIn_wide.1 (Scan_in m v0 ps lo hi lim w h hbd)

set_option maxRecDepth 100000 in
set_option maxHeartbeats 1000000 in
theorem Scan_nil (lo hi lim : Int) (w : World) :
    Calls Try.prog 40 #[.pointer none, .int .u64 lo, .int .u64 hi, .int .i64 lim] w fun e W' => e = .returned (.tuple #[.slice none 0 0, .int .i64 1]) ∧ Below w.heap.size w W' := by
  go_enter Try.func40, Try.ntmps40
  go_wp2
  refine bodyPost_ret (v := .tuple #[.slice none 0 0, .int .i64 1]) ?_ rfl ?_
  · simp [results, Try.results40, go_sem]
  · exact ⟨rfl, by (repeat (first | exact Below.refl _ _ | (refine ba ?_ _) | (refine Below.drew ?_) | (refine below_drewN ?_ _) | (refine Below.alloc ?_ (by first | omega | (simp; done) | (simp; omega)) _) | (refine Below.setCell ?_ (by first | omega | (simp; done) | (simp; omega)) _) | (refine bx ?_ (by assumption)) | (refine Below.trans ?_ (Below.mono (by assumption) (by first | omega | (simp; done) | (simp; omega))))))⟩

theorem boundsErr_two {lo hi lim : Int} (h : boundsErr lo hi lim ≠ 0) : boundsErr lo hi lim = 2 := by
  unfold boundsErr at h ⊢
  split
  · rfl
  · rename_i hh; simp [hh] at h
set_option maxRecDepth 100000 in
set_option maxHeartbeats 1000000 in
theorem Scan_bad (m : Nat) (lo hi lim : Int) (w : World) (hbd : boundsErr lo hi lim ≠ 0) :
    Calls Try.prog 40 #[.pointer (some ⟨m, 0, none⟩), .int .u64 lo, .int .u64 hi, .int .i64 lim] w fun e W' => e = .returned (.tuple #[.slice none 0 0, .int .i64 2]) ∧ Below w.heap.size w W' := by
  have h2 := boundsErr_two hbd
  clear hbd
  go_enter Try.func40, Try.ntmps40
  go_wp2_with fail
  refine (bounds_z lo hi lim _).mono ?_
  rintro e w1 ⟨rfl, rfl⟩
  rw [h2]
  go_wp2
  refine bodyPost_ret (v := .tuple #[.slice none 0 0, .int .i64 2]) ?_ rfl ?_
  · simp [results, Try.results40, go_sem]
  · exact ⟨rfl, by (repeat (first | exact Below.refl _ _ | (refine ba ?_ _) | (refine Below.drew ?_) | (refine below_drewN ?_ _) | (refine Below.alloc ?_ (by first | omega | (simp; done) | (simp; omega)) _) | (refine Below.setCell ?_ (by first | omega | (simp; done) | (simp; omega)) _) | (refine bx ?_ (by assumption)) | (refine Below.trans ?_ (Below.mono (by assumption) (by first | omega | (simp; done) | (simp; omega))))))⟩

end Go.Proofs.Ytdhnacajgmjmlaa
