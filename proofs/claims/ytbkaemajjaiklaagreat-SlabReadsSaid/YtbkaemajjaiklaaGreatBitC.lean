/- No bit from n on is set: May. -/
import Derived.Test.YtbkaemajjaiklaaGreatBitB
namespace Go.Proofs.YtbkaemajjaiklaaGreat
open Go.RowKit Go.Shelf
set_option linter.unusedVariables false
set_option linter.unusedSimpArgs false

attribute [local go_sem] Oper.semAt_some

def mayBits (b : Nat) (n : Int) : Bool := (setBits b).all fun j => decide ((j.val : Int) < n)

theorem blkGrown {W W' : World} {row : Option Nat} {g : Nat} {t : TypeId} {cs : Array Value} (h : Blk W g t cs) (hg : W.grownBy W' row) (hr : ∀ r, row = some r → ∃ o : Obj, W.heap[r]? = some o ∧ o.isCells = false) : Blk W' g t cs := by
  refine h.grown hg fun e => ?_
  obtain ⟨o, ho, hc⟩ := hr g e.symm
  rw [h] at ho
  cases ho
  cases hc
theorem belGrown {w W W' : World} {row : Option Nat} {B : Nat} (h : Below w.heap.size w W) (hg : W.grownBy W' row) (hB : w.heap.size ≤ B) (hr : ∀ r, row = some r → B ≤ r) : Below w.heap.size w W' :=
  ⟨hg.os.trans h.os, hg.tape.trans h.tape, hg.output.trans h.output, Nat.le_trans h.size hg.size, fun k hk => (hg.block k (Nat.lt_of_lt_of_le hk h.size) (fun e => by have := hr k e.symm; omega)).trans (h.block k hk)⟩
theorem belPut {w V : World} {D : Nat} (h : Below w.heap.size w V) (hD : w.heap.size ≤ D) (o : Obj) : Below w.heap.size w (V.putObj D o) :=
  ⟨h.os, h.tape, h.output, by simpa [World.putObj] using h.size, fun k hk => (World.putObj_heap_other (by omega)).trans (h.block k hk)⟩
theorem blkPut {V : World} {D g : Nat} {t : TypeId} {cs : Array Value} {o : Obj} (h : Blk V g t cs) (hk : V.heap[D]? = some o) (ho : o.isCells = false) (o' : Obj) : Blk (V.putObj D o') g t cs :=
  (World.putObj_heap_other (fun e => by subst e; rw [h] at hk; cases hk; cases ho)).trans h
structure MayI (w : World) (n : Int) (pre : List (Fin 64)) (W : World) : Prop where
  bel : Below w.heap.size w W
  lim : Blk W w.heap.size 3 #[.int .i64 n]
  r : Blk W (w.heap.size + 1) 4 #[.bool false]
  all : ∀ x ∈ pre, (x.val : Int) < n
structure MayX (w : World) (n : Int) (c : Code) (pre : List (Fin 64)) (W : World) : Prop where
  ret : c = .ret
  bel : Below w.heap.size w W
  r : Blk W (w.heap.size + 1) 4 #[.bool false]
  no : ∃ x ∈ pre, ¬ (x.val : Int) < n
theorem mayBits_true {b : Nat} {n : Int} (h : ∀ x ∈ setBits b, (x.val : Int) < n) : mayBits b n = true := by
  unfold mayBits
  rw [List.all_eq_true]
  exact fun x hx => decide_eq_true (h x hx)
theorem mayBits_false {b : Nat} {n : Int} {pre : List (Fin 64)} (hp : pre <+: setBits b) (h : ∃ x ∈ pre, ¬ (x.val : Int) < n) : mayBits b n = false := by
  unfold mayBits
  rw [List.all_eq_false]
  obtain ⟨x, hx, hn⟩ := h
  exact ⟨x, hp.subset hx, by simpa using hn⟩

set_option maxRecDepth 100000 in
set_option maxHeartbeats 2000000 in
theorem May_in (b : Nat) (n : Int) (hb : b < 18446744073709551616) (w : World) :
    CallsIn Fence.wide 5 Tryz.prog 49 #[.int .u64 (b : Int), .int .i64 n] w fun e W' => e = .returned (.bool (mayBits b n)) ∧ Below w.heap.size w W' := by
  refine callsIn_of_wp_marks Tryz.func49 rfl trivial ?_ rfl
  simp only [Tryz.ntmps49, List.size_toArray, List.length_cons, List.length_nil, Nat.reduceAdd, Nat.reduceSub, Array.replicate_succ, Array.replicate_zero, List.push_toArray, List.append_toArray, List.nil_append, List.cons_append]
  gi_wp2_with fail
  refine ⟨trivial, (Bits_make _ _ _).mono ?_⟩
  rintro e w1 ⟨rfl, rfl⟩
  gi_wp2_with fail
  generalize hW5 : World.alloc _ (Obj.cells #[Value.int IntKind.u64 (b : Int)] 23) = W5
  have hsz : W5.heap.size = w.heap.size + 3 := by rw [← hW5]; simp
  have hbel : Below w.heap.size w W5 := by rw [← hW5]; exact ba (ba (ba (Below.refl _ _) _) _) _
  have hn : Blk W5 w.heap.size 3 #[.int .i64 n] := by rw [← hW5]; exact ((Blk.new w _ _).alloc _).alloc _
  have hr : Blk W5 (w.heap.size + 1) 4 #[.bool false] := by
    rw [← hW5]
    have := Blk.new (w.alloc (Obj.cells #[Value.int IntKind.i64 n] 3)) 4 #[.bool false]
    simp only [World.size_alloc] at this
    exact this.alloc _
  have hs : W5.cell? ⟨w.heap.size + 1 + 1, 0, none⟩ = some (.int .u64 (b : Int)) := by rw [← hW5]; clear hW5; go_simp
  have HSZ := hid hsz
  clear hW5 hsz
  refine wpIn_rangeFunc_ownG rfl (by omega) (gf := 95) (lb := #[.pointer (some ⟨w.heap.size + 1 + 1, 0, none⟩)]) rfl trivial (enters_of Tryz.func95 (by kernel_rfl) rfl)
    (Bits_stops 4 b hb [] W5.heap.size (w.heap.size + 1 + 1) W5 (by have := HSZ.out; omega) (by simp) (Nat.le_refl _) hs) KeepN.trans ?hKb (Below.refl _ _) (fun _ => rfl)
    (MayI w n) (MayX w n) ?hI ?hX ⟨hbel, hn, hr, by simp⟩
    (fun x => { tmps := #[.int .u64 (b : Int), .int .i64 n, undef, .pointer (some ⟨w.heap.size, 0, none⟩), .pointer (some ⟨w.heap.size + 1, 0, none⟩), .int .i64 (x.val : Int), .int .u64 (b : Int), .func (.func 95) #[] #[.pointer (some ⟨w.heap.size + 1 + 1, 0, none⟩)], .int .i64 (x.val : Int), undef, undef, undef], defers := [] }) ?assign ?body ?done ?stop
  case hKb =>
    intro W l o o' hl ho hc hw
    exact KeepN.putObj (KeepN.refl _ _ _) hl _
  case hI =>
    intro s A W row h hg hr
    have hr1 : ∀ r, row = some r → ∃ o : Obj, A.heap[r]? = some o ∧ o.isCells = false := fun r e => (hr r e).2
    exact ⟨belGrown h.bel hg (by have := HSZ.out; omega) (fun r e => (hr r e).1), blkGrown h.lim hg hr1, blkGrown h.r hg hr1, h.all⟩
  case hX =>
    intro c s A W row h hg hr
    have hr1 : ∀ r, row = some r → ∃ o : Obj, A.heap[r]? = some o ∧ o.isCells = false := fun r e => (hr r e).2
    exact ⟨h.ret, belGrown h.bel hg (by have := HSZ.out; omega) (fun r e => (hr r e).1), blkGrown h.r hg hr1, h.no⟩
  case assign =>
    intro l x W K hK
    gi_wp2
    exact hK
  case body =>
    rintro l pre x W hI hlt
    have y0 : W.cell? ⟨w.heap.size, 0, none⟩ = some (.int .i64 n) := hI.lim.cell 0
    have y1 : W.cell? ⟨w.heap.size + 1, 0, none⟩ = some (.bool false) := hI.r.cell 0
    have y2 := hI.r.frozen 0
    have H := hid hI
    clear hI
    by_cases hx : (x.val : Int) ≥ n
    · gi_wp2
      have hr2 : Blk (W.setCell ⟨w.heap.size + 1, 0, none⟩ (.bool false)) (w.heap.size + 1) 4 #[.bool false] := H.out.r.set_ 0 _
      exact ⟨(KeepsOthers.setCell _ _ _).from _, rfl, H.out.bel.setCell (by show w.heap.size ≤ w.heap.size + 1; omega) _, hr2, x, by simp, by omega⟩
    · gi_wp2
      refine ⟨KeepsFrom.refl _ _, KeepN.refl _ _ _, H.out.bel, H.out.lim, H.out.r, fun y hy => ?_⟩
      rcases List.mem_append.1 hy with h | h
      · exact H.out.all y h
      · simp at h; subst h; omega
  case done =>
    rintro D xs W hD rfl hI hK
    have HZ := hid (mayBits_true hI.all)
    have y1 : W.cell? ⟨w.heap.size + 1, 0, none⟩ = some (.bool false) := hI.r.cell 0
    have y2 := hI.r.frozen 0
    have H := hid hI
    have HK := hid hK
    clear hI hK
    gi_wp2
    have hk1 : (W.setCell ⟨w.heap.size + 1, 0, none⟩ (.bool true)).heap[D]? = some (.deferred (some [])) := (KeepsOthers.setCell _ _ _).same D _ HK.out rfl
    have hr2 : Blk (W.setCell ⟨w.heap.size + 1, 0, none⟩ (.bool true)) (w.heap.size + 1) 4 #[.bool true] := H.out.r.set_ 0 _
    have hr3 := (blkPut hr2 hk1 rfl (.deferred none)).cell 0
    refine ⟨by simp, .inl ⟨_, _, rfl, run_takeDeferred hk1, ?_⟩⟩
    refine ⟨_, ?_, by rw [HZ.out], belPut (H.out.bel.setCell (by show w.heap.size ≤ w.heap.size + 1; omega) _) (by have := HSZ.out; omega) _⟩
    simp [results, Tryz.results49, go_sem, hr3]
  case stop =>
    rintro D c pre W hD hp hX hK
    obtain rfl := hX.ret
    have HZ := hid (mayBits_false hp hX.no)
    have H := hid hX
    have HK := hid hK
    clear hX hK
    gi_wp2
    have hr3 := (blkPut H.out.r HK.out rfl (.deferred none)).cell 0
    refine ⟨by simp, .inl ⟨_, _, rfl, run_takeDeferred HK.out, ?_⟩⟩
    refine ⟨_, ?_, by rw [HZ.out], belPut H.out.bel (by have := HSZ.out; omega) _⟩
    simp [results, Tryz.results49, go_sem, hr3]

theorem May_z (b : Nat) (n : Int) (hb : b < 18446744073709551616) (w : World) : Calls Tryz.prog 49 #[.int .u64 (b : Int), .int .i64 n] w fun e W' => e = .returned (.bool (mayBits b n)) ∧ Below w.heap.size w W' :=
  callsIn_wide.1 (May_in b n hb w)

end Go.Proofs.YtbkaemajjaiklaaGreat
