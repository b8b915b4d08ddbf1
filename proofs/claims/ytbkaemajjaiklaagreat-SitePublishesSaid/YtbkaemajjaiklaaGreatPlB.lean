/- Turns of blocks: one begun; Publish, Free. -/
import Derived.Test.YtbkaemajjaiklaaGreatPlAA
import Derived.Test.YtbkaemajjaiklaaGreatPmW
import Derived.Test.YtbkaemajjaiklaaGreatGeoB
import Derived.Deep.QuietTactic
import Derived.BigQuiet
namespace Go.Proofs.YtbkaemajjaiklaaGreat
open Go.RowKit
set_option linter.unusedVariables false
set_option linter.unusedSimpArgs false

theorem run_store_func {P : Program} {w : World} {a : Addr} {m : Mode} (f : Fn) (x y : Array Value) : (store a (.func f x y) m).run P w = stored P w a (.func f x y) m := run_store P w a _ m rfl
attribute [local go_sem] run_store_func
theorem belN (w : World) (n : Nat) : Below w.heap.size w (w.drewN n) := ⟨rfl, rfl, rfl, Nat.le_refl _, fun _ _ => rfl⟩
/-- what a turn's next step is -/
def stepF (t ph : Nat) : Value :=
  if ph = 0 then .func (.func 116) #[.pointer (some ⟨t, 0, none⟩)] #[]
  else if ph = 1 then .func (.func 135) #[.pointer (some ⟨t, 0, none⟩)] #[]
  else if ph = 2 then .func (.func 152) #[.pointer (some ⟨t, 0, none⟩)] #[]
  else .func (.func 159) #[.pointer (some ⟨t, 0, none⟩)] #[]
/-- a turn: what it is of, how far it is (4: done) -/
def turnC (s m t : Nat) (cl a tb : Int) (ph : Nat) : Array Value :=
  #[.pointer (some ⟨s, 0, none⟩), .pointer (some ⟨m, 0, none⟩), .int .i64 cl, .int .u64 a, .int .i64 (slabZ a), .int .i64 tb, stepF t ph, .bool (decide (ph = 4)), .int .i64 0]

/-- what stands where a turn begins -/
structure TurnIn (w : World) (N : Nat) (B : SB) (V : Nat → Value) (size : Int) (A : SA) (n m : Nat) (MBk : MB) (vl : Nat) (st : St4) : Prop where
  sl : SlabIs w N B V size A
  hl : A.hd.length = 1 + n
  hn : 1 ≤ n ∧ n ≤ 64
  mem : Blk w m 133 (memC MBk vl st)
  pos : 0 < vl ∧ vl ≤ 131072
  size : size = ((8 * vl : Nat) : Int)

set_option maxRecDepth 100000 in
set_option maxHeartbeats 1000000 in
theorem turn_no (N : Nat) (B : SB) (V : Nat → Value) (size : Int) (A : SA) (n m : Nat) (MBk : MB) (vl : Nat) (st : St4) (cl a was now tb : Int) (w : World) (h : TurnIn w N B V size A n m MBk vl st) (hc : ¬ (0 ≤ cl ∧ cl ≤ 64)) :
    Calls Tryz.prog 87 #[.pointer (some ⟨B.s, 0, none⟩), .pointer (some ⟨m, 0, none⟩), .int .i64 cl, .int .u64 a, .int .i64 was, .int .i64 now, .int .i64 tb] w fun e w' => e = .returned (.tuple #[.pointer none, .int .i64 2]) ∧ Below w.heap.size w w' := by
  have hT := sthere_z _ n w (HasSlabs.of h.sl h.hl h.hn)
  rw [decide_eq_true (show 0 < n by have := h.hn; omega)] at hT
  have HT := hid hT
  have HS := hid (Size_m m MBk vl st h.pos.1 h.pos.2 w h.mem)
  have HSd := hid (fun (W : World) (hW : W.heap = w.heap) => Size_m m MBk vl st h.pos.1 h.pos.2 W (show W.heap[m]? = _ by rw [hW]; exact h.mem) |>.mono fun e w' (hh : e = _ ∧ W = w') => (⟨hh.1, hh.2.symm⟩ : e = _ ∧ w' = W))
  have hsz := h.size
  obtain ⟨z, hz⟩ : ∃ z, z = ((8 * vl : Nat) : Int) := ⟨_, rfl⟩
  rw [← hz] at hsz HS HSd
  have z0 : (z == 0) = false := by have := h.pos; simp; omega
  have ys : w.cell? ⟨B.s, 0, none⟩ = some (.int .i64 z) := by rw [← hsz]; exact h.sl.st.cell 0
  have z1 : (z != z) = false := by simp
  clear h hT hz hsz
  by_cases h1 : cl < 0
  · have d1 : decide (cl < 0) = true := decide_eq_true h1
    go_enter Tryz.func87, Tryz.ntmps87
    go_wp2_with fail
    refine (HT.out).mono ?_
    rintro e w1 ⟨rfl, rfl⟩
    go_wp2_with fail
    refine (HS.out).mono ?_
    rintro e w1 ⟨rfl, rfl⟩
    go_upto_region 3 with fail
    go_quiet ((go_at_call 84; exact Calls.quiet_of_same (HSd.out _ rfl)))
    go_wp2
    go_ret2
    exact ⟨rfl, belN _ _⟩
  · have d1 : decide (cl < 0) = false := decide_eq_false h1
    have d2 : decide (cl > 64) = true := decide_eq_true (by omega)
    go_enter Tryz.func87, Tryz.ntmps87
    go_wp2_with fail
    refine (HT.out).mono ?_
    rintro e w1 ⟨rfl, rfl⟩
    go_wp2_with fail
    refine (HS.out).mono ?_
    rintro e w1 ⟨rfl, rfl⟩
    go_upto_region 3 with fail
    go_quiet ((go_at_call 84; exact Calls.quiet_of_same (HSd.out _ rfl)))
    go_wp2
    go_ret2
    exact ⟨rfl, belN _ _⟩

set_option maxRecDepth 100000 in
set_option maxHeartbeats 1000000 in
theorem turn_st (N : Nat) (B : SB) (V : Nat → Value) (size : Int) (A : SA) (n m : Nat) (MBk : MB) (vl : Nat) (st : St4) (cl a was now tb : Int) (w : World) (h : TurnIn w N B V size A n m MBk vl st) (hc : 0 ≤ cl ∧ cl ≤ 64) (hw : isGet A.is a ≠ was) :
    Calls Tryz.prog 87 #[.pointer (some ⟨B.s, 0, none⟩), .pointer (some ⟨m, 0, none⟩), .int .i64 cl, .int .u64 a, .int .i64 was, .int .i64 now, .int .i64 tb] w fun e w' => e = .returned (.tuple #[.pointer none, .int .i64 7]) ∧ Below w.heap.size w w' := by
  have hT := sthere_z _ n w (HasSlabs.of h.sl h.hl h.hn)
  rw [decide_eq_true (show 0 < n by have := h.hn; omega)] at hT
  have HT := hid hT
  have HS := hid (Size_m m MBk vl st h.pos.1 h.pos.2 w h.mem)
  have HSd := hid (fun (W : World) (hW : W.heap = w.heap) => Size_m m MBk vl st h.pos.1 h.pos.2 W (show W.heap[m]? = _ by rw [hW]; exact h.mem) |>.mono fun e w' (hh : e = _ ∧ W = w') => (⟨hh.1, hh.2.symm⟩ : e = _ ∧ w' = W))
  have hsz := h.size
  obtain ⟨z, hz⟩ : ∃ z, z = ((8 * vl : Nat) : Int) := ⟨_, rfl⟩
  rw [← hz] at hsz HS HSd
  have z0 : (z == 0) = false := by have := h.pos; simp; omega
  have ys : w.cell? ⟨B.s, 0, none⟩ = some (.int .i64 z) := by rw [← hsz]; exact h.sl.st.cell 0
  have z1 : (z != z) = false := by simp
  have d1 : decide (cl < 0) = false := decide_eq_false (by omega)
  have d2 : decide (cl > 64) = false := decide_eq_false (by omega)
  have hlook : ∀ k, (Instr.lookup 91 (.map (some B.m)) (.int .u64 a) false).run Tryz.prog (w.drewN k) = .ok (.int .i64 (isGet A.is a)) (w.drewN k) := fun k => (h.sl.bel (belN w k)).look a
  have ym : ∀ k, (w.drewN k).cell? ⟨B.s, 6, none⟩ = some (.map (some B.m)) := fun k => (h.sl.bel (belN w k)).cm
  obtain ⟨q, hq⟩ : ∃ q, q = isGet A.is a := ⟨_, rfl⟩
  rw [← hq] at hlook hw
  have HL := hid hlook
  have YM := hid ym
  have e1 : (q != was) = true := by simpa using hw
  clear h hT hz hsz hlook hq hw ym
  go_enter Tryz.func87, Tryz.ntmps87
  go_wp2_with fail
  refine (HT.out).mono ?_
  rintro e w1 ⟨rfl, rfl⟩
  go_wp2_with fail
  refine (HS.out).mono ?_
  rintro e w1 ⟨rfl, rfl⟩
  go_upto_region 3 with fail
  go_quiet ((go_at_call 84; exact Calls.quiet_of_same (HSd.out _ rfl)))
  have hl := HL.out nq
  have ym := YM.out nq
  go_wp2
  go_ret2
  exact ⟨rfl, belN _ _⟩

/-- a turn begun: its object is new -/
structure TurnOut (w : World) (N : Nat) (B : SB) (V : Nat → Value) (size : Int) (A : SA) (m : Nat) (cl a now tb : Int) (t : Nat) (w' : World) : Prop where
  sl : SlabIs w' N B V size { A with is := isSet A.is a now }
  blk : Blk w' t 162 (turnC B.s m t cl a tb 0)
  new : w.heap.size ≤ t
  only : Only [B.m] w w'

set_option maxRecDepth 100000 in
set_option maxHeartbeats 1000000 in
theorem turn_ok (N : Nat) (B : SB) (V : Nat → Value) (size : Int) (A : SA) (n m : Nat) (MBk : MB) (vl : Nat) (st : St4) (cl a was now tb : Int) (w : World) (h : TurnIn w N B V size A n m MBk vl st) (hc : 0 ≤ cl ∧ cl ≤ 64) (hw : isGet A.is a = was) (ha : 0 ≤ a ∧ a ≤ 18446744073709551615) :
    Calls Tryz.prog 87 #[.pointer (some ⟨B.s, 0, none⟩), .pointer (some ⟨m, 0, none⟩), .int .i64 cl, .int .u64 a, .int .i64 was, .int .i64 now, .int .i64 tb] w fun e w' => ∃ t, e = .returned (.tuple #[.pointer (some ⟨t, 0, none⟩), .int .i64 0]) ∧ TurnOut w N B V size A m cl a now tb t w' := by
  have hT := sthere_z _ n w (HasSlabs.of h.sl h.hl h.hn)
  rw [decide_eq_true (show 0 < n by have := h.hn; omega)] at hT
  have HT := hid hT
  have HS := hid (Size_m m MBk vl st h.pos.1 h.pos.2 w h.mem)
  have HSd := hid (fun (W : World) (hW : W.heap = w.heap) => Size_m m MBk vl st h.pos.1 h.pos.2 W (show W.heap[m]? = _ by rw [hW]; exact h.mem) |>.mono fun e w' (hh : e = _ ∧ W = w') => (⟨hh.1, hh.2.symm⟩ : e = _ ∧ w' = W))
  have hsz := h.size
  obtain ⟨z, hz⟩ : ∃ z, z = ((8 * vl : Nat) : Int) := ⟨_, rfl⟩
  rw [← hz] at hsz HS HSd
  have z0 : (z == 0) = false := by have := h.pos; simp; omega
  have ys : w.cell? ⟨B.s, 0, none⟩ = some (.int .i64 z) := by rw [← hsz]; exact h.sl.st.cell 0
  have z1 : (z != z) = false := by simp
  have d1 : decide (cl < 0) = false := decide_eq_false (by omega)
  have d2 : decide (cl > 64) = false := decide_eq_false (by omega)
  have HL := hid (fun k => (show (Instr.lookup 91 (.map (some B.m)) (.int .u64 a) false).run Tryz.prog (w.drewN k) = .ok (.int .i64 (isGet A.is a)) (w.drewN k) from (h.sl.bel (belN w k)).look a))
  have YM := hid (fun k => (show (w.drewN k).cell? ⟨B.s, 6, none⟩ = some (.map (some B.m)) from (h.sl.bel (belN w k)).cm))
  have HU := hid (fun k => (h.sl.bel (belN w k)).put a now)
  rw [hw] at HL
  have e1 : (was != was) = false := by simp
  have HA := hid ha
  have HSl := hid h.sl
  clear h hT hz hsz hw ha
  go_enter Tryz.func87, Tryz.ntmps87
  go_wp2_with fail
  refine (HT.out).mono ?_
  rintro e w1 ⟨rfl, rfl⟩
  go_wp2_with fail
  refine (HS.out).mono ?_
  rintro e w1 ⟨rfl, rfl⟩
  go_upto_region 3 with fail
  go_quiet ((go_at_call 84; exact Calls.quiet_of_same (HSd.out _ rfl)))
  have hl := HL.out nq
  have ym := YM.out nq
  obtain ⟨w1, hu, hs1, ho1⟩ := HU.out nq
  have HS1 := hid hs1
  have HO1 := hid (show Only [B.m] w w1 from ((Only.refl [B.m] w).drewN nq).trans ho1 (fun x hx => Or.inl hx))
  clear hs1 ho1
  go_wp2_with fail
  refine (Slab_z a _ HA.out.1 HA.out.2).mono ?_
  rintro e w2 ⟨rfl, rfl⟩
  have bn := Blk.new w1 162 #[.pointer (some ⟨B.s, 0, none⟩), .pointer (some ⟨m, 0, none⟩), .int .i64 cl, .int .u64 a, .int .i64 (slabZ a), .int .i64 tb, .nilFunc, .bool false, .int .i64 0]
  have q6 := bn.cell 6
  have f6 := bn.frozen 6
  have HB := hid (Blk.new w1 162 (turnC B.s m w1.heap.size cl a tb 0))
  have HOA := hid ((Only.refl [] w1).alloc (.cells (turnC B.s m w1.heap.size cl a tb 0) 162))
  clear bn
  go_wp2
  go_ret2
  refine ⟨w1.heap.size, rfl, HS1.out.only HOA.out (fun _ _ _ h => by cases h), ?_, HO1.out.size, HO1.out.trans HOA.out (fun _ h => by cases h)⟩
  exact HB.out

set_option maxRecDepth 100000 in
theorem Publish_of (f : Value → Ending → World → Prop) (B : SB) (m : Nat) (cl a : Int) (w : World) (h : Calls Tryz.prog 87 #[.pointer (some ⟨B.s, 0, none⟩), .pointer (some ⟨m, 0, none⟩), .int .i64 cl, .int .u64 a, .int .i64 1, .int .i64 4, .int .i64 2] w fun e w' => ∃ v x, e = .returned (.tuple #[v, .int .i64 x]) ∧ f v e w') :
    Calls Tryz.prog 36 #[.pointer (some ⟨B.s, 0, none⟩), .pointer (some ⟨m, 0, none⟩), .int .i64 cl, .int .u64 a] w fun e w' => ∃ v x, e = .returned (.tuple #[v, .int .i64 x]) ∧ f v e w' := by
  have H := hid h
  clear h
  go_enter Tryz.func36, Tryz.ntmps36
  go_wp2_with fail
  refine H.out.mono ?_
  rintro e w1 ⟨v, x, rfl, hf⟩
  have HF := hid hf
  clear hf
  go_wp2
  go_ret2
  exact ⟨v, x, rfl, HF.out⟩
set_option maxRecDepth 100000 in
theorem Free_of (f : Value → Ending → World → Prop) (B : SB) (m : Nat) (cl a : Int) (w : World) (h : Calls Tryz.prog 87 #[.pointer (some ⟨B.s, 0, none⟩), .pointer (some ⟨m, 0, none⟩), .int .i64 cl, .int .u64 a, .int .i64 2, .int .i64 3, .int .i64 0] w fun e w' => ∃ v x, e = .returned (.tuple #[v, .int .i64 x]) ∧ f v e w') :
    Calls Tryz.prog 67 #[.pointer (some ⟨B.s, 0, none⟩), .pointer (some ⟨m, 0, none⟩), .int .i64 cl, .int .u64 a] w fun e w' => ∃ v x, e = .returned (.tuple #[v, .int .i64 x]) ∧ f v e w' := by
  have H := hid h
  clear h
  go_enter Tryz.func67, Tryz.ntmps67
  go_wp2_with fail
  refine H.out.mono ?_
  rintro e w1 ⟨v, x, rfl, hf⟩
  have HF := hid hf
  clear hf
  go_wp2
  go_ret2
  exact ⟨v, x, rfl, HF.out⟩

end Go.Proofs.YtbkaemajjaiklaaGreat
