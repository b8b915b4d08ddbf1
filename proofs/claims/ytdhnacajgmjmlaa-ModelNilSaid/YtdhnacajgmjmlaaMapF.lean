/- does: a map of functions; Do. -/
import Derived.Carry
import Derived.MapKept
import Derived.Test.YtdhnacajgmjmlaaMapE
namespace Go.Proofs.Ytdhnacajgmjmlaa
open Go.RowKit
set_option linter.unusedVariables false

section
variable {P : Program}
theorem run_check_i64 (w : World) (kt : TypeId) (hk : P.underlying kt = some (.int .i64)) (k : Int) (b : Bool) (n : Nat) : (Instr.checkKey b (n + 1) kt (.int .i64 k)).run P w = .ok () w := by
  unfold Instr.checkKey
  simp [run_underlying hk, Result.andThen]
theorem run_upd_i64 (w : World) (t kt vt : TypeId) (hu : P.underlying t = some (.map kt vt)) (hk : P.underlying kt = some (.int .i64)) (r : Nat) (es : Array MapEntry) (clock : Nat) (hb : w.heap[r]? = some (.map es clock)) (k : Int) (v : Value)
    (hf : Instr.findNow (.int .i64) (.int .i64 k) es.toList 0 = some none) :
    (Instr.mapUpdate t (.map (some r)) (.int .i64 k) v).run P w = .ok () (w.putObj r (.map (es.push { key := .int .i64 k, val := v, born := clock }) (clock + 1))) := by
  have hg : (getObj r).run P w = .ok (.map es clock) w := by simp [getObj, Sem.run, hb]
  have hs : (setObj r (.map (es.push { key := .int .i64 k, val := v, born := clock }) (clock + 1))).run P w = .ok () (w.putObj r (.map (es.push { key := .int .i64 k, val := v, born := clock }) (clock + 1))) := by simp [setObj, Sem.run, hb, World.putObj]
  have hc := run_check_i64 w kt hk k false 9999
  have hfk : (Instr.findKey kt (.int .i64 k) es.toList).run P w = .ok none w := by
    unfold Instr.findKey
    simp [run_underlying hk, hf, Result.andThen]
  unfold Instr.mapUpdate
  simp only [Sem.run_bind, run_underlying hu, hg, hc, hfk, hs, Result.andThen]
theorem run_look_i64 (w : World) (t kt vt : TypeId) (hu : P.underlying t = some (.map kt vt)) (hk : P.underlying kt = some (.int .i64)) (r : Nat) (es : Array MapEntry) (clock : Nat) (hb : w.heap[r]? = some (.map es clock)) (k : Int) (i : Nat) (v : Value)
    (hf : Instr.findNow (.int .i64) (.int .i64 k) es.toList 0 = some (some (i, v))) :
    (Instr.lookup t (.map (some r)) (.int .i64 k) false).run P w = .ok v w := by
  have hg : (getObj r).run P w = .ok (.map es clock) w := by simp [getObj, Sem.run, hb]
  have hc := fun b => run_check_i64 (P := P) w kt hk k b 9999
  have hfk : (Instr.findKey kt (.int .i64 k) es.toList).run P w = .ok (some (i, v)) w := by
    unfold Instr.findKey
    simp [run_underlying hk, hf, Result.andThen]
  unfold Instr.lookup
  simp only [Sem.run_bind, run_underlying hu, hg, hc, hfk, Result.andThen, Sem.run_pure]
  rfl

theorem wpList_insert_run (w : World) {ops : Array Oper} {rest : List Oper} {o : Oper} {a : Act} {Q : Exit → Act → World → Prop} (hg : o.guard = none) (m x v : Operand) (t : TypeId) (hop : o.op = Op.insert t m x v)
    (vm vx vv : Value) (hm : a.eval m = vm) (hx : a.eval x = vx) (hv : a.eval v = vv) {w' : World} (hrun : (Instr.mapUpdate t vm vx vv).run P w = .ok () w') (hK : wpList P ops Q rest (a.put o.dst undef) w') :
    wpList P ops Q (o :: rest) a w := by
  refine wpList_plain hg fun K' hK' => ?_
  unfold Oper.wp
  simp [execOp, hop, hm, hx, hv, hrun, Result.andThen]
  exact hK' _ _ hK
theorem wpList_makeMap_run (w : World) {ops : Array Oper} {rest : List Oper} {o : Oper} {a : Act} {Q : Exit → Act → World → Prop} (hg : o.guard = none) (t : TypeId) (hop : o.op = Op.makeMap t none)
    (hK : wpList P ops Q rest (a.put o.dst (.map (some w.heap.size))) (w.alloc (.map #[] 0))) :
    wpList P ops Q (o :: rest) a w := by
  refine wpList_plain hg fun K' hK' => ?_
  unfold Oper.wp
  simp [execOp, hop, run_makeMap, Result.andThen]
  exact hK' _ _ hK
end

def fnV (n : Nat) : Value := .func (.func n) #[] #[]
def dm1 : Array MapEntry := (#[] : Array MapEntry).push { key := .int .i64 1, val := fnV 99, born := 0 }
def dm2 : Array MapEntry := dm1.push { key := .int .i64 2, val := fnV 100, born := 1 }
def dm3 : Array MapEntry := dm2.push { key := .int .i64 3, val := fnV 101, born := 2 }
def doesMap : Array MapEntry := dm3.push { key := .int .i64 4, val := fnV 102, born := 3 }
theorem putObj_heap {w : World} {r : Nat} {o o' : Obj} (h : w.heap[r]? = some o) : (w.putObj r o').heap[r]? = some o' := by
  have hlt : r < w.heap.size := (Array.getElem?_eq_some_iff.1 h).1
  simp [World.putObj, hlt]
theorem below_putObj {w w' : World} {r : Nat} {B : Nat} (h : Below B w w') (hr : B ≤ r) (o' : Obj) : Below B w (w'.putObj r o') :=
  ⟨h.os, h.tape, h.output, by simpa [World.putObj] using h.size, fun k hk => (World.putObj_heap_other (by omega)).trans (h.block k hk)⟩

theorem found1 : Instr.findNow (.int .i64) (.int .i64 1) (#[] : Array MapEntry).toList 0 = some none := rfl
theorem found2 : Instr.findNow (.int .i64) (.int .i64 2) dm1.toList 0 = some none := rfl
theorem found3 : Instr.findNow (.int .i64) (.int .i64 3) dm2.toList 0 = some none := rfl
theorem found4 : Instr.findNow (.int .i64) (.int .i64 4) dm3.toList 0 = some none := rfl
def dw0 (w : World) : World := w.alloc (.map #[] 0)
def dw1 (w : World) : World := (dw0 w).putObj w.heap.size (.map dm1 1)
def dw2 (w : World) : World := (dw1 w).putObj w.heap.size (.map dm2 2)
def dw3 (w : World) : World := (dw2 w).putObj w.heap.size (.map dm3 3)
def dw4 (w : World) : World := (dw3 w).putObj w.heap.size (.map doesMap 4)
theorem wpList_makeMap_dw (w : World) {P : Program} {ops : Array Oper} {rest : List Oper} {o : Oper} {a : Act} {Q : Exit → Act → World → Prop} (hg : o.guard = none) (t : TypeId) (hop : o.op = Op.makeMap t none)
    (hK : wpList P ops Q rest (a.put o.dst (.map (some w.heap.size))) (dw0 w)) : wpList P ops Q (o :: rest) a w := wpList_makeMap_run w hg t hop hK
theorem dh0 (w : World) : (dw0 w).heap[w.heap.size]? = some (.map #[] 0) := heap_alloc_new w _
theorem dh1 (w : World) : (dw1 w).heap[w.heap.size]? = some (.map dm1 1) := putObj_heap (dh0 w)
theorem dh2 (w : World) : (dw2 w).heap[w.heap.size]? = some (.map dm2 2) := putObj_heap (dh1 w)
theorem dh3 (w : World) : (dw3 w).heap[w.heap.size]? = some (.map dm3 3) := putObj_heap (dh2 w)
theorem dh4 (w : World) : (dw4 w).heap[w.heap.size]? = some (.map doesMap 4) := putObj_heap (dh3 w)
theorem dr1 (w : World) : (Instr.mapUpdate 132 (.map (some w.heap.size)) (.int .i64 1) (fnV 99)).run Try.prog (dw0 w) = .ok () (dw1 w) := run_upd_i64 _ 132 56 _ Try.underlying132 Try.underlying56 _ _ _ (dh0 w) 1 _ found1
theorem dr2 (w : World) : (Instr.mapUpdate 132 (.map (some w.heap.size)) (.int .i64 2) (fnV 100)).run Try.prog (dw1 w) = .ok () (dw2 w) := run_upd_i64 _ 132 56 _ Try.underlying132 Try.underlying56 _ _ _ (dh1 w) 2 _ found2
theorem dr3 (w : World) : (Instr.mapUpdate 132 (.map (some w.heap.size)) (.int .i64 3) (fnV 101)).run Try.prog (dw2 w) = .ok () (dw3 w) := run_upd_i64 _ 132 56 _ Try.underlying132 Try.underlying56 _ _ _ (dh2 w) 3 _ found3
theorem dr4 (w : World) : (Instr.mapUpdate 132 (.map (some w.heap.size)) (.int .i64 4) (fnV 102)).run Try.prog (dw3 w) = .ok () (dw4 w) := run_upd_i64 _ 132 56 _ Try.underlying132 Try.underlying56 _ _ _ (dh3 w) 4 _ found4
theorem dbel (w : World) : Below w.heap.size w (dw4 w) := below_putObj (below_putObj (below_putObj (below_putObj (ba (Below.refl w.heap.size w) _) (Nat.le_refl _) _) (Nat.le_refl _) _) (Nat.le_refl _) _) (Nat.le_refl _) _

attribute [local irreducible] dw0 dw1 dw2 dw3 dw4

set_option maxRecDepth 100000 in
set_option maxHeartbeats 1000000 in
theorem does_z (w : World) : Calls Try.prog 66 #[] w fun e w' => e = .returned (.map (some w.heap.size)) ∧ w'.heap[w.heap.size]? = some (.map doesMap 4) ∧ Below w.heap.size w w' := by
  go_enter Try.func66, Try.ntmps66
  go_wp2_with (first | (refine wpList_makeMap_dw _ rfl 132 rfl ?_) | (refine wpList_insert_run (dw0 w) rfl (.tmp 1) (.const (.int .i64 1)) (.func 99) 132 rfl (.map (some w.heap.size)) (.int .i64 1) (fnV 99) rfl rfl rfl (dr1 w) ?_) | (refine wpList_insert_run (dw1 w) rfl (.tmp 1) (.const (.int .i64 2)) (.func 100) 132 rfl (.map (some w.heap.size)) (.int .i64 2) (fnV 100) rfl rfl rfl (dr2 w) ?_) | (refine wpList_insert_run (dw2 w) rfl (.tmp 1) (.const (.int .i64 3)) (.func 101) 132 rfl (.map (some w.heap.size)) (.int .i64 3) (fnV 101) rfl rfl rfl (dr3 w) ?_) | (refine wpList_insert_run (dw3 w) rfl (.tmp 1) (.const (.int .i64 4)) (.func 102) 132 rfl (.map (some w.heap.size)) (.int .i64 4) (fnV 102) rfl rfl rfl (dr4 w) ?_))
  go_ret
  exact ⟨rfl, dh4 w, dbel w⟩

end Go.Proofs.Ytdhnacajgmjmlaa
