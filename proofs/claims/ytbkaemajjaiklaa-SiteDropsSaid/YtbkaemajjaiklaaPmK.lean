/- A memory of words: a map's copy. -/
import Derived.Maps.RangeRun
import Derived.Laws.Externs
import Derived.Test.YtbkaemajjaiklaaPmJ
namespace Go.Proofs.Ytbkaemajjaiklaa
open Go.RowKit
set_option linter.unusedVariables false
set_option linter.unusedSimpArgs false

set_option maxRecDepth 100000 in
theorem CloneLines_z (r : Nat) (es : Array MapEntry) (clock : Nat) (w : World) (hb : w.heap[r]? = some (.map es clock)) :
    Calls Try.prog 98 #[.map (some r)] w fun e w' => e = .returned (.map (some w.heap.size)) ∧ w' = w.alloc (.map es clock) := by
  have hcl : (callFunc 89 #[.iface 128 (.map (some r))]).run Try.prog w = .ok (.value (.iface 128 (.map (some w.heap.size)))) (w.alloc (.map es clock)) := by
    rw [run_callFunc_extern Try.func89 (by kernel_rfl) (by kernel_rfl) (by kernel_rfl) (e := Extern.MapsClone.clone) (by kernel_rfl)]
    have e : Extern.MapsClone.clone #[.iface 128 (.map (some r))] = (getObj r >>= fun o => match o with
      | .map entries clock => (newObj (.map entries clock) >>= fun n => pure (.iface 128 (.map (some n))))
      | _ => stuck "maps.clone: a map expected") := rfl
    rw [e]
    simp [MapKept.run_getObj_map hb, Result.andThen]
  have heq : (binOp BinOp.eql 128 (Value.map (some r)) (Value.map none)).run Try.prog w = .ok (.bool false) w := by kernel_rfl
  have hta : ∀ k w', (Instr.typeAssert (.iface 128 (.map (some k))) 20 128 false).run Try.prog w' = Result.ok (.map (some k)) w' := fun k w' => by simp [Instr.typeAssert, run_underlying Try.underlying128]
  clear hb
  go_enter Try.func98, Try.ntmps98
  go_wp2
  go_ret
  try exact ⟨rfl, rfl⟩

end Go.Proofs.Ytbkaemajjaiklaa
