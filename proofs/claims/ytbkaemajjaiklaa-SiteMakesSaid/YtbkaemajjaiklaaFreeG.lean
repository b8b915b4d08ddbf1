/- Free.place, Free.Has over any set of addresses, the empty one too. -/
import Derived.Test.YtbkaemajjaiklaaFreeF
namespace Go.Proofs.Ytbkaemajjaiklaa
open Go.RowKit
set_option linter.unusedVariables false
set_option linter.unusedSimpArgs false

set_option maxRecDepth 100000 in
theorem idxFunc_nil (v : Value) (w : World) : Calls Try.prog 104 #[.slice none 0 0, v] w fun e w' => e = .returned (.int .i64 (-1)) ∧ w = w' := by
  go_enter Try.func104, Try.ntmps104
  go_wp2
  go_loopw [8] (fun i wr => i = .int .i64 0 ∧ wr = w) (fun i _ => 0)
  case atStart => exact ⟨rfl, rfl⟩
  case round =>
    obtain ⟨rfl, rfl⟩ := hrel
    go_wp2
    go_ret
    exact ⟨rfl, rfl⟩

set_option maxRecDepth 100000 in
theorem place_any (f : Nat) (v : Value) (xs : List Int) (a : Int) (hx : xs.length ≤ 1000000) (w : World) (h : FreeRow w f v xs) :
    Calls Try.prog 76 #[.pointer (some ⟨f, 0, none⟩), .int .u64 a] w fun e w' => e = .returned (.int .i64 (idxA xs a)) ∧ Below w.heap.size w w' := by
  obtain ⟨t, hb⟩ := h.blk
  obtain ⟨_, h1 | ⟨g, cap, h1, _, h2⟩⟩ := AddrRow.of_own h.row
  · obtain ⟨hv, rfl⟩ := h1
    have hf : w.cell? ⟨f, 0, none⟩ = some (.slice none 0 0) := by rw [← hv]; exact hb.cell 0
    have hfl := hb.lt
    clear hb h hv
    go_enter Try.func76, Try.ntmps76
    go_wp2_with fail
    have hb : Below w.heap.size w (w.alloc (.cells #[.int .u64 a] 47)) := by (repeat (first | exact Below.refl _ _ | (refine ba ?_ _) | (refine Below.drew ?_) | (refine below_drewN ?_ _) | (refine Below.alloc ?_ (by first | omega | (simp; done) | (simp; omega)) _) | (refine Below.setCell ?_ (by first | omega | (simp; done) | (simp; omega)) _) | (refine bx ?_ (by assumption)) | (refine Below.trans ?_ (Below.mono (by assumption) (by first | omega | (simp; done) | (simp; omega))))))
    refine Calls.mono (idxFunc_nil (.func (.func 105) #[] #[.pointer (some ⟨w.heap.size, 0, none⟩)]) (w.alloc (.cells #[.int .u64 a] 47))) ?_
    rintro e w2 ⟨rfl, rfl⟩
    go_wp2
    go_ret
    exact ⟨rfl, hb⟩
  · have hf : w.cell? ⟨f, 0, none⟩ = some (.slice (some ⟨g, 0, none⟩) xs.length cap) := by rw [← h1]; exact hb.cell 0
    exact place_z f g cap xs a hx w hf hb.lt h2

end Go.Proofs.Ytbkaemajjaiklaa
