/- Free.place, Free.Has. -/
import Derived.Test.YtbkaemajjaiklaaFreeE
namespace Go.Proofs.Ytbkaemajjaiklaa
open Go.RowKit
set_option linter.unusedVariables false
set_option linter.unusedSimpArgs false

set_option maxRecDepth 100000 in
theorem place_z (f g cap : Nat) (xs : List Int) (a : Int) (hx : xs.length ≤ 1000000) (w : World) (hf : w.cell? ⟨f, 0, none⟩ = some (.slice (some ⟨g, 0, none⟩) xs.length cap)) (hfl : f < w.heap.size) (h : AddrRow w g cap xs) :
    Calls Try.prog 76 #[.pointer (some ⟨f, 0, none⟩), .int .u64 a] w fun e w' => e = .returned (.int .i64 (idxA xs a)) ∧ Below w.heap.size w w' := by
  obtain ⟨n, hn⟩ : ∃ n, n = xs.length := ⟨_, rfl⟩
  rw [← hn] at hx hf
  have HN := hid hn
  have H := hid h
  clear hn h
  go_enter Try.func76, Try.ntmps76
  go_wp2_with fail
  have hb : Below w.heap.size w (w.alloc (.cells #[.int .u64 a] 47)) := by (repeat (first | exact Below.refl _ _ | (refine ba ?_ _) | (refine Below.drew ?_) | (refine below_drewN ?_ _) | (refine Below.alloc ?_ (by first | omega | (simp; done) | (simp; omega)) _) | (refine Below.setCell ?_ (by first | omega | (simp; done) | (simp; omega)) _) | (refine bx ?_ (by assumption)) | (refine Below.trans ?_ (Below.mono (by assumption) (by first | omega | (simp; done) | (simp; omega))))))
  have h1 : AddrRow (w.alloc (.cells #[.int .u64 a] 47)) g cap xs := H.out.only (Only.of_below hb []) (by simp)
  have hc : (w.alloc (.cells #[.int .u64 a] 47)).cell? ⟨w.heap.size, 0, none⟩ = some (.int .u64 a) := by go_simp
  have hI := idxFunc_z g cap w.heap.size xs a (by rw [← HN.out]; exact hx) _ h1 hc
  rw [← HN.out] at hI
  refine hI.mono ?_
  rintro e w2 ⟨rfl, rfl⟩
  go_wp2
  go_ret
  exact ⟨rfl, hb⟩

set_option maxRecDepth 100000 in
theorem FHas_z (f g cap : Nat) (xs : List Int) (a : Int) (hx : xs.length ≤ 1000000) (w : World) (hf : w.cell? ⟨f, 0, none⟩ = some (.slice (some ⟨g, 0, none⟩) xs.length cap)) (hfl : f < w.heap.size) (h : AddrRow w g cap xs) :
    Calls Try.prog 101 #[.pointer (some ⟨f, 0, none⟩), .int .u64 a] w fun e w' => e = .returned (.bool (decide (0 ≤ idxA xs a))) ∧ Below w.heap.size w w' := by
  have hP := place_z f g cap xs a hx w hf hfl h
  have HP := hid hP
  clear hP hf h
  go_enter Try.func101, Try.ntmps101
  go_wp2_with fail
  refine HP.out.mono ?_
  rintro e w2 ⟨rfl, hb⟩
  go_wp2
  go_ret
  exact ⟨rfl, hb⟩

end Go.Proofs.Ytbkaemajjaiklaa
