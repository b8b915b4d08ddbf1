/- A set of addresses: its length; one popped off the end. -/
import Derived.Test.YtbkaemajjaiklaaFreeC
namespace Go.Proofs.Ytbkaemajjaiklaa
open Go.RowKit
set_option linter.unusedVariables false
set_option linter.unusedSimpArgs false

theorem FreeRow.form {w : World} {f : Nat} {v : Value} {xs : List Int} (h : FreeRow w f v xs) : ∃ p cap, v = .slice p xs.length cap := by
  rcases h.row.2 with ⟨h1, h2⟩ | ⟨g, cap, cur, h1, _⟩
  · exact ⟨none, 0, by rw [h1]; simp at h2; rw [h2]; rfl⟩
  · exact ⟨_, _, h1⟩
set_option maxRecDepth 100000 in
theorem FLen_z (f : Nat) (v : Value) (xs : List Int) (w : World) (h : FreeRow w f v xs) : Calls Try.prog 54 #[.pointer (some ⟨f, 0, none⟩)] w fun e w' => e = .returned (.int .i64 (xs.length : Int)) ∧ w = w' := by
  obtain ⟨t, hb⟩ := h.blk
  obtain ⟨p, cap, hv⟩ := h.form
  obtain ⟨n, hn⟩ : ∃ n, n = xs.length := ⟨_, rfl⟩
  rw [← hn] at hv ⊢
  have y0 : w.cell? ⟨f, 0, none⟩ = some (.slice p n cap) := by rw [← hv]; exact hb.cell 0
  clear hb hv hn h
  go_enter Try.func54, Try.ntmps54
  go_wp2_with fail
  refine (aLen_z p n cap w).mono ?_
  rintro e w1 ⟨rfl, rfl⟩
  go_wp2
  go_ret
  exact ⟨rfl, rfl⟩

set_option maxRecDepth 100000 in
set_option maxHeartbeats 1000000 in
theorem aPop_z (f g cap : Nat) (t : TypeId) (xs : List Int) (x : Int) (hfg : f ≠ g) (w : World) (hb : Blk w f t #[.slice (some ⟨g, 0, none⟩) (xs.length + 1) cap]) (h : AddrRow w g cap (xs ++ [x])) (hx : xs.length ≤ 1000000) :
    Calls Try.prog 162 #[.pointer (some ⟨f, 0, none⟩)] w fun e w' => e = .returned (.iface 47 (.int .u64 x)) ∧ Blk w' f t #[.slice (some ⟨g, 0, none⟩) xs.length cap] ∧ AddrRow w' g cap xs ∧ Only [f] w w' := by
  obtain ⟨n, hn⟩ : ∃ n, n = xs.length := ⟨_, rfl⟩
  rw [← hn] at hb hx ⊢
  have y0 : w.cell? ⟨f, 0, none⟩ = some (.slice (some ⟨g, 0, none⟩) (n + 1) cap) := hb.cell 0
  have y0f := hb.frozen 0
  have y1 : w.cell? ⟨g, n, none⟩ = some (.int .u64 x) := h.cell (by rw [hn]; simp)
  have hcap : n + 1 ≤ cap := by obtain ⟨cur, _, h2, _⟩ := h; simp at h2; omega
  have i1 : (0 : Int) ≤ (n : Int) := by omega
  have i2 : (n : Int) < (n : Int) + 1 := by omega
  have i3 : (n : Int) ≤ (cap : Int) := by omega
  have i4 : n ≤ cap := by omega
  have HB := hid hb
  have H := hid h
  clear hb h hn
  go_enter Try.func162, Try.ntmps162
  go_wp2
  go_ret
  refine ⟨rfl, HB.out.set_ 0 _, ?_, (Only.refl _ _).setCell (Or.inl (by simp)) _⟩
  have h1 : AddrRow w g cap xs := by
    obtain ⟨cur, h1, h2, h3, h4⟩ := H.out
    exact ⟨cur, h1, by simp at h2; omega, h3, fun i y hy => h4 i y (by rw [List.getElem?_append_left (List.getElem?_eq_some_iff.1 hy).1]; exact hy)⟩
  exact h1.only ((Only.refl [f] w).setCell (Or.inl (by simp)) _) (by simpa using hfg.symm)

end Go.Proofs.Ytbkaemajjaiklaa
