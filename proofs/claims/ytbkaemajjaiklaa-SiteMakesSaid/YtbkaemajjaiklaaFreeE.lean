/- slices.IndexFunc over a row of addresses, by the test of Free.place. -/
import Derived.Test.YtbkaemajjaiklaaHeapR
namespace Go.Proofs.Ytbkaemajjaiklaa
open Go.RowKit
set_option linter.unusedVariables false
set_option linter.unusedSimpArgs false

set_option maxRecDepth 100000 in
theorem isAt_z (B : Nat) (x a : Int) (w : World) (h : w.cell? ⟨B, 0, none⟩ = some (.int .u64 a)) : Calls Try.prog 105 #[.int .u64 x, .pointer (some ⟨B, 0, none⟩)] w fun e w' => e = .returned (.bool (x == a)) ∧ w = w' := by
  go_enter Try.func105, Try.ntmps105
  go_wp2
  go_ret
  exact ⟨rfl, rfl⟩

/-- where an address lies in a row, or -1 -/
def idxA (xs : List Int) (a : Int) : Int := if a ∈ xs then (xs.idxOf a : Int) else -1
theorem idxA_at {xs : List Int} {a : Int} {k : Nat} (hk : k < xs.length) (h0 : ∀ j, j < k → at0 xs j ≠ a) (h1 : at0 xs k = a) : idxA xs a = (k : Int) := by
  have hm : a ∈ xs := by
    have := at0_some hk
    rw [h1] at this
    exact List.mem_of_getElem? this
  rw [idxA, if_pos hm]
  have h2 : xs.idxOf a = k := by
    have hl : xs.idxOf a < xs.length := List.idxOf_lt_length_iff.2 hm
    have hg : xs[xs.idxOf a] = a := List.getElem_idxOf hl
    have hga : at0 xs (xs.idxOf a) = a := by
      have := at0_some hl
      rw [List.getElem?_eq_getElem hl, hg] at this
      exact (Option.some.inj this).symm
    rcases Nat.lt_trichotomy (xs.idxOf a) k with h | h | h
    · exact absurd hga (h0 _ h)
    · exact h
    · have hne := List.not_of_lt_findIdx (p := (· == a)) (xs := xs) (i := k) h
      have hka : xs[k] = a := by
        have := at0_some hk
        rw [List.getElem?_eq_getElem hk, h1] at this
        exact Option.some.inj this
      rw [hka] at hne
      simp at hne
  rw [h2]
theorem idxA_no {xs : List Int} {a : Int} (h0 : ∀ j, j < xs.length → at0 xs j ≠ a) : idxA xs a = -1 := by
  rw [idxA, if_neg]
  intro hm
  obtain ⟨j, hj, he⟩ := List.getElem_of_mem hm
  have := at0_some hj
  rw [List.getElem?_eq_getElem hj, he] at this
  exact h0 j hj (Option.some.inj this).symm

set_option maxRecDepth 100000 in
set_option maxHeartbeats 1000000 in
theorem idxFunc_z (g cap B : Nat) (xs : List Int) (a : Int) (hx : xs.length ≤ 1000000) (w : World) (h : AddrRow w g cap xs) (hB : w.cell? ⟨B, 0, none⟩ = some (.int .u64 a)) :
    Calls Try.prog 104 #[.slice (some ⟨g, 0, none⟩) xs.length cap, .func (.func 105) #[] #[.pointer (some ⟨B, 0, none⟩)]] w fun e w' => e = .returned (.int .i64 (idxA xs a)) ∧ w = w' := by
  obtain ⟨n, hn⟩ : ∃ n, n = xs.length := ⟨_, rfl⟩
  rw [← hn] at hx ⊢
  have HN := hid hn
  have H := hid h
  have HB := hid hB
  clear hn h hB
  go_enter Try.func104, Try.ntmps104
  go_wp2
  go_loopw [8] (fun i wr => ∃ k : Nat, k ≤ n ∧ i = .int .i64 k ∧ wr = w ∧ Hid (∀ j, j < k → at0 xs j ≠ a)) (fun i _ => n - (intOf i).toNat)
  case atStart => exact ⟨0, Nat.zero_le _, rfl, rfl, hid (fun j hj => absurd hj (Nat.not_lt_zero _))⟩
  case round =>
    obtain ⟨k, hk, rfl, rfl, hA⟩ := hrel
    by_cases hkn : k < n
    · have t1 : decide ((k : Int) < (n : Int)) = true := by simp; omega
      have i1 : (0 : Int) ≤ (k : Int) := by omega
      have i2 : (k : Int) < (n : Int) := by omega
      have y0 := H.out.cell (at0_some (xs := xs) (i := k) (by rw [← HN.out]; exact hkn))
      obtain ⟨x, hxx⟩ : ∃ x, x = at0 xs k := ⟨_, rfl⟩
      rw [← hxx] at y0
      have HX := hid hxx
      clear hxx
      go_wp2_with fail
      refine (isAt_z B x a wr HB.out).mono ?_
      rintro e w2 ⟨rfl, rfl⟩
      by_cases hxa : x = a
      · have t2 : (x == a) = true := by simp [hxa]
        rw [t2]
        have hr : idxA xs a = (k : Int) := idxA_at (by rw [← HN.out]; exact hkn) hA.out (by rw [← HX.out]; exact hxa)
        go_wp2
        go_ret
        exact ⟨by rw [hr]; rfl, rfl⟩
      · have t2 : (x == a) = false := by simp [hxa]
        rw [t2]
        go_wp2
        go_roundw
        case rel => exact ⟨k + 1, by omega, by simp, trivial, hid (fun j hj => by
          rcases Nat.lt_succ_iff_lt_or_eq.1 hj with h | h
          · exact hA.out j h
          · rw [h, ← HX.out]; exact hxa)⟩
        case measure => simp [intOf]; omega
    · have t1 : decide ((k : Int) < (n : Int)) = false := by simp; omega
      have hr : idxA xs a = -1 := idxA_no (fun j hj => hA.out j (by rw [← HN.out] at hj; omega))
      go_wp2
      go_ret
      exact ⟨by rw [hr]; rfl, rfl⟩

end Go.Proofs.Ytbkaemajjaiklaa
