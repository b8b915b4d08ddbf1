/- heap.Remove over a row of addresses. -/
import Derived.Test.YtbkaemajjaiklaaHeapD
import Derived.Test.YtbkaemajjaiklaaFreeD
namespace Go.Proofs.Ytbkaemajjaiklaa
open Go.RowKit
set_option linter.unusedVariables false
set_option linter.unusedSimpArgs false

/-- the row as Remove leaves it ahead of its Pop -/
def remD (xs : List Int) (i : Nat) : List Int × Nat := downF (xs.length - 1) (swapL xs i (xs.length - 1)) (xs.length - 1) i
def remL (xs : List Int) (i : Nat) : List Int :=
  if xs.length - 1 = i then xs else if i < (remD xs i).2 then (remD xs i).1 else upF xs.length (remD xs i).1 i
theorem remL_length (xs : List Int) (i : Nat) : (remL xs i).length = xs.length := by
  unfold remL
  split
  · rfl
  · split
    · rw [remD, downF_length, swapL_length]
    · rw [upF_length, remD, downF_length, swapL_length]
theorem split_last {n : Nat} (xs : List Int) (h : xs.length = n + 1) : ∃ ys x, xs = ys ++ [x] ∧ ys.length = n := by
  have hne : xs ≠ [] := by intro e; rw [e] at h; cases h
  exact ⟨xs.dropLast, xs.getLast hne, (List.dropLast_concat_getLast hne).symm, by simp [h]⟩

set_option maxRecDepth 100000 in
set_option maxHeartbeats 1000000 in
theorem hRemove_z (f g cap n : Nat) (t : TypeId) (xs : List Int) (i : Nat) (hn : xs.length = n + 1) (hi : i ≤ n) (hx : n ≤ 100000) (hfg : f ≠ g) (w : World) (hb : Blk w f t #[.slice (some ⟨g, 0, none⟩) (n + 1) cap]) (h : AddrRow w g cap xs) :
    Calls Try.prog 77 #[.iface 145 (.pointer (some ⟨f, 0, none⟩)), .int .i64 (i : Int)] w fun e w' => (∃ r, e = .returned r) ∧ Blk w' f t #[.slice (some ⟨g, 0, none⟩) n cap] ∧ AddrRow w' g cap (remL xs i).dropLast ∧ Only [f, g] w w' := by
  have pop : ∀ (zs : List Int) (w2 : World), zs.length = n + 1 → Hid (Blk w2 f t #[.slice (some ⟨g, 0, none⟩) (n + 1) cap]) → Hid (AddrRow w2 g cap zs) →
      Calls Try.prog 162 #[.pointer (some ⟨f, 0, none⟩)] w2 fun e w' => (∃ x : Int, e = .returned (.iface 47 (.int .u64 x))) ∧ Hid (Blk w' f t #[.slice (some ⟨g, 0, none⟩) n cap]) ∧ Hid (AddrRow w' g cap zs.dropLast) ∧ Hid (Only [f] w2 w') := by
    intro zs w2 hz b2 r2
    obtain ⟨ys, x, rfl, hy⟩ := split_last zs hz
    have := aPop_z f g cap t ys x hfg w2 (by rw [hy]; exact b2.out) r2.out (by omega)
    rw [hy] at this
    refine this.mono ?_
    rintro e w3 ⟨rfl, h1, h2, h3⟩
    exact ⟨⟨x, rfl⟩, h1, (by rw [List.dropLast_concat]; exact h2), h3⟩
  have y0 : w.cell? ⟨f, 0, none⟩ = some (.slice (some ⟨g, 0, none⟩) (n + 1) cap) := hb.cell 0
  have hfl := hb.lt
  have mL := mLen f _ (n + 1) cap w y0
  have POP := hid pop
  have HN := hid hn
  have HB := hid hb
  have H := hid h
  clear pop hn hb h
  have e1 : (((n + 1 : Nat) : Int)) = (n : Int) + 1 := by omega
  have e0 : ((n : Int) + 1) - 1 = (n : Int) := by omega
  go_enter Try.func77, Try.ntmps77
  go_wp2_with fail
  refine (aLen_z (some ⟨g, 0, none⟩) (n + 1) cap w).mono ?_
  rintro e w1 ⟨rfl, rfl⟩
  by_cases hni : n = i
  · have t1 : ((n : Int) == (i : Int)) = true := by simp [hni]
    have mP := mPop (.pointer (some ⟨f, 0, none⟩)) w
    go_wp2_with fail
    refine (POP.out xs w HN.out HB H).mono ?_
    rintro e w2 ⟨⟨x, rfl⟩, b2, r2, o2⟩
    go_wp2
    go_ret
    refine ⟨⟨_, rfl⟩, b2.out, ?_, o2.out.mono (by simp)⟩
    have : remL xs i = xs := by unfold remL; rw [if_pos (by rw [HN.out]; omega)]
    rw [this]; exact r2.out
  · have t1 : ((n : Int) == (i : Int)) = false := by simp; omega
    have mS := mSwap f _ (n + 1) cap w y0
    have hl0 : xs.length - 1 = n := by rw [HN.out]; rfl
    have hS := aSwap_z g cap xs i n (at0 xs i) (at0 xs n) (at0_some (by rw [HN.out]; omega)) (at0_some (by rw [HN.out]; omega)) w H.out
    rw [HN.out] at hS
    have HS := hid hS
    clear hS
    go_wp2_with fail
    refine HS.out.mono ?_
    rintro e w2 ⟨⟨v, rfl⟩, r2, o2⟩
    have R2 : Hid (AddrRow w2 g cap (swapL xs i n)) := r2
    have hl2 : (swapL xs i n).length = n + 1 := by rw [swapL_length, HN.out]
    have B2 : Hid (Blk w2 f t #[.slice (some ⟨g, 0, none⟩) (n + 1) cap]) := o2.blk HB.out (by simpa using hfg)
    have yf2 : w2.cell? ⟨f, 0, none⟩ = some (.slice (some ⟨g, 0, none⟩) (n + 1) cap) := B2.out.cell 0
    have hfl2 := B2.out.lt
    have hD := down_z f g cap n (swapL xs i n) i hi (by rw [hl2]; omega) (by rw [hl2]; omega) hfg w2 (by rw [hl2]; exact yf2) hfl2 R2.out
    have hrem : remD xs i = downF n (swapL xs i n) n i := by unfold remD; rw [hl0]
    rw [← hrem] at hD
    have HD := hid hD
    have O2 := hid o2
    have HR := hid hrem
    clear hD r2 o2 mS y0 yf2 hrem
    go_wp2_with fail
    refine HD.out.mono ?_
    rintro e w3 ⟨rfl, r3, o3⟩
    have hl3 : (remD xs i).1.length = n + 1 := by rw [HR.out, downF_length, hl2]
    have B3 : Hid (Blk w3 f t #[.slice (some ⟨g, 0, none⟩) (n + 1) cap]) := o3.blk B2.out (by simpa using hfg)
    have R3 := hid r3
    have O3 := hid (O2.out.trans o3 (fun y hy => Or.inl hy))
    have yf3 : w3.cell? ⟨f, 0, none⟩ = some (.slice (some ⟨g, 0, none⟩) (n + 1) cap) := B3.out.cell 0
    have hfl3 := B3.out.lt
    clear r3 o3
    by_cases hk : i < (remD xs i).2
    · have hrl : remL xs i = (remD xs i).1 := by unfold remL; rw [hl0, if_neg hni, if_pos hk]
      have HRL := hid hrl
      rw [decide_eq_true hk]
      have mP := mPop (.pointer (some ⟨f, 0, none⟩)) w3
      clear hrl yf3
      go_wp2_with fail
      refine (POP.out (remD xs i).1 w3 hl3 B3 R3).mono ?_
      rintro e w4 ⟨⟨x, rfl⟩, b4, r4, o4⟩
      go_wp2
      go_ret
      refine ⟨⟨_, rfl⟩, b4.out, ?_, (O3.out.mono (by simp)).trans (o4.out.mono (by simp)) (fun y hy => Or.inl hy)⟩
      rw [HRL.out]; exact r4.out
    · have hrl : remL xs i = upF (n + 1) (remD xs i).1 i := by unfold remL; rw [hl0, if_neg hni, if_neg hk, HN.out]
      have HRL := hid hrl
      rw [decide_eq_false hk]
      have hU := up_z f g cap (remD xs i).1 i (by rw [hl3]; omega) (by rw [hl3]; omega) hfg w3 (by rw [hl3]; exact yf3) hfl3 R3.out
      rw [hl3, ← hrl] at hU
      have HU := hid hU
      clear hrl hU yf3
      go_wp2_with fail
      refine HU.out.mono ?_
      rintro e w4 ⟨⟨v4, rfl⟩, r4, o4⟩
      have hl4 : (remL xs i).length = n + 1 := by rw [remL_length, HN.out]
      have B4 : Hid (Blk w4 f t #[.slice (some ⟨g, 0, none⟩) (n + 1) cap]) := o4.blk B3.out (by simpa using hfg)
      have R4 := hid r4
      have O4 := hid (O3.out.trans o4 (fun y hy => Or.inl hy))
      have mP := mPop (.pointer (some ⟨f, 0, none⟩)) w4
      clear r4 o4
      go_wp2_with fail
      refine (POP.out (remL xs i) w4 hl4 B4 R4).mono ?_
      rintro e w5 ⟨⟨x, rfl⟩, b5, r5, o5⟩
      go_wp2
      go_ret
      exact ⟨⟨_, rfl⟩, b5.out, r5.out, (O4.out.mono (by simp)).trans (o5.out.mono (by simp)) (fun y hy => Or.inl hy)⟩

end Go.Proofs.Ytbkaemajjaiklaa
