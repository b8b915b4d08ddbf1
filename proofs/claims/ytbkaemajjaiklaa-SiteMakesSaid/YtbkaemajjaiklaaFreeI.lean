/- Free.Put, heap.Pop, Free.Take, NewFree. -/
import Derived.Test.YtbkaemajjaiklaaFreeH
import Derived.Test.YtbkaemajjaiklaaHeapP
namespace Go.Proofs.Ytbkaemajjaiklaa
open Go.RowKit
set_option linter.unusedVariables false
set_option linter.unusedSimpArgs false

set_option maxRecDepth 100000 in
set_option maxHeartbeats 1000000 in
theorem FPut_z (f : Nat) (v : Value) (xs : List Int) (a : Int) (hx : xs.length ≤ 100000) (h0 : a ≠ 0) (hm : a ∉ xs) (w : World) (h : FreeRow w f v xs) :
    Calls Try.prog 71 #[.pointer (some ⟨f, 0, none⟩), .int .u64 a] w fun e w' => e = .returned (.int .i64 0) ∧ ∃ v' xs', FreeRow w' f v' xs' ∧ xs' = upF (xs.length + 1) (xs ++ [a]) xs.length ∧ Only (f :: v.ownBlock.toList) w w' ∧ (v'.ownBlock = v.ownBlock ∨ ∃ g, v'.ownBlock = some g ∧ w.heap.size ≤ g) := by
  have hH := has_any f v xs a (by omega) w h
  rw [show decide (a ∈ xs) = false by simp [hm]] at hH
  have P : ∀ w2, Below w.heap.size w w2 → Calls Try.prog 102 #[.iface 145 (.pointer (some ⟨f, 0, none⟩)), .iface 47 (.int .u64 a)] w2 fun e w' => (∃ r, e = .returned r) ∧ ∃ v' xs', FreeRow w' f v' xs' ∧ xs' = upF (xs.length + 1) (xs ++ [a]) xs.length ∧ Only (f :: v.ownBlock.toList) w w' ∧ (v'.ownBlock = v.ownBlock ∨ ∃ g, v'.ownBlock = some g ∧ w.heap.size ≤ g) := by
    intro w2 hb
    refine (hPush_z f v xs a hx w2 (h.only (Only.of_below hb []) (by simp) (by simp))).mono ?_
    rintro e w3 ⟨h1, v', h2, h3, h4⟩
    refine ⟨h1, v', _, h2, rfl, ((Only.of_below hb _).trans h3 (fun y hy => Or.inl hy)), ?_⟩
    rcases h4 with h4 | ⟨g, h4, h5⟩
    · exact Or.inl h4
    · exact Or.inr ⟨g, h4, Nat.le_trans hb.size h5⟩
  have t0 : ((a : Int) == 0) = false := by simp [h0]
  have HH := hid hH
  have HP := hid P
  clear hH P h hm
  go_enter Try.func71, Try.ntmps71
  go_wp2_with fail
  refine HH.out.mono ?_
  rintro e w2 ⟨rfl, hb2⟩
  go_wp2_with fail
  refine (HP.out w2 hb2).mono ?_
  rintro e w3 ⟨⟨r, rfl⟩, h1⟩
  have H1 := hid h1
  clear h1
  go_wp2
  go_ret
  exact ⟨rfl, H1.out⟩

set_option maxRecDepth 100000 in
set_option maxHeartbeats 1000000 in
theorem hPop_z (f g cap n : Nat) (t : TypeId) (xs : List Int) (hn : xs.length = n + 1) (hx : n ≤ 100000) (hfg : f ≠ g) (w : World) (hb : Blk w f t #[.slice (some ⟨g, 0, none⟩) (n + 1) cap]) (h : AddrRow w g cap xs) :
    Calls Try.prog 88 #[.iface 145 (.pointer (some ⟨f, 0, none⟩))] w fun e w' => e = .returned (.iface 47 (.int .u64 (at0 xs 0))) ∧ Blk w' f t #[.slice (some ⟨g, 0, none⟩) n cap] ∧ AddrRow w' g cap (popL xs).dropLast ∧ Only [f, g] w w' := by
  have pop : ∀ (w2 : World), Hid (Blk w2 f t #[.slice (some ⟨g, 0, none⟩) (n + 1) cap]) → Hid (AddrRow w2 g cap (popL xs)) →
      Calls Try.prog 162 #[.pointer (some ⟨f, 0, none⟩)] w2 fun e w' => e = .returned (.iface 47 (.int .u64 (at0 xs 0))) ∧ Hid (Blk w' f t #[.slice (some ⟨g, 0, none⟩) n cap]) ∧ Hid (AddrRow w' g cap (popL xs).dropLast) ∧ Hid (Only [f] w2 w') := by
    intro w2 b2 r2
    have hz : (popL xs).length = n + 1 := by rw [popL_length, hn]
    have hl : (popL xs)[n]? = some (at0 xs 0) := by
      unfold popL
      rw [hn]
      by_cases hn0 : n = 0
      · subst hn0
        show (swapL xs 0 0)[0]? = _
        rw [swapL_last (by omega) (by omega)]
      · rw [downF_get _ _ _ _ _ (by omega) (by omega)]
        exact swapL_last (by omega) (by omega)
    obtain ⟨ys, x, hp, hy⟩ := split_last _ hz
    have hxx : x = at0 xs 0 := by
      rw [hp, List.getElem?_append_right (by omega), hy] at hl
      simpa using hl
    rw [hp] at r2 ⊢
    have := aPop_z f g cap t ys x hfg w2 (by rw [hy]; exact b2.out) r2.out (by omega)
    rw [hy] at this
    refine this.mono ?_
    rintro e w3 ⟨rfl, h1, h2, h3⟩
    exact ⟨by rw [hxx], h1, (by rw [List.dropLast_concat]; exact h2), h3⟩
  have y0 : w.cell? ⟨f, 0, none⟩ = some (.slice (some ⟨g, 0, none⟩) (n + 1) cap) := hb.cell 0
  have hfl := hb.lt
  have mL := mLen f _ (n + 1) cap w y0
  have POP := hid pop
  have HN := hid hn
  have HB := hid hb
  have H := hid h
  clear pop hn hb h
  have e1 : (((n + 1 : Nat) : Int)) = (n : Int) + 1 := by omega
  have e0 : ((n : Int) + 1) - 1 = (n : Int) := by omega
  go_enter Try.func88, Try.ntmps88
  go_wp2_with fail
  refine (aLen_z (some ⟨g, 0, none⟩) (n + 1) cap w).mono ?_
  rintro e w1 ⟨rfl, rfl⟩
  have mS := mSwap f _ (n + 1) cap w y0
  have hl0 : xs.length - 1 = n := by rw [HN.out]; rfl
  have hS := aSwap_z g cap xs 0 n (at0 xs 0) (at0 xs n) (at0_some (by rw [HN.out]; omega)) (at0_some (by rw [HN.out]; omega)) w H.out
  rw [HN.out] at hS
  have HS := hid hS
  clear hS
  go_wp2_with fail
  refine HS.out.mono ?_
  rintro e w2 ⟨⟨v, rfl⟩, r2, o2⟩
  have R2 : Hid (AddrRow w2 g cap (swapL xs 0 n)) := r2
  have hl2 : (swapL xs 0 n).length = n + 1 := by rw [swapL_length, HN.out]
  have B2 : Hid (Blk w2 f t #[.slice (some ⟨g, 0, none⟩) (n + 1) cap]) := o2.blk HB.out (by simpa using hfg)
  have yf2 : w2.cell? ⟨f, 0, none⟩ = some (.slice (some ⟨g, 0, none⟩) (n + 1) cap) := B2.out.cell 0
  have hfl2 := B2.out.lt
  have hD := down_z f g cap n (swapL xs 0 n) 0 (by omega) (by rw [hl2]; omega) (by rw [hl2]; omega) hfg w2 (by rw [hl2]; exact yf2) hfl2 R2.out
  have hpop : popL xs = (downF n (swapL xs 0 n) n 0).1 := by unfold popL; rw [hl0]
  rw [← hpop] at hD
  have HD := hid hD
  have O2 := hid o2
  clear hD r2 o2 mS y0 yf2 hpop
  go_wp2_with fail
  refine HD.out.mono ?_
  rintro e w3 ⟨rfl, r3, o3⟩
  have B3 : Hid (Blk w3 f t #[.slice (some ⟨g, 0, none⟩) (n + 1) cap]) := o3.blk B2.out (by simpa using hfg)
  have R3 := hid r3
  have O3 := hid (O2.out.trans o3 (fun y hy => Or.inl hy))
  have mP := mPop (.pointer (some ⟨f, 0, none⟩)) w3
  clear r3 o3
  go_wp2_with fail
  refine (POP.out w3 B3 R3).mono ?_
  rintro e w4 ⟨rfl, b4, r4, o4⟩
  go_wp2
  go_ret
  exact ⟨rfl, b4.out, r4.out, (O3.out.mono (by simp)).trans (o4.out.mono (by simp)) (fun y hy => Or.inl hy)⟩

set_option maxRecDepth 100000 in
set_option maxHeartbeats 1000000 in
theorem FTake_some (f : Nat) (v : Value) (xs : List Int) (hx : xs.length ≤ 100000) (h0 : xs ≠ []) (w : World) (h : FreeRow w f v xs) :
    Calls Try.prog 55 #[.pointer (some ⟨f, 0, none⟩)] w fun e w' => e = .returned (.tuple #[.int .u64 (at0 xs 0), .bool true]) ∧ ∃ v', FreeRow w' f v' (popL xs).dropLast ∧ Only (f :: v.ownBlock.toList) w w' ∧ v'.ownBlock = v.ownBlock := by
  obtain ⟨t, hb⟩ := h.blk
  obtain ⟨g, cap, hv, hA, hfg⟩ := h.some_ h0
  obtain ⟨n, hn⟩ : ∃ n, xs.length = n + 1 := ⟨xs.length - 1, by have := List.length_pos_iff.2 h0; omega⟩
  have hL := FLen_z f v xs w h
  have hlen : (popL xs).dropLast.length = n := by simp [popL_length, hn]
  rw [hn] at hv
  rw [hv] at hb
  have R : Calls Try.prog 88 #[.iface 145 (.pointer (some ⟨f, 0, none⟩))] w fun e w' => e = .returned (.iface 47 (.int .u64 (at0 xs 0))) ∧ FreeRow w' f (.slice (some ⟨g, 0, none⟩) n cap) (popL xs).dropLast ∧ Only (f :: v.ownBlock.toList) w w' := by
    refine (hPop_z f g cap n t xs hn (by omega) hfg w hb hA).mono ?_
    rintro e w3 ⟨h1, h2, h3, h4⟩
    refine ⟨h1, ⟨⟨t, h2⟩, ?_, ?_⟩, ?_⟩
    · have := h3.own
      rw [hlen] at this ⊢; exact this
    · intro e; exact hfg (by simpa using (Option.some.inj e).symm)
    · rw [hv]; exact h4.mono (fun y hy => hy)
  have hta : ∀ w', (Instr.typeAssert (.iface 47 (.int .u64 (at0 xs 0))) 20 47 false).run Try.prog w' = Result.ok (.int .u64 (at0 xs 0)) w' := fun w' => by simp [Instr.typeAssert, run_underlying Try.underlying47]
  have t0 : ((((xs.length : Nat) : Int)) == 0) = false := by simp; omega
  have HR := hid R
  have HL := hid hL
  have HV := hid hv
  clear hb hA hv R h hL hn h0
  go_enter Try.func55, Try.ntmps55
  go_wp2_with fail
  refine HL.out.mono ?_
  rintro e w2 ⟨rfl, rfl⟩
  go_wp2_with fail
  refine HR.out.mono ?_
  rintro e w3 ⟨rfl, h1, h2⟩
  have H1 := hid h1
  have H2 := hid h2
  clear h1 h2
  go_wp2
  go_ret2
  exact ⟨rfl, _, H1.out, H2.out, by rw [HV.out]; rfl⟩

set_option maxRecDepth 100000 in
set_option maxHeartbeats 1000000 in
theorem FTake_none (f : Nat) (v : Value) (w : World) (h : FreeRow w f v []) :
    Calls Try.prog 55 #[.pointer (some ⟨f, 0, none⟩)] w fun e w' => e = .returned (.tuple #[.int .u64 0, .bool false]) ∧ w = w' := by
  have hL := FLen_z f v [] w h
  have HL := hid hL
  clear hL h
  have t0 : ((((([] : List Int).length : Nat) : Int)) == 0) = true := by simp
  go_enter Try.func55, Try.ntmps55
  go_wp2_with fail
  refine HL.out.mono ?_
  rintro e w2 ⟨rfl, rfl⟩
  go_wp2
  go_ret2
  exact ⟨rfl, rfl⟩

end Go.Proofs.Ytbkaemajjaiklaa
