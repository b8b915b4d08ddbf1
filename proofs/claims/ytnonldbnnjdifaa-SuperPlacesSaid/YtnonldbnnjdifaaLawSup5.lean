/- The walk of SuperPlaces. -/
import Derived.Test.YtnonldbnnjdifaaLawSup3
namespace Go.Proofs.Ytnonldbnnjdifaa
open Go.RowKit
set_option linter.unusedVariables false

/-- is the root among the first k places? -/
def hasTo (r : Int) : Nat → Bool
  | 0 => false
  | k + 1 => hasTo r k || plc k == r

theorem plc_lt (k : Nat) (h : k < 320) : plc k < plc (k + 1) ∧ 0 ≤ plc k ∧ plc k ≤ 66560 := by unfold plc; omega

theorem hasTo_iff (r : Int) (k : Nat) : hasTo r k = true ↔ ∃ i, i < k ∧ plc i = r := by
  induction k with
  | zero => simp [hasTo]
  | succ k ih =>
    simp only [hasTo, Bool.or_eq_true, ih, beq_iff_eq]
    constructor
    · rintro (⟨i, h, e⟩ | e)
      · exact ⟨i, by omega, e⟩
      · exact ⟨k, by omega, e⟩
    · rintro ⟨i, h, e⟩
      by_cases hk : i = k
      · subst hk; exact Or.inr e
      · exact Or.inl ⟨i, by omega, e⟩

theorem hasTo_may (r : Int) (s : Nat) (hs : 1 ≤ s ∧ s ≤ 64) (hr : 0 ≤ r) : hasTo r (5 * s) = mayZ (1024 + 1024 * s) r (1024 + 1024 * s) := by
  have hsl : slabsZ (1024 + 1024 * (s : Int)) = s := by unfold slabsZ; rw [if_pos (by omega)]; omega
  cases hm : mayZ (1024 + 1024 * (s : Int)) r (1024 + 1024 * s) with
  | true =>
    rw [hasTo_iff]
    by_cases hx : ∃ i, i < 5 * s ∧ plc i = r
    · exact hx
    · exfalso
      have := may_miss (sz := 1024 + 1024 * (s : Int)) (n := 1024 + 1024 * (s : Int)) hr (r := r) (fun i h1 h2 j h3 h4 => by
        rw [hsl] at h2
        intro he
        apply hx
        obtain ⟨a, rfl⟩ := Int.eq_ofNat_of_zero_le (show 0 ≤ i by omega)
        obtain ⟨b, rfl⟩ := Int.eq_ofNat_of_zero_le h3
        rw [plc_block a b (by omega) (by omega)] at he
        exact ⟨5 * (a - 1) + b, by omega, he⟩)
      rw [this] at hm; exact absurd hm (by decide)
  | false =>
    cases hh : hasTo r (5 * s) with
    | false => rfl
    | true =>
      exfalso
      rw [hasTo_iff] at hh
      obtain ⟨i, hi, he⟩ := hh
      have hb := plc_block (1 + i / 5) (i % 5) (by omega) (by omega)
      rw [show 5 * (1 + i / 5 - 1) + i % 5 = i by omega, he] at hb
      have := may_hit (sz := 1024 + 1024 * (s : Int)) (n := 1024 + 1024 * (s : Int)) (i := ((1 + i / 5 : Nat) : Int)) (j := ((i % 5 : Nat) : Int)) (by rw [hsl]; omega) rfl hr (by rw [hsl]; omega) (by omega) hb
      rw [this] at hm; exact absurd hm (by decide)

theorem plc_rblock (k : Nat) (h : k < 320) : blockZ (1 + (k : Int) / 5) 3 ((k : Int) % 5) = plc k := by
  have hb := plc_block (1 + k / 5) (k % 5) (by omega) (by omega)
  rw [show 5 * (1 + k / 5 - 1) + k % 5 = k by omega] at hb
  rw [← hb]; congr 1

set_option maxHeartbeats 4000000 in
theorem SuperPlaces_in (s : Nat) (r : Int) (w : World) (a1 : 0 ≤ r) (a2 : r ≤ 18446744073709551615) (s1 : 1 ≤ s) (s2 : s ≤ 10) :
    Calls Try.prog 11 #[.int .i64 s, .int .u64 r] w fun e w' => e = .returned (.bool true) ∧ Below w.heap.size w w' := by
  have hcnt : cntZ s = 5 * s := by unfold cntZ; rw [if_pos (by omega)]; simp
  have hP := hid ((Places_z s w).mono (R' := fun e W' => ∃ g cap : Nat, e = .returned (.slice (some ⟨g, 0, none⟩) (5 * s) cap) ∧ 5 * s ≤ cap ∧ cap ≤ 9223372036854775807 ∧ Hid (∀ i, i < 5 * s → W'.cell? ⟨g, i, none⟩ = some (.int .u64 (plc i))) ∧ Below w.heap.size w W') (fun e W' ⟨v, he, hv, hb⟩ => by
    rw [hcnt] at hv
    rcases hv with ⟨h, _⟩ | ⟨_, g, cap, rfl, h5, hm, hc⟩
    · have := congrArg List.length h; rw [plcs_len] at this; simp at this; omega
    · rw [plcs_len] at he h5
      exact ⟨g, cap, he, h5, hm, fun i hi => hc i _ (by simp [plcs, hi]), hb⟩))
  have hmay := hid (hasTo_may r s (by omega) a1)
  clear hcnt
  go_enter Try.func11, Try.ntmps11
  go_wp2_with fail
  refine hP.out.mono ?_
  rintro e v1 ⟨g, cap, rfl, h5, hm, hc, hb⟩
  clear hP
  go_wp2_with fail
  go_loopw [6, 7] (fun h i wr => ∃ k : Nat, k ≤ 5 * s ∧ i = .int .i64 k ∧ h = .bool (hasTo r k) ∧ Below w.heap.size w wr ∧ Hid (∀ i, i < 5 * s → wr.cell? ⟨g, i, none⟩ = some (.int .u64 (plc i)))) (fun _ i _ => (5 * s - (intOf i).toNat))
  case atStart => exact ⟨0, by omega, rfl, rfl, hb, hc⟩
  case round =>
    clear hb hc
    obtain ⟨k, hk, rfl, rfl, hb, hc⟩ := hrel
    by_cases hlt : k < 5 * s
    · have c1 := hc.out k hlt
      have p1 := plc_rblock k (by omega)
      have p2 := (plc_lt k (by omega)).2
      obtain ⟨p3, p4⟩ := p2
      have w1 : IntKind.i64.wrap ((k : Int).tdiv 5) = (k : Int) / 5 := IntWalk.i64_quo _ _ (by omega)
      have w2 : IntKind.i64.wrap (1 + (k : Int) / 5) = 1 + (k : Int) / 5 := IntWalk.i64_in _ (by omega)
      have w3 : (k : Int).tmod 5 = (k : Int) % 5 := IntWalk.rem_in _ _ (by omega)
      have hcq : ∀ n : Nat, Hid (∀ i, i < 5 * s → (wr.drewN n).cell? ⟨g, i, none⟩ = some (.int .u64 (plc i))) := fun n i hi => hc.out i hi
      have Hcq := hid hcq
      clear hcq hc
      have i1 : (0 : Int) ≤ (k : Int) := by omega
      have i2 : (k : Int) < 5 * (s : Int) := by omega
      by_cases h0 : k = 0
      · have d0 : decide (0 < k) = false := decide_eq_false (by omega)
        clear h0
        go_wp2
        go_quiet ((go_at_call 26; exact Calls.quiet_of_same (RBlock_zq _ _ _ _)))
        go_wp2
        all_goals
          refine ⟨⟨k + 1, by omega, by go_num, ?_, below_drewN hb _, Hcq.out _⟩, by simp [intOf]; omega⟩
          simp [hasTo, *]
      · have d0 : decide (0 < k) = true := decide_eq_true (by omega)
        have c2 := Hcq.out 0 (k - 1) (by omega)
        simp only [World.drewN_zero] at c2
        have w4 : IntKind.i64.wrap ((k : Int) - 1) = (k : Int) - 1 := IntWalk.i64_in _ (by omega)
        have w5 : ((k : Int) - 1).toNat = k - 1 := by omega
        have i3 : (0 : Int) ≤ (k : Int) - 1 := by omega
        have i4 : (k : Int) - 1 < 5 * (s : Int) := by omega
        have q1 := plc_lt (k - 1) (by omega)
        rw [show k - 1 + 1 = k by omega] at q1
        have q2 : decide (plc k ≤ plc (k - 1)) = false := decide_eq_false (by omega)
        clear h0 q1
        go_wp2
        go_quiet ((go_at_call 26; exact Calls.quiet_of_same (RBlock_zq _ _ _ _)))
        go_wp2
        all_goals
          refine ⟨⟨k + 1, by omega, by go_num, ?_, below_drewN hb _, Hcq.out _⟩, by simp [intOf]; omega⟩
          simp [hasTo, *]
    · have hke : k = 5 * s := by omega
      have hmy := hmay.out
      rw [← hke] at hmy
      have HM := hid hmy
      clear hmay hmy hc
      have e1 : ((5 * (s : Int)) == 5 * (s : Int)) = true := by simp
      have ek := hid hke
      clear hke
      cases hmv : mayZ (1024 + 1024 * (s : Int)) r (1024 + 1024 * s)
      all_goals
        have hh := HM.out
        rw [hmv] at hh
        go_wp2_with fail
        refine (RMay_z _ _ _ _ (by omega) (by omega) a1 a2 (by omega) (by omega)).mono ?_
        rintro e v2 ⟨rfl, hb2⟩
        go_wp2_with fail
        refine (known04 _).mono ?_
        rintro e v3 ⟨rfl, hb3⟩
        go_wp2
        go_ret
        exact ⟨rfl, bx (bx hb hb2) hb3⟩

theorem SuperPlaces_walk (s r : Int) (w : World) (y1 : -9223372036854775808 ≤ s) (y2 : s ≤ 9223372036854775807) (a1 : 0 ≤ r) (a2 : r ≤ 18446744073709551615) :
    Calls Try.prog 11 #[.int .i64 s, .int .u64 r] w fun e w' => e = .returned (.bool true) ∧ Below w.heap.size w w' := by
  by_cases h1 : 1 ≤ s ∧ s ≤ 10
  · obtain ⟨n, rfl⟩ := Int.eq_ofNat_of_zero_le (show 0 ≤ s by omega)
    exact SuperPlaces_in n r w a1 a2 (by omega) (by omega)
  · clear y1 y2
    by_cases h2 : 10 < s ∧ s ≤ 64
    · obtain ⟨h3, h4⟩ := h2
      go_enter Try.func11, Try.ntmps11
      go_wp2_with fail
      refine (known04 _).mono ?_
      rintro e v1 ⟨rfl, hb1⟩
      go_wp2
      go_ret
      exact ⟨rfl, hb1⟩
    · have hcnt : cntZ s = 0 := by unfold cntZ; rw [if_neg (by omega)]
      have hP := hid ((Places_z s w).mono (R' := fun e W' => e = .returned (.slice none 0 0) ∧ Below w.heap.size w W') (fun e W' ⟨v, he, hv, hb⟩ => by
        rw [hcnt] at hv
        rcases hv with ⟨_, rfl⟩ | ⟨h, _⟩
        · exact ⟨he, hb⟩
        · exact absurd rfl h))
      have h3 : s < 1 ∨ 64 < s := by omega
      rcases h3 with h3 | h3
      all_goals
        go_enter Try.func11, Try.ntmps11
        go_wp2_with fail
        refine hP.out.mono ?_
        rintro e v1 ⟨rfl, hb1⟩
        go_wp2_with fail
        refine (known04 _).mono ?_
        rintro e v3 ⟨rfl, hb3⟩
        go_wp2
        go_ret
        exact ⟨rfl, bx hb1 hb3⟩

end Go.Proofs.Ytnonldbnnjdifaa
