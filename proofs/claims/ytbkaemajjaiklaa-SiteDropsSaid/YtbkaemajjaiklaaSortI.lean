/- A row of addresses sorted: pdqsort, Sort. -/
import Derived.Deep.Cut
import Derived.Test.YtbkaemajjaiklaaSortH
namespace Go.Proofs.Ytbkaemajjaiklaa
open Go.RowKit
open Go.Sort (swp ltInt PermIn SortedIn permIn_refl permIn_trans swp_permIn permIn_mono swo_ltInt insertionSort insertionSort_holds heapSort heapSort_holds reverseRange reverseRange_holds partialInsertionSort partialInsertionSort_holds partition partition_holds partitionEqual partitionEqual_holds round_eq round_part)
set_option linter.unusedVariables false
set_option linter.unusedSimpArgs false

/-- sorted so far: what is left is [a, b) of dk -/
structure PS (w0 : World) (g n : Nat) (tl : List Value) (d0 : Array Int) (a0 b0 a b : Nat) (dk : Array Int) (wr : World) : Prop where
  row : RowS wr g n dk tl
  only : Only [g] w0 wr
  bel : Go.Sort.Below ltInt a b dk
  rng : a ≤ b ∧ b ≤ n
  fin : ∀ R, PermIn a b dk R → SortedIn ltInt a b R → PermIn a0 b0 d0 R ∧ SortedIn ltInt a0 b0 R
section
variable {w0 wr wr' : World} {g n : Nat} {tl : List Value} {d0 dk dk' : Array Int} {a0 b0 a b : Nat}
theorem PS.bd (h : PS w0 g n tl d0 a0 b0 a b dk wr) : b ≤ dk.size := by rw [h.row.size]; exact h.rng.2
theorem PS.perm (h : PS w0 g n tl d0 a0 b0 a b dk wr) (hr : RowS wr' g n dk' tl) (ho : Only [g] wr wr') (hp : PermIn a b dk dk') : PS w0 g n tl d0 a0 b0 a b dk' wr' :=
  ⟨hr, h.only.trans ho (fun x hx => Or.inl hx), h.bel.perm h.bd hp, h.rng, fun R h1 h2 => h.fin R (permIn_trans _ _ _ a b hp h1) h2⟩
theorem PS.same (h : PS w0 g n tl d0 a0 b0 a b dk wr) (ho : Only [] wr wr') : PS w0 g n tl d0 a0 b0 a b dk wr' :=
  ⟨h.row.only ho (by simp), h.only.trans ho (fun x hx => by simp at hx), h.bel, h.rng, h.fin⟩
theorem PS.done (h : PS w0 g n tl d0 a0 b0 a b dk wr) (hr : RowS wr' g n dk' tl) (ho : Only [g] wr wr') (hp : PermIn a b dk dk') (hs : SortedIn ltInt a b dk') :
    (∃ d', RowS wr' g n d' tl ∧ PermIn a0 b0 d0 d' ∧ SortedIn ltInt a0 b0 d') ∧ Only [g] w0 wr' :=
  ⟨⟨dk', hr, h.fin dk' hp hs⟩, h.only.trans ho (fun x hx => Or.inl hx)⟩
theorem PS.eqs (h : PS w0 g n tl d0 a0 b0 a b dk wr) {p mid : Nat} {d4 : Array Int} (h0 : 0 < a) (h1 : a ≤ p) (h2 : p < b) (hn : ltInt dk[a - 1]! dk[p]! = false) (hx : partitionEqual ltInt dk a b p = (mid, d4))
    (hr : RowS wr' g n d4 tl) (ho : Only [g] wr wr') : a < mid ∧ mid ≤ b ∧ PS w0 g n tl d0 a0 b0 mid b d4 wr' := by
  obtain ⟨r1, r2, r3, r4, r5⟩ := round_eq swo_ltInt (partitionEqual_holds ltInt) h0 h1 h2 h.bd h.bel hn hx
  exact ⟨r1, r2, hr, h.only.trans ho (fun x hx => Or.inl hx), r4, ⟨r2, h.rng.2⟩, fun R q1 q2 => by obtain ⟨q3, q4⟩ := r5 R q1 q2; exact h.fin R q3 q4⟩
end

theorem PS.left {w0 wr wr' : World} {g n : Nat} {tl : List Value} {d0 dk d4 : Array Int} {a0 b0 a b p mid : Nat} {ap : Bool} (h : PS w0 g n tl d0 a0 b0 a b dk wr) (h1 : a ≤ p) (h2 : p < b) (hx : partition ltInt dk a b p = (mid, ap, d4)) (hr : RowS wr' g n d4 tl) (ho : Only [g] wr wr') :
    a ≤ mid ∧ mid < b ∧ Go.Sort.Below ltInt a mid d4 ∧ Go.Sort.Below ltInt (mid + 1) b d4 ∧
    (∀ L w2, PermIn a mid d4 L → SortedIn ltInt a mid L → RowS w2 g n L tl → Only [g] wr' w2 → PS w0 g n tl d0 a0 b0 (mid + 1) b L w2) ∧
    (∀ L w2, PermIn (mid + 1) b d4 L → SortedIn ltInt (mid + 1) b L → RowS w2 g n L tl → Only [g] wr' w2 → PS w0 g n tl d0 a0 b0 a mid L w2) := by
  obtain ⟨r1, r2, r3, r4, r5, r6, r7⟩ := round_part swo_ltInt (partition_holds ltInt) h1 h2 h.bd h.bel hx
  have hO := h.only.trans ho (fun x hx => Or.inl hx)
  have hb := h.rng.2
  refine ⟨r1, r2, r4, r5, fun L w2 q1 q2 q3 q4 => ?_, fun L w2 q1 q2 q3 q4 => ?_⟩
  · obtain ⟨s1, s2⟩ := r6 L q1 q2
    exact ⟨q3, hO.trans q4 (fun x hx => Or.inl hx), s1, ⟨by omega, hb⟩, fun R t1 t2 => by obtain ⟨t3, t4⟩ := s2 R t1 t2; exact h.fin R t3 t4⟩
  · obtain ⟨s1, s2⟩ := r7 L q1 q2
    exact ⟨q3, hO.trans q4 (fun x hx => Or.inl hx), s1, ⟨by omega, by omega⟩, fun R t1 t2 => by obtain ⟨t3, t4⟩ := s2 R t1 t2; exact h.fin R t3 t4⟩

set_option maxHeartbeats 6400000 in
set_option maxRecDepth 1000000 in
theorem pdq_s : ∀ (N g n cap : Nat) (tl : List Value) (a b limit : Nat) (d : Array Int) (w : World), b - a < N → RowS w g n d tl → a ≤ b → b ≤ n → n ≤ 1000000000 → limit ≤ 1000000000 → Go.Sort.Below ltInt a b d →
    Calls Try.prog 92 #[.slice (some ⟨g, 0, none⟩) n cap, .int .i64 (a : Int), .int .i64 (b : Int), .int .i64 (limit : Int)] w fun e w' =>
      (∃ r, e = .returned r) ∧ (∃ d', RowS w' g n d' tl ∧ PermIn a b d d' ∧ SortedIn ltInt a b d') ∧ Only [g] w w' := by
  intro N
  induction N with
  | zero => intro _ _ _ _ _ _ _ _ _ h; exact absurd h (Nat.not_lt_zero _)
  | succ N ih =>
    intro g n cap tl a b limit d w hN hrow hab hb hn hlim hbel
    have P0 := hid (show PS w g n tl d a b a b d w from ⟨hrow, Only.refl _ _, hbel, ⟨hab, hb⟩, fun R h1 h2 => ⟨h1, h2⟩⟩)
    have HNN := hid hn
    have HLIM := hid hlim
    have HND := hid hN
    have IH := hid ih
    clear hrow hab hb hn hlim hbel hN ih
    go_enter Try.func92, Try.ntmps92
    go_wp2
    go_loopg [1, 2, 3, 8, 9] (b - a) (fun k s1 s2 s3 s8 s9 wr => ∃ (a' b' lim : Nat) (wb wp : Bool) (dk : Array Int), s1 = .int .i64 (a' : Int) ∧ s2 = .int .i64 (b' : Int) ∧ s3 = .int .i64 (lim : Int) ∧ s8 = .bool wb ∧ s9 = .bool wp ∧
      Hid (b' - a' ≤ k ∧ k ≤ b - a ∧ lim ≤ limit) ∧ Hid (PS w g n tl d a b a' b' dk wr))
    case atStart => exact ⟨a, b, limit, true, true, d, rfl, rfl, rfl, rfl, rfl, ⟨Nat.le_refl _, Nat.le_refl _, Nat.le_refl _⟩, P0⟩
    case round =>
      obtain ⟨a', b', lim, wb, wp, dk, rfl, rfl, rfl, rfl, rfl, hk, hP⟩ := hrel
      obtain ⟨L, hL⟩ : ∃ L, L = b' - a' := ⟨_, rfl⟩
      have R9 : b' ≤ 1000000000 ∧ a' ≤ b' ∧ lim ≤ 1000000000 := by have := hP.out.rng; have := HNN.out; have := HLIM.out; have := hk.out; omega
      have e1 : (b' : Int) - (a' : Int) = (L : Int) := by omega
      have w1 := wrapN (q := L) (by omega)
      have a0 : (0 : Int) ≤ (a' : Int) := by omega
      have a9 : (a' : Int) ≤ 1000000000 := by omega
      have b9 : (b' : Int) ≤ 1000000000 := by omega
      have HR9 := hid R9
      have HL := hid hL
      by_cases h12 : L ≤ 12
      · have h12z : (L : Int) ≤ 12 := by omega
        have hc := hid (insertion_s g n cap dk tl a' b' (by omega) hP.out.rng.2 HNN.out wr hP.out.row)
        clear R9 h12 hL
        go_wp2_with fail
        refine hc.out.mono ?_
        rintro e w1 ⟨⟨r, rfl⟩, hw1, ho1⟩
        have hi := insertionSort_holds (lt := ltInt) swo_ltInt dk a' b' (by have := HR9.out; omega) hP.out.bd
        have hd := hid (hP.out.done hw1 ho1 hi.1 hi.2)
        clear hw1 ho1 hi hc
        go_wp2
        (try simp only [Exit.inBlock, Exit.then]); refine bodyPost_ret (results_none rfl _ _ _) rfl ?_
        exact ⟨⟨_, rfl⟩, hd.out⟩
      · have h12z : ¬ ((L : Int) ≤ 12) := by omega
        by_cases hl0 : lim = 0
        · subst hl0
          have hc := hid (heapSort_s g n cap dk tl a' b' (by omega) hP.out.rng.2 HNN.out wr hP.out.row)
          clear R9 h12 hL
          go_wp2_with fail
          refine hc.out.mono ?_
          rintro e w1 ⟨⟨r, rfl⟩, hw1, ho1⟩
          have hi := heapSort_holds (lt := ltInt) swo_ltInt dk a' b' (by have := HR9.out; omega) hP.out.bd
          have hd := hid (hP.out.done hw1 ho1 hi.1 hi.2)
          clear hw1 ho1 hi hc
          go_wp2
          (try simp only [Exit.inBlock, Exit.then]); refine bodyPost_ret (results_none rfl _ _ _) rfl ?_
          exact ⟨⟨_, rfl⟩, hd.out⟩
        · have hl0z : ((lim : Int) == 0) = false := by simp; omega
          have hl0y : ¬ ((lim : Int) = 0) := by omega
          have wl := wrapN (q := lim - 1) (by omega)
          have el : (lim : Int) - 1 = ((lim - 1 : Nat) : Int) := by omega
          have H12 := hid h12
          clear R9 h12 hL hl0
          go_upto_if 35 with fail
          go_cut [3] from 19 (fun s3 wc => ∃ (lim2 : Nat) (d2 : Array Int), s3 = .int .i64 (lim2 : Int) ∧ Hid (lim2 ≤ lim) ∧ Hid (PS w g n tl d a b a' b' d2 wc))
          case first =>
            cases wb
            · have hc := hid (break_s g n cap dk tl a' b' (by have := HR9.out; omega) hP.out.rng.2 HNN.out wr hP.out.row)
              go_wp2_with fail
              refine hc.out.mono ?_
              rintro e w1 ⟨⟨r, rfl⟩, ⟨d2, hw1, hp1⟩, ho1⟩
              have hd := hid (hP.out.perm hw1 ho1 hp1)
              clear hw1 ho1 hp1 hc
              go_wp2
              go_meet
              case rel => exact ⟨lim - 1, d2, by go_num, (by omega : lim - 1 ≤ lim), hd⟩
            · go_wp2_with fail
              go_meet
              case rel => exact ⟨lim, dk, rfl, Nat.le_refl _, hP⟩
          case rest =>
            obtain ⟨lim2, d2, rfl, hl2, hP2⟩ := hcut
            clear wl el
            have hc17 := hid (pivot_s g n cap d2 tl a' b' (by have := HL.out; have := H12.out; omega) hP2.out.rng.2 HNN.out wc hP2.out.row)
            go_wp2_with fail
            refine hc17.out.mono ?_
            rintro e w2 ⟨⟨p, hint, hp, hh, rfl⟩, hb2⟩
            go_upto_if 50 with fail
            have hP3 := hid (hP2.out.same (Only.of_below hb2 []))
            have HP := hid hp
            have HH := hid hh
            clear hp hb2 hc17
            go_cut [11, 12] from 19 (fun s11 s12 wc => ∃ (p : Nat) (hint : Int) (d3 : Array Int), s11 = .int .i64 (p : Int) ∧ s12 = .int .i64 hint ∧ Hid (a' ≤ p ∧ p < b') ∧ Hid (PS w g n tl d a b a' b' d3 wc))
            case first =>
              by_cases h2 : hint = 2
              · have hc := hid (reverse_s g n cap d2 tl a' b' (by have := HR9.out; omega) hP2.out.rng.2 HNN.out w2 hP3.out.row)
                have t2 : (hint == 2) = true := by simp [h2]
                obtain ⟨q, hq⟩ : ∃ q, q = (b' - 1) - (p - a') := ⟨_, rfl⟩
                have eq1 : (b' : Int) - 1 - ((p : Int) - (a' : Int)) = (q : Int) := by have := HP.out; omega
                have wq := wrapN (q := q) (by have := HR9.out; omega)
                have wq1 := wrapN (q := b' - 1) (by have := HR9.out; omega)
                have wq2 := wrapN (q := p - a') (by have := HR9.out; have := HP.out; omega)
                have eq2 : (b' : Int) - 1 = ((b' - 1 : Nat) : Int) := by have := HP.out; omega
                have eq3 : (p : Int) - (a' : Int) = ((p - a' : Nat) : Int) := by have := HP.out; omega
                have eq4 : ((b' - 1 : Nat) : Int) - ((p - a' : Nat) : Int) = (q : Int) := by have := HP.out; omega
                have HQ := hid hq
                have HH2 := hid h2
                clear hq h2 eq1
                go_wp2_with fail
                refine hc.out.mono ?_
                rintro e w3 ⟨⟨r, rfl⟩, hw3, ho3⟩
                have hd := hid (hP3.out.perm hw3 ho3 (reverseRange_holds d2 a' b' (by have := HR9.out; omega) hP3.out.bd))
                clear hw3 ho3 hc
                go_wp2
                go_meet
                case rel => exact ⟨q, 1, _, rfl, rfl, (by have := HQ.out; have := HP.out; omega : a' ≤ q ∧ q < b'), hd⟩
              · have t2 : (hint == 2) = false := by simp [h2]
                clear h2
                go_wp2_with fail
                go_meet
                case rel => exact ⟨p, hint, d2, rfl, rfl, HP, hP3⟩
            case rest =>
              obtain ⟨p, hint, d3, rfl, rfl, hp, hP4⟩ := hcut
              go_upto_region 15 with fail
              go_cut [68] from 19 (fun s68 wx => ∃ t : Bool, s68 = .bool t ∧ wx = wc)
              case first =>
                by_cases h1 : hint = 1
                · have t1 : (hint == 1) = true := by simp [h1]
                  clear h1
                  cases wb <;> cases wp <;>
                    (go_wp2_with fail
                     go_meet
                     exact ⟨_, rfl, rfl⟩)
                · have t1 : (hint == 1) = false := by simp [h1]
                  clear h1
                  cases wb <;> cases wp <;>
                    (go_wp2_with fail
                     go_meet
                     exact ⟨_, rfl, rfl⟩)
              case rest =>
                obtain ⟨t, rfl, rfl⟩ := hcut
                go_upto_if 68 with fail
                go_cut [] from 19 (fun wx => ∃ d4 : Array Int, Hid (PS w g n tl d a b a' b' d4 wx))
                case first =>
                  cases t
                  · go_wp2_with fail
                    go_meet
                    case rel => exact ⟨d3, hP4⟩
                  · have hc := hid (partial_s g n cap d3 tl a' b' (by have := HL.out; have := H12.out; omega) hP4.out.rng.2 HNN.out _ hP4.out.row)
                    have hps := hid (partialInsertionSort_holds (lt := ltInt) swo_ltInt d3 a' b' (by have := HL.out; have := H12.out; omega) hP4.out.bd hP4.out.bel)
                    obtain ⟨rr, hrr⟩ : ∃ rr, rr = partialInsertionSort ltInt d3 a' b' := ⟨_, rfl⟩
                    rw [← hrr] at hc hps
                    clear hrr
                    obtain ⟨d4, r⟩ := rr
                    go_wp2_with fail
                    refine hc.out.mono ?_
                    rintro e w4 ⟨rfl, hw4, ho4⟩
                    have HW4 := hid hw4
                    have HO4 := hid ho4
                    clear hc hw4 ho4
                    cases r
                    · go_wp2
                      go_meet
                      exact ⟨d4, hP4.out.perm HW4.out HO4.out hps.out.1⟩
                    · have hd := hid (hP4.out.done HW4.out HO4.out hps.out.1 (hps.out.2 rfl))
                      go_wp2
                      (try simp only [Exit.inBlock, Exit.then]); refine bodyPost_ret (results_none rfl _ _ _) rfl ?_
                      exact ⟨⟨_, rfl⟩, hd.out⟩
                case rest =>
                  obtain ⟨d4, hP5⟩ := hcut
                  obtain ⟨xp, hxp⟩ : ∃ x, x = d4[p]! := ⟨_, rfl⟩
                  obtain ⟨q, hq⟩ : ∃ q, q = a' - 1 := ⟨_, rfl⟩
                  obtain ⟨xq, hxq⟩ : ∃ x, x = d4[q]! := ⟨_, rfl⟩
                  have HXP := hid hxp
                  have HXQ := hid hxq
                  go_upto_region 17 with fail
                  go_cut [87] from 19 (fun s87 wx => ∃ t : Bool, s87 = .bool t ∧ Hid (t = true → 0 < a' ∧ ltInt d4[a' - 1]! d4[p]! = false) ∧ Hid (PS w g n tl d a b a' b' d4 wx))
                  case first =>
                    rcases Nat.eq_zero_or_pos a' with ha0 | ha0
                    · have ha0z : decide ((0 : Int) < (a' : Int)) = false := decide_eq_false (by omega)
                      have ha0y : decide (0 < a') = false := decide_eq_false (by omega)
                      clear hxp hxq hq ha0
                      go_wp2_with fail
                      go_quiet (first | (go_at_call 122; exact Calls.quiet_of_same (Less_s _ _ _)))
                      go_wp2_with fail
                      go_meet
                      case rel => exact ⟨false, rfl, (fun h => by cases h), hP5.out.same ((Only.refl _ _).drewN _)⟩
                    · have ha0z : decide ((0 : Int) < (a' : Int)) = true := decide_eq_true (by omega)
                      have ha0y : decide (0 < a') = true := decide_eq_true (by omega)
                      have ha0x : (0 : Int) < (a' : Int) := by omega
                      have eq1 : (a' : Int) - 1 = (q : Int) := by omega
                      have wq := wrapN (q := q) (by omega)
                      have qn : (q : Int) < (n : Int) := by have := hP5.out.rng; omega
                      have q0 : (0 : Int) ≤ (q : Int) := by omega
                      have pn : (p : Int) < (n : Int) := by have := hP5.out.rng; have := hp.out; omega
                      have p0 : (0 : Int) ≤ (p : Int) := by omega
                      have cq : wc.cell? ⟨g, q, none⟩ = some (.int .u64 xq) := by rw [hxq]; exact hP5.out.row.cell (by omega)
                      have cp : wc.cell? ⟨g, p, none⟩ = some (.int .u64 xp) := by rw [hxp]; exact hP5.out.row.cell (by omega)
                      have HQ := hid hq
                      have HA0 := hid ha0
                      clear hxp hxq hq ha0
                      go_wp2_with fail
                      go_quiet (first | (go_at_call 122; exact Calls.quiet_of_same (Less_s _ _ _)))
                      go_wp2_with fail
                      go_meet
                      case rel => exact ⟨_, rfl, (fun h => ⟨HA0.out, by rw [← HQ.out, ← HXQ.out, ← HXP.out]; simpa using h⟩), hP5.out.same ((Only.refl _ _).drewN _)⟩
                  case rest =>
                    obtain ⟨t, rfl, ht, hP6⟩ := hcut
                    clear hxp hxq hq
                    replace ht : t = true → Hid (0 < a' ∧ ltInt d4[a' - 1]! d4[p]! = false) := ht.out
                    cases t
                    · obtain ⟨mid, ap, d5, hx⟩ : ∃ mid ap d5, partition ltInt d4 a' b' p = (mid, ap, d5) := ⟨_, _, _, rfl⟩
                      have hc := part_s g n cap d4 tl a' b' p hp.out.1 hp.out.2 hP6.out.rng.2 HNN.out _ hP6.out.row
                      rw [hx] at hc
                      have HC := hid hc
                      have HX := hid hx
                      clear hc hx
                      go_wp2_with fail
                      refine HC.out.mono ?_
                      rintro e w7 ⟨rfl, hw7, ho7⟩
                      obtain ⟨m1, m2, m3, m4, mL, mR⟩ := hP6.out.left hp.out.1 hp.out.2 HX.out hw7 ho7
                      have HW7 := hid hw7
                      have HO7 := hid ho7
                      have HM := hid (show a' ≤ mid ∧ mid < b' from ⟨m1, m2⟩)
                      have ML := hid mL
                      have MR := hid mR
                      have M3 := hid m3
                      have M4 := hid m4
                      obtain ⟨ll, hll⟩ : ∃ ll, ll = mid - a' := ⟨_, rfl⟩
                      obtain ⟨lr, hlr⟩ : ∃ lr, lr = b' - mid := ⟨_, rfl⟩
                      obtain ⟨th, hth⟩ : ∃ th, th = L / 8 := ⟨_, rfl⟩
                      have v1 : (mid : Int) - (a' : Int) = (ll : Int) := by omega
                      have v2 : (b' : Int) - (mid : Int) = (lr : Int) := by omega
                      have v3 : ((L : Int)).tdiv 8 = (th : Int) := by rw [Int.tdiv_eq_ediv_of_nonneg (by omega)]; omega
                      have z1 := wrapN (q := ll) (by have := HR9.out; omega)
                      have z2 := wrapN (q := lr) (by have := HR9.out; omega)
                      have z3 := wrapN (q := th) (by have := HR9.out; have := HL.out; omega)
                      obtain ⟨mm, hmm⟩ : ∃ mm, mm = mid + 1 := ⟨_, rfl⟩
                      have z4 := wrapN (q := mm) (by have := HR9.out; have := HM.out; omega)
                      have e4 : (mid : Int) + 1 = (mm : Int) := by omega
                      have HMM := hid hmm
                      have HLL := hid hll
                      have HLR := hid hlr
                      clear hw7 ho7 m1 m2 m3 m4 mL mR hll hlr hth HC hmm
                      by_cases h4 : ll < lr
                      · have h4z : (ll : Int) < (lr : Int) := by omega
                        have hih := hid (IH.out g n cap tl a' mid lim2 d5 w7 (by have := HM.out; have := HND.out; have := hk.out; omega) HW7.out HM.out.1 (by have := HM.out; have := hP6.out.rng; omega) HNN.out (by have := hl2.out; have := HR9.out; omega) M3.out)
                        clear h4
                        go_wp2_with fail
                        refine hih.out.mono ?_
                        rintro e w8 ⟨⟨r8, rfl⟩, ⟨d6, hw8, hp8, hs8⟩, ho8⟩
                        have M8 := hid (ML.out d6 w8 hp8 hs8 hw8 ho8)
                        clear hih hw8 hp8 hs8 ho8
                        go_wp2
                        go_roundg (b' - (mid + 1))
                        case measure => have := HM.out; have := hk.out; omega
                        case rel => exact ⟨mm, b', lim2, _, ap, d6, rfl, rfl, rfl, rfl, rfl, ⟨by have := HMM.out; omega, by have := HM.out; have := hk.out; omega, Nat.le_trans hl2.out hk.out.2.2⟩, by rw [HMM.out]; exact M8⟩
                      · have h4z : ¬ (ll : Int) < (lr : Int) := by omega
                        have hih := hid (IH.out g n cap tl mm b' lim2 d5 w7 (by have := HM.out; have := HMM.out; have := HND.out; have := hk.out; omega) HW7.out (by have := HM.out; have := HMM.out; omega) hP6.out.rng.2 HNN.out (by have := hl2.out; have := HR9.out; omega) (by rw [HMM.out]; exact M4.out))
                        clear h4
                        go_wp2_with fail
                        refine hih.out.mono ?_
                        rintro e w8 ⟨⟨r8, rfl⟩, ⟨d6, hw8, hp8, hs8⟩, ho8⟩
                        rw [HMM.out] at hp8 hs8
                        have M8 := hid (MR.out d6 w8 hp8 hs8 hw8 ho8)
                        clear hih hw8 hp8 hs8 ho8
                        go_wp2
                        go_roundg (mid - a')
                        case measure => have := HM.out; have := hk.out; omega
                        case rel => exact ⟨a', mid, lim2, _, ap, d6, rfl, rfl, rfl, rfl, rfl, ⟨Nat.le_refl _, by have := HM.out; have := hk.out; omega, Nat.le_trans hl2.out hk.out.2.2⟩, M8⟩
                    · have HT := ht rfl
                      clear ht
                      obtain ⟨mid, d5, hx⟩ : ∃ mid d5, partitionEqual ltInt d4 a' b' p = (mid, d5) := ⟨_, _, rfl⟩
                      have hc := partEq_s g n cap d4 tl a' b' p hp.out.1 hp.out.2 hP6.out.rng.2 HNN.out _ hP6.out.row
                      rw [hx] at hc
                      have HC := hid hc
                      have HX := hid hx
                      clear hc hx
                      go_wp2_with fail
                      refine HC.out.mono ?_
                      rintro e w7 ⟨rfl, hw7, ho7⟩
                      obtain ⟨m1, m2, m3⟩ := hP6.out.eqs HT.out.1 hp.out.1 hp.out.2 HT.out.2 HX.out hw7 ho7
                      have HM := hid (show a' < mid ∧ mid ≤ b' from ⟨m1, m2⟩)
                      have M3 := hid m3
                      clear hw7 ho7 m1 m2 m3 HC
                      go_wp2
                      go_roundg (b' - mid)
                      case measure => have := HM.out; have := hk.out; omega
                      case rel => exact ⟨mid, b', lim2, wb, wp, d5, rfl, rfl, rfl, rfl, rfl, ⟨Nat.le_refl _, by have := HM.out; have := hk.out; omega, Nat.le_trans hl2.out hk.out.2.2⟩, M3⟩

set_option maxHeartbeats 2000000 in
set_option maxRecDepth 100000 in
/-- a row sorted, whatever its length -/
theorem Sort_s (g n cap : Nat) (tl : List Value) (d : Array Int) (w : World) (h : RowS w g n d tl) (hn : n ≤ 1000000000) :
    Calls Try.prog 62 #[.slice (some ⟨g, 0, none⟩) n cap] w fun e w' =>
      (∃ r, e = .returned r) ∧ (∃ d', RowS w' g n d' tl ∧ PermIn 0 n d d' ∧ SortedIn ltInt 0 n d') ∧ Only [g] w w' := by
  have hL := hid (Len_s (n : Int) w (by omega) (by omega))
  have hLb : Lib.bitLen (n : Int).toNat ≤ 1000000000 := by
    rw [Int.toNat_natCast, bitLen_z n (by omega)]
    have := (Go.Sort.bitsLen_le_iff n 62).2 (by omega)
    omega
  obtain ⟨lb, hlb⟩ : ∃ lb, lb = Lib.bitLen (n : Int).toNat := ⟨_, rfl⟩
  rw [← hlb] at hL hLb
  have hP := hid (pdq_s (n + 1) g n cap tl 0 n lb d w (by omega) h (Nat.zero_le _) (Nat.le_refl _) hn hLb (Or.inl rfl))
  have n0 : (0 : Int) ≤ (n : Int) := by omega
  have n9 : (n : Int) ≤ 1000000000 := by omega
  clear hlb h hn hLb
  go_enter Try.func62, Try.ntmps62
  go_wp2_with fail
  refine hL.out.mono ?_
  rintro e w1 ⟨rfl, rfl⟩
  go_wp2_with fail
  refine hP.out.mono ?_
  rintro e w2 ⟨⟨r, rfl⟩, h2⟩
  have H2 := hid h2
  clear h2
  go_wp2
  go_end0
  exact ⟨⟨_, rfl⟩, H2.out⟩
set_option maxHeartbeats 2000000 in
set_option maxRecDepth 100000 in
theorem insert_none (w : World) : Calls Try.prog 116 #[.slice none 0 0, .int .i64 0, .int .i64 0] w fun e w' => (∃ r, e = .returned r) ∧ w = w' := by
  go_enter Try.func116, Try.ntmps116
  go_wp2
  go_loopw [6] (fun v wr => v = .int .i64 1 ∧ w = wr) (fun _ _ => 0)
  case atStart => exact ⟨rfl, rfl⟩
  case round =>
    obtain ⟨rfl, rfl⟩ := hrel
    go_wp2
    go_end0
    exact ⟨⟨_, rfl⟩, rfl⟩
set_option maxHeartbeats 2000000 in
set_option maxRecDepth 100000 in
theorem pdq_none (w : World) (k : Int) : Calls Try.prog 92 #[.slice none 0 0, .int .i64 0, .int .i64 0, .int .i64 k] w fun e w' => (∃ r, e = .returned r) ∧ w = w' := by
  go_enter Try.func92, Try.ntmps92
  go_wp2
  go_loopg [1, 2, 3, 8, 9] 0 (fun n s1 s2 s3 s8 s9 wr => s1 = .int .i64 0 ∧ s2 = .int .i64 0 ∧ s3 = .int .i64 k ∧ s8 = .bool true ∧ s9 = .bool true ∧ w = wr)
  case atStart => exact ⟨rfl, rfl, rfl, rfl, rfl, rfl⟩
  case round =>
    obtain ⟨rfl, rfl, rfl, rfl, rfl, rfl⟩ := hrel
    go_wp2_with fail
    refine (insert_none w).mono ?_
    rintro e w1 ⟨⟨r, rfl⟩, rfl⟩
    go_wp2
    (try simp only [Exit.inBlock, Exit.then]); refine bodyPost_ret (results_none rfl _ _ _) rfl ?_
    exact ⟨⟨_, rfl⟩, rfl⟩
set_option maxHeartbeats 2000000 in
set_option maxRecDepth 100000 in
theorem Sort_none (w : World) : Calls Try.prog 62 #[.slice none 0 0] w fun e w' => (∃ r, e = .returned r) ∧ w = w' := by
  have hL := hid (Len_s 0 w (by omega) (by omega))
  obtain ⟨lb, hlb⟩ : ∃ lb, lb = Lib.bitLen (0 : Int).toNat := ⟨_, rfl⟩
  rw [← hlb] at hL
  clear hlb
  go_enter Try.func62, Try.ntmps62
  go_wp2_with fail
  refine hL.out.mono ?_
  rintro e w1 ⟨rfl, rfl⟩
  go_wp2_with fail
  refine (pdq_none _ _).mono ?_
  rintro e w2 ⟨⟨r, rfl⟩, rfl⟩
  go_wp2
  go_end0
  exact ⟨⟨_, rfl⟩, rfl⟩

/-- sorted: there is but one such list -/
theorem sorted_list (d d' : Array Int) (n : Nat) (hn : d.size = n) (h1 : PermIn 0 n d d') (h2 : SortedIn ltInt 0 n d') : d'.toList.Perm d.toList ∧ d'.toList.Pairwise (· ≤ ·) := by
  subst hn
  obtain ⟨s1, s2, s3⟩ := h1
  have e1 : (d'.extract 0 d.size).toList = d'.toList := by rw [← s1]; simp
  have e2 : (d.extract 0 d.size).toList = d.toList := by simp
  rw [e1, e2] at s3
  refine ⟨s3, List.pairwise_iff_getElem.2 fun i j hi hj hij => ?_⟩
  simp only [Array.length_toList] at hi hj
  have h3 := h2 i j (Nat.zero_le _) hij (by omega)
  rw [getElem!_pos d' j hj, getElem!_pos d' i hi] at h3
  simp only [ltInt, decide_eq_false_iff_not] at h3
  simp only [Array.getElem_toList]
  omega
end Go.Proofs.Ytbkaemajjaiklaa
