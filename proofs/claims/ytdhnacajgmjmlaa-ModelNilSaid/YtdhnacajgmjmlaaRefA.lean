/- The document's answer of layer 22: SamePairs, Same, May, Find; the program's May. -/
import Derived.Test.YtdhnacajgmjmlaaMapD
namespace Go.Proofs.Ytdhnacajgmjmlaa
open Go.RowKit
set_option linter.unusedVariables false

set_option maxRecDepth 100000 in
set_option maxHeartbeats 1000000 in
theorem RSame_some (g n cap g2 cap2 : Nat) (ps qs : PairL) (w : World) (h : w.ownsRow 0 52 2 (.slice (some ⟨g, 0, none⟩) n cap) n (pc ps)) (h2 : w.ownsRow 0 52 2 (.slice (some ⟨g2, 0, none⟩) n cap2) n (pc qs)) (hl : ps.length = n) (hl2 : qs.length = n) (hn : n ≤ 1000000) :
    Calls Try.prog 26 #[.slice (some ⟨g, 0, none⟩) n cap, .slice (some ⟨g2, 0, none⟩) n cap2] w fun e w' => e = .returned (.bool (pairsEq ps qs)) ∧ Below w.heap.size w w' := by
  have HA := hid h
  have HB := hid h2
  clear h h2
  go_enter Try.func26, Try.ntmps26
  go_wp2_with fail
  go_loopw [5] (fun i wr => ∃ k : Nat, k ≤ n ∧ i = .int .i64 k ∧ (∃ q, wr = w.drewN q) ∧ Hid (∀ j (h1 : j < ps.length) (h2 : j < qs.length), j < k → pairEq ps[j] qs[j] = true)) (fun i _ => (n - (intOf i).toNat))
  case atStart => exact ⟨0, by omega, rfl, ⟨0, rfl⟩, fun j _ _ h => by omega⟩
  case round =>
    obtain ⟨k, hk, rfl, ⟨q, rfl⟩, hN⟩ := hrel
    by_cases hlt : k < n
    · obtain ⟨c1, c2⟩ := row_at HA.out hl k (by omega)
      obtain ⟨d1, d2⟩ := row_at HB.out hl2 k (by omega)
      have hkp : k < ps.length := by omega
      have hkq : k < qs.length := by omega
      have i1 : (0 : Int) ≤ (k : Int) := by omega
      have i2 : (k : Int) < (n : Int) := by omega
      cases he : pairEq ps[k] qs[k] with
      | true =>
        obtain ⟨e1, e2⟩ := pairEq_t he
        have hN' : Hid (∀ j (h1 : j < ps.length) (h2 : j < qs.length), j < k + 1 → pairEq ps[j] qs[j] = true) := fun j h1 h2 h3 => by
          by_cases hj : j = k
          · subst hj; exact he
          · exact hN.out j h1 h2 (by omega)
        clear hN he
        go_wp2
        go_region
        go_wp2
        go_roundw
        case rel => exact ⟨k + 1, by omega, by go_num, ⟨q + 1, rfl⟩, hN'⟩
        case measure => simp [intOf]; omega
      | false =>
        have hz := hid (pairsEq_not k hkp hkq he)
        rcases pairEq_f he with e1 | ⟨e1, e2⟩
        all_goals
          clear hN he
          go_wp2
          go_region
          go_wp2
          go_ret
          exact ⟨by rw [hz.out]; rfl, by (repeat (first | exact Below.refl _ _ | (refine ba ?_ _) | (refine Below.drew ?_) | (refine below_drewN ?_ _) | (refine Below.alloc ?_ (by first | omega | (simp; done) | (simp; omega)) _) | (refine Below.setCell ?_ (by first | omega | (simp; done) | (simp; omega)) _) | (refine bx ?_ (by assumption)) | (refine Below.trans ?_ (Below.mono (by assumption) (by first | omega | (simp; done) | (simp; omega))))))⟩
    · have hz := hid (pairsEq_all (ps := ps) (qs := qs) (by omega) fun j h1 h2 => hN.out j h1 h2 (by omega))
      clear hN
      go_wp2
      go_ret
      exact ⟨by rw [hz.out]; rfl, by (repeat (first | exact Below.refl _ _ | (refine ba ?_ _) | (refine Below.drew ?_) | (refine below_drewN ?_ _) | (refine Below.alloc ?_ (by first | omega | (simp; done) | (simp; omega)) _) | (refine Below.setCell ?_ (by first | omega | (simp; done) | (simp; omega)) _) | (refine bx ?_ (by assumption)) | (refine Below.trans ?_ (Below.mono (by assumption) (by first | omega | (simp; done) | (simp; omega))))))⟩

set_option maxRecDepth 100000 in
set_option maxHeartbeats 1000000 in
theorem RSamePairs_z (v1 v2 : Value) (ps qs : PairL) (w : World) (h : w.ownsRow 0 52 2 v1 ps.length (pc ps)) (h2 : w.ownsRow 0 52 2 v2 qs.length (pc qs)) (hn : ps.length ≤ 1000000) (hm : qs.length ≤ 1000000) :
    Calls Try.prog 26 #[v1, v2] w fun e w' => e = .returned (.bool (pairsEq ps qs)) ∧ Below w.heap.size w w' := by
  by_cases hl : ps.length = qs.length
  · rcases h.2 with ⟨rfl, h0⟩ | ⟨g, cap, cur, rfl, _⟩
    · have hp : ps = [] := List.eq_nil_of_length_eq_zero h0
      have hq : qs = [] := List.eq_nil_of_length_eq_zero (by omega)
      subst hp hq
      rcases h2.2 with ⟨rfl, _⟩ | ⟨g2, cap2, cur2, rfl, _⟩
      all_goals
        clear h h2
        go_enter Try.func26, Try.ntmps26
        go_wp2_with fail
        go_loopw [5] (fun i wr => i = .int .i64 0 ∧ wr = w) (fun i _ => 0)
        case atStart => exact ⟨rfl, rfl⟩
        case round =>
          obtain ⟨rfl, rfl⟩ := hrel
          go_wp2
          go_ret
          exact ⟨rfl, Below.refl _ _⟩
    · rcases h2.2 with ⟨rfl, h0⟩ | ⟨g2, cap2, cur2, rfl, _⟩
      · have hp : ps = [] := List.eq_nil_of_length_eq_zero (by omega)
        have hq : qs = [] := List.eq_nil_of_length_eq_zero (by omega)
        subst hp hq
        clear h h2
        go_enter Try.func26, Try.ntmps26
        go_wp2_with fail
        go_loopw [5] (fun i wr => i = .int .i64 0 ∧ wr = w) (fun i _ => 0)
        case atStart => exact ⟨rfl, rfl⟩
        case round =>
          obtain ⟨rfl, rfl⟩ := hrel
          go_wp2
          go_ret
          exact ⟨rfl, Below.refl _ _⟩
      · rw [← hl] at h2 ⊢
        exact RSame_some g ps.length cap g2 cap2 ps qs w h h2 rfl hl.symm hn
  · have hz := hid (pairsEq_len hl)
    have hne : ((ps.length : Int) != (qs.length : Int)) = true := by simp; omega
    rcases h.2 with ⟨rfl, h0⟩ | ⟨g, cap, cur, rfl, _⟩ <;> rcases h2.2 with ⟨rfl, h1⟩ | ⟨g2, cap2, cur2, rfl, _⟩
    · omega
    · have hne2 : ((0 : Int) != (qs.length : Int)) = true := bne_iff_ne.2 (by omega)
      clear h h2 h0 hl hne
      go_enter Try.func26, Try.ntmps26
      go_wp2
      go_ret
      exact ⟨by rw [hz.out]; rfl, Below.refl _ _⟩
    · have hne2 : ((ps.length : Int) != (0 : Int)) = true := bne_iff_ne.2 (by omega)
      clear h h2 h1 hl hne
      go_enter Try.func26, Try.ntmps26
      go_wp2
      go_ret
      exact ⟨by rw [hz.out]; rfl, Below.refl _ _⟩
    · clear h h2 hl
      go_enter Try.func26, Try.ntmps26
      go_wp2
      go_ret
      exact ⟨by rw [hz.out]; rfl, Below.refl _ _⟩


def strB (s t : ByteArray) : Bool := s.toList == t.toList
/-- a response, as it is handed on -/
def respV (c : Int) (s : ByteArray) (v : Value) : Value := .agg #[.int .i64 c, .string s, v]

set_option maxRecDepth 100000 in
set_option maxHeartbeats 1000000 in
theorem RSame_z (c1 c2 : Int) (s1 s2 : ByteArray) (v1 v2 : Value) (ps qs : PairL) (w : World) (h : w.ownsRow 0 52 2 v1 ps.length (pc ps)) (h2 : w.ownsRow 0 52 2 v2 qs.length (pc qs)) (hn : ps.length ≤ 1000000) (hm : qs.length ≤ 1000000) :
    Calls Try.prog 39 #[.agg #[.int .i64 c1, .string s1, v1], .agg #[.int .i64 c2, .string s2, v2]] w fun e w' => e = .returned (.bool (c1 == c2 && (strB s1 s2 && pairsEq ps qs))) ∧ Below w.heap.size w w' := by
  obtain ⟨a1, n1, k1, rfl⟩ := row_slice h
  obtain ⟨a2, n2, k2, rfl⟩ := row_slice h2
  have H1 := hid h
  have H2 := hid h2
  clear h h2
  cases e1 : (c1 == c2) with
  | false =>
    go_enter Try.func39, Try.ntmps39
    go_wp2
    go_ret
    exact ⟨rfl, by (repeat (first | exact Below.refl _ _ | (refine ba ?_ _) | (refine Below.drew ?_) | (refine below_drewN ?_ _) | (refine Below.alloc ?_ (by first | omega | (simp; done) | (simp; omega)) _) | (refine Below.setCell ?_ (by first | omega | (simp; done) | (simp; omega)) _) | (refine bx ?_ (by assumption)) | (refine Below.trans ?_ (Below.mono (by assumption) (by first | omega | (simp; done) | (simp; omega))))))⟩
  | true =>
    have e1' : c1 = c2 := by simpa using e1
    subst e1'
    clear e1
    cases e2 : strB s1 s2 with
    | false =>
      have e3 : ¬ s1.toList = s2.toList := by simpa [strB] using e2
      have e4 : (s1.toList == s2.toList) = false := e2
      clear e2
      go_enter Try.func39, Try.ntmps39
      go_wp2
      go_ret
      exact ⟨rfl, by (repeat (first | exact Below.refl _ _ | (refine ba ?_ _) | (refine Below.drew ?_) | (refine below_drewN ?_ _) | (refine Below.alloc ?_ (by first | omega | (simp; done) | (simp; omega)) _) | (refine Below.setCell ?_ (by first | omega | (simp; done) | (simp; omega)) _) | (refine bx ?_ (by assumption)) | (refine Below.trans ?_ (Below.mono (by assumption) (by first | omega | (simp; done) | (simp; omega))))))⟩
    | true =>
      have e3 : s1.toList = s2.toList := by simpa [strB] using e2
      have e4 : (s1.toList == s2.toList) = true := e2
      clear e2
      have hB := hid (ba (ba (Below.refl w.heap.size w) (.cells #[.int .i64 c1, .string s1, .slice a1 n1 k1] 54)) (.cells #[.int .i64 c1, .string s2, .slice a2 n2 k2] 54))
      go_enter Try.func39, Try.ntmps39
      go_wp2_with fail
      refine (RSamePairs_z _ _ ps qs _ ((Only.of_below hB.out []).own H1.out (by simp)) ((Only.of_below hB.out []).own H2.out (by simp)) hn hm).mono ?_
      rintro e v1 ⟨rfl, hb1⟩
      go_wp2
      go_ret
      exact ⟨rfl, bx hB.out hb1⟩

def mayZ (op key hi lim : Int) (n : Nat) : Int := if op < 1 ∨ op > 4 then 2 else if op = 4 ∧ (key > hi ∨ lim < 1 ∨ lim > 256) then 2 else if op = 1 ∧ 120 < n then 10 else 0

set_option maxRecDepth 100000 in
set_option maxHeartbeats 2000000 in
theorem RMay_z22 (op key hi lim : Int) (s : ByteArray) (w : World) :
    Calls Try.prog 58 #[.agg #[.int .i64 op, .int .u64 key, .int .u64 hi, .int .i64 lim, .string s]] w fun e w' => e = .returned (.int .i64 (mayZ op key hi lim s.size)) ∧ Below w.heap.size w w' := by
  by_cases h0 : op < 1 ∨ op > 4
  · rw [show mayZ op key hi lim s.size = 2 from if_pos h0]
    rcases h0 with h0 | h0
    all_goals
      go_enter Try.func58, Try.ntmps58
      go_wp2
      go_ret
      exact ⟨rfl, by (repeat (first | exact Below.refl _ _ | (refine ba ?_ _) | (refine Below.drew ?_) | (refine below_drewN ?_ _) | (refine Below.alloc ?_ (by first | omega | (simp; done) | (simp; omega)) _) | (refine Below.setCell ?_ (by first | omega | (simp; done) | (simp; omega)) _) | (refine bx ?_ (by assumption)) | (refine Below.trans ?_ (Below.mono (by assumption) (by first | omega | (simp; done) | (simp; omega))))))⟩
  · have h01 : ¬ op < 1 := by omega
    have h02 : ¬ op > 4 := by omega
    by_cases h4 : op = 4
    · by_cases hb : key > hi ∨ lim < 1 ∨ lim > 256
      · rw [show mayZ op key hi lim s.size = 2 by unfold mayZ; rw [if_neg h0, if_pos ⟨h4, hb⟩]]
        clear h0
        subst h4
        by_cases b1 : key > hi
        · clear hb
          go_enter Try.func58, Try.ntmps58
          go_wp2
          go_ret
          exact ⟨rfl, by (repeat (first | exact Below.refl _ _ | (refine ba ?_ _) | (refine Below.drew ?_) | (refine below_drewN ?_ _) | (refine Below.alloc ?_ (by first | omega | (simp; done) | (simp; omega)) _) | (refine Below.setCell ?_ (by first | omega | (simp; done) | (simp; omega)) _) | (refine bx ?_ (by assumption)) | (refine Below.trans ?_ (Below.mono (by assumption) (by first | omega | (simp; done) | (simp; omega))))))⟩
        · by_cases b2 : lim < 1
          · clear hb
            go_enter Try.func58, Try.ntmps58
            go_wp2
            go_ret
            exact ⟨rfl, by (repeat (first | exact Below.refl _ _ | (refine ba ?_ _) | (refine Below.drew ?_) | (refine below_drewN ?_ _) | (refine Below.alloc ?_ (by first | omega | (simp; done) | (simp; omega)) _) | (refine Below.setCell ?_ (by first | omega | (simp; done) | (simp; omega)) _) | (refine bx ?_ (by assumption)) | (refine Below.trans ?_ (Below.mono (by assumption) (by first | omega | (simp; done) | (simp; omega))))))⟩
          · have b3 : lim > 256 := by omega
            clear hb
            go_enter Try.func58, Try.ntmps58
            go_wp2
            go_ret
            exact ⟨rfl, by (repeat (first | exact Below.refl _ _ | (refine ba ?_ _) | (refine Below.drew ?_) | (refine below_drewN ?_ _) | (refine Below.alloc ?_ (by first | omega | (simp; done) | (simp; omega)) _) | (refine Below.setCell ?_ (by first | omega | (simp; done) | (simp; omega)) _) | (refine bx ?_ (by assumption)) | (refine Below.trans ?_ (Below.mono (by assumption) (by first | omega | (simp; done) | (simp; omega))))))⟩
      · rw [show mayZ op key hi lim s.size = 0 by unfold mayZ; rw [if_neg h0, if_neg (fun h => hb h.2), if_neg (by omega)]]
        have b1 : ¬ key > hi := by omega
        have b2 : ¬ lim < 1 := by omega
        have b3 : ¬ lim > 256 := by omega
        clear h0 hb
        subst h4
        go_enter Try.func58, Try.ntmps58
        go_wp2
        go_ret
        exact ⟨rfl, by (repeat (first | exact Below.refl _ _ | (refine ba ?_ _) | (refine Below.drew ?_) | (refine below_drewN ?_ _) | (refine Below.alloc ?_ (by first | omega | (simp; done) | (simp; omega)) _) | (refine Below.setCell ?_ (by first | omega | (simp; done) | (simp; omega)) _) | (refine bx ?_ (by assumption)) | (refine Below.trans ?_ (Below.mono (by assumption) (by first | omega | (simp; done) | (simp; omega))))))⟩
    · have h4' : (op == 4) = false := beq_eq_false_iff_ne.2 h4
      by_cases h1 : op = 1
      · subst h1
        by_cases hs : 120 < s.size
        · rw [show mayZ 1 key hi lim s.size = 10 by unfold mayZ; rw [if_neg h0, if_neg (by omega), if_pos ⟨rfl, hs⟩]]
          clear h0
          go_enter Try.func58, Try.ntmps58
          go_wp2
          go_ret
          exact ⟨rfl, by (repeat (first | exact Below.refl _ _ | (refine ba ?_ _) | (refine Below.drew ?_) | (refine below_drewN ?_ _) | (refine Below.alloc ?_ (by first | omega | (simp; done) | (simp; omega)) _) | (refine Below.setCell ?_ (by first | omega | (simp; done) | (simp; omega)) _) | (refine bx ?_ (by assumption)) | (refine Below.trans ?_ (Below.mono (by assumption) (by first | omega | (simp; done) | (simp; omega))))))⟩
        · rw [show mayZ 1 key hi lim s.size = 0 by unfold mayZ; rw [if_neg h0, if_neg (by omega), if_neg (by omega)]]
          clear h0
          go_enter Try.func58, Try.ntmps58
          go_wp2
          go_ret
          exact ⟨rfl, by (repeat (first | exact Below.refl _ _ | (refine ba ?_ _) | (refine Below.drew ?_) | (refine below_drewN ?_ _) | (refine Below.alloc ?_ (by first | omega | (simp; done) | (simp; omega)) _) | (refine Below.setCell ?_ (by first | omega | (simp; done) | (simp; omega)) _) | (refine bx ?_ (by assumption)) | (refine Below.trans ?_ (Below.mono (by assumption) (by first | omega | (simp; done) | (simp; omega))))))⟩
      · have h1' : (op == 1) = false := beq_eq_false_iff_ne.2 h1
        rw [show mayZ op key hi lim s.size = 0 by unfold mayZ; rw [if_neg h0, if_neg (by omega), if_neg (by omega)]]
        clear h0
        go_enter Try.func58, Try.ntmps58
        go_wp2
        go_ret
        exact ⟨rfl, by (repeat (first | exact Below.refl _ _ | (refine ba ?_ _) | (refine Below.drew ?_) | (refine below_drewN ?_ _) | (refine Below.alloc ?_ (by first | omega | (simp; done) | (simp; omega)) _) | (refine Below.setCell ?_ (by first | omega | (simp; done) | (simp; omega)) _) | (refine bx ?_ (by assumption)) | (refine Below.trans ?_ (Below.mono (by assumption) (by first | omega | (simp; done) | (simp; omega))))))⟩

theorem bounds_may {key hi lim : Int} {n : Nat} : mayZ 4 key hi lim n = boundsErr key hi lim := by
  unfold mayZ boundsErr
  rw [if_neg (by omega)]
  by_cases h : key > hi ∨ lim < 1 ∨ lim > 256
  · rw [if_pos ⟨rfl, h⟩, if_pos h]
  · rw [if_neg (fun hh => h hh.2), if_neg (by omega), if_neg h]

set_option maxRecDepth 100000 in
set_option maxHeartbeats 2000000 in
theorem MMay_z (op key hi lim : Int) (s : ByteArray) (w : World) :
    Calls Try.prog 65 #[.agg #[.int .i64 op, .int .u64 key, .int .u64 hi, .int .i64 lim, .string s]] w fun e w' => e = .returned (.int .i64 (mayZ op key hi lim s.size)) ∧ Below w.heap.size w w' := by
  by_cases h2 : op = 2
  · rw [show mayZ op key hi lim s.size = 0 by unfold mayZ; rw [if_neg (by omega), if_neg (by omega), if_neg (by omega)]]
    subst h2
    go_enter Try.func65, Try.ntmps65
    go_wp2
    go_ret
    exact ⟨rfl, by (repeat (first | exact Below.refl _ _ | (refine ba ?_ _) | (refine Below.drew ?_) | (refine below_drewN ?_ _) | (refine Below.alloc ?_ (by first | omega | (simp; done) | (simp; omega)) _) | (refine Below.setCell ?_ (by first | omega | (simp; done) | (simp; omega)) _) | (refine bx ?_ (by assumption)) | (refine Below.trans ?_ (Below.mono (by assumption) (by first | omega | (simp; done) | (simp; omega))))))⟩
  · have h2' : (op == 2) = false := beq_eq_false_iff_ne.2 h2
    by_cases h3 : op = 3
    · rw [show mayZ op key hi lim s.size = 0 by unfold mayZ; rw [if_neg (by omega), if_neg (by omega), if_neg (by omega)]]
      subst h3
      go_enter Try.func65, Try.ntmps65
      go_wp2
      go_ret
      exact ⟨rfl, by (repeat (first | exact Below.refl _ _ | (refine ba ?_ _) | (refine Below.drew ?_) | (refine below_drewN ?_ _) | (refine Below.alloc ?_ (by first | omega | (simp; done) | (simp; omega)) _) | (refine Below.setCell ?_ (by first | omega | (simp; done) | (simp; omega)) _) | (refine bx ?_ (by assumption)) | (refine Below.trans ?_ (Below.mono (by assumption) (by first | omega | (simp; done) | (simp; omega))))))⟩
    · have h3' : (op == 3) = false := beq_eq_false_iff_ne.2 h3
      by_cases h1 : op = 1
      · subst h1
        by_cases hs : 120 < s.size
        · rw [show mayZ 1 key hi lim s.size = 10 by unfold mayZ; rw [if_neg (by omega), if_neg (by omega), if_pos ⟨rfl, hs⟩]]
          go_enter Try.func65, Try.ntmps65
          go_wp2
          go_ret
          exact ⟨rfl, by (repeat (first | exact Below.refl _ _ | (refine ba ?_ _) | (refine Below.drew ?_) | (refine below_drewN ?_ _) | (refine Below.alloc ?_ (by first | omega | (simp; done) | (simp; omega)) _) | (refine Below.setCell ?_ (by first | omega | (simp; done) | (simp; omega)) _) | (refine bx ?_ (by assumption)) | (refine Below.trans ?_ (Below.mono (by assumption) (by first | omega | (simp; done) | (simp; omega))))))⟩
        · rw [show mayZ 1 key hi lim s.size = 0 by unfold mayZ; rw [if_neg (by omega), if_neg (by omega), if_neg (by omega)]]
          go_enter Try.func65, Try.ntmps65
          go_wp2
          go_ret
          exact ⟨rfl, by (repeat (first | exact Below.refl _ _ | (refine ba ?_ _) | (refine Below.drew ?_) | (refine below_drewN ?_ _) | (refine Below.alloc ?_ (by first | omega | (simp; done) | (simp; omega)) _) | (refine Below.setCell ?_ (by first | omega | (simp; done) | (simp; omega)) _) | (refine bx ?_ (by assumption)) | (refine Below.trans ?_ (Below.mono (by assumption) (by first | omega | (simp; done) | (simp; omega))))))⟩
      · have h1' : (op == 1) = false := beq_eq_false_iff_ne.2 h1
        by_cases h4 : op = 4
        · subst h4
          rw [bounds_may]
          go_enter Try.func65, Try.ntmps65
          go_wp2_with fail
          refine (bounds_z _ _ _ _).mono ?_
          rintro e w1 ⟨rfl, rfl⟩
          go_wp2
          go_ret
          exact ⟨rfl, by (repeat (first | exact Below.refl _ _ | (refine ba ?_ _) | (refine Below.drew ?_) | (refine below_drewN ?_ _) | (refine Below.alloc ?_ (by first | omega | (simp; done) | (simp; omega)) _) | (refine Below.setCell ?_ (by first | omega | (simp; done) | (simp; omega)) _) | (refine bx ?_ (by assumption)) | (refine Below.trans ?_ (Below.mono (by assumption) (by first | omega | (simp; done) | (simp; omega))))))⟩
        · have h4' : (op == 4) = false := beq_eq_false_iff_ne.2 h4
          rw [show mayZ op key hi lim s.size = 2 from if_pos (by omega)]
          go_enter Try.func65, Try.ntmps65
          go_wp2
          go_ret
          exact ⟨rfl, by (repeat (first | exact Below.refl _ _ | (refine ba ?_ _) | (refine Below.drew ?_) | (refine below_drewN ?_ _) | (refine Below.alloc ?_ (by first | omega | (simp; done) | (simp; omega)) _) | (refine Below.setCell ?_ (by first | omega | (simp; done) | (simp; omega)) _) | (refine bx ?_ (by assumption)) | (refine Below.trans ?_ (Below.mono (by assumption) (by first | omega | (simp; done) | (simp; omega))))))⟩

end Go.Proofs.Ytdhnacajgmjmlaa
