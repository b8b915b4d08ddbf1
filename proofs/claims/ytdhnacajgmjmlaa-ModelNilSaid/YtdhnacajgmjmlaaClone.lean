/- slices.Clone, slices.Equal at []api.Pair. -/
import Derived.Test.YtdhnacajgmjmlaaDel
namespace Go.Proofs.Ytdhnacajgmjmlaa
open Go.RowKit
set_option linter.unusedVariables false

@[go_sem] theorem eqNilPairs (a : Option Addr) (n c : Nat) (w : World) : (binOp .eql 46 (.slice a n c) (.slice none 0 0)).run Try.prog w = .ok (.bool a.isNone) w := by
  simp [binOp, run_equal_slice_nil w 46 52 a n c Try.underlying46]

/-- a slice in new memory that reads as these cells; nothing that was there has turned -/
def FreshRow (w : World) (e : TypeId) (size n : Nat) (cs : List Value) (en : Ending) (w' : World) : Prop :=
  ∃ v', en = .returned v' ∧ w'.ownsRow w.heap.size e size v' n cs ∧ Below w.heap.size w w'

set_option maxRecDepth 100000 in
set_option maxHeartbeats 1000000 in
theorem Clone_nil (w : World) : Calls Try.prog 60 #[.slice none 0 0] w fun e w' => e = .returned (.slice none 0 0) ∧ w = w' := by
  go_enter Try.func60, Try.ntmps60
  go_wp2
  go_ret
  exact ⟨rfl, rfl⟩

set_option maxRecDepth 100000 in
set_option maxHeartbeats 1000000 in
theorem Clone_some (g n cap : Nat) (cs : List Value) (w : World) (hown : w.ownsRow 0 52 2 (.slice (some ⟨g, 0, none⟩) n cap) n cs) (hn : n ≤ 1000000) (h1 : ∀ v ∈ cs, v.oneCell' = true) :
    Calls Try.prog 60 #[.slice (some ⟨g, 0, none⟩) n cap] w (FreshRow w 52 2 n cs) := by
  obtain ⟨i0, hi, hz0, hz1, hz2⟩ := info_parts infoPair
  have H3 := hid (show 0 + n ≤ maxLen by unfold maxLen; omega)
  have H4 := hid (show (0 + n) * 24 ≤ 140737488355328 by omega)
  have HO := hid h1
  have hl := hown.1
  have hnews : ∀ j u, cs[j]? = some u → (w.alloc (.cells #[] 52)).cell? ((⟨g, 0, none⟩ : Addr).add j) = some u := fun j u hj => ca _ (hown.cells (g := g) rfl j u hj)
  have HN := hid hnews
  have HL := hid hl
  have hempty : (w.alloc (.cells #[] 52)).ownsRow w.heap.size 52 2 (.slice (some ⟨w.heap.size, 0, none⟩) 0 0) 0 [] := by
    have := World.ownsRow_lit (base := w.heap.size) (e := 52) (size := 2) w #[] 0 (Nat.le_refl _) (Nat.zero_le _) rfl
    simpa using this
  have HE := hid hempty
  clear hempty hnews hl hown h1
  go_enter Try.func60, Try.ntmps60
  go_wp2_with (at_builtin; refine wpList_append_own_at _ rfl _ _ 46 rfl w.heap.size 52 i0 (.agg #[.int .u64 0, .string ⟨#[]⟩]) 2 24 Try.underlying46 hi hz0 hz1 hz2 rfl (by decide) (.slice (some ⟨w.heap.size, 0, none⟩) 0 0) 0 [] rfl HE.out ⟨g, 0, none⟩ n cap cs rfl HL.out HN.out HO.out H3.out H4.out (by simp) ?_; intro v' w1 hown' hgrow _ hat)
  go_ret
  refine ⟨_, rfl, by simpa using hown', ?_⟩
  exact ((Below.refl _ w).alloc (Nat.le_refl _) _).grown hgrow (by simp) (fun k hk => by have : w.heap.size = k := by simpa [Value.ownBlock] using hk
                                                                                         omega)

theorem Clone_row (v : Value) (n : Nat) (cs : List Value) (w : World) (hown : w.ownsRow 0 52 2 v n cs) (hn : n ≤ 1000000) (h1 : ∀ v ∈ cs, v.oneCell' = true) :
    Calls Try.prog 60 #[v] w (FreshRow w 52 2 n cs) := by
  rcases hown.2 with ⟨rfl, rfl⟩ | ⟨g, cap, cur, rfl, _⟩
  · refine (Clone_nil w).mono fun e w' ⟨he, hw⟩ => ?_
    subst hw
    have : cs = [] := List.eq_nil_of_length_eq_zero (by simpa using hown.1)
    subst this
    exact ⟨_, he, World.ownsRow_nil _ _ _ _, Below.refl _ _⟩
  · exact Clone_some g n cap cs w hown hn h1

/-! ### pairs -/
abbrev PairL := List (Int × ByteArray)
def pc (ps : PairL) : List Value := ps.flatMap fun p => [.int .u64 p.1, .string p.2]
theorem pc_nil : pc [] = [] := rfl
theorem pc_cons (p : Int × ByteArray) (ps : PairL) : pc (p :: ps) = .int .u64 p.1 :: .string p.2 :: pc ps := rfl
theorem pc_append (ps qs : PairL) : pc (ps ++ qs) = pc ps ++ pc qs := by simp [pc]
theorem pc_length (ps : PairL) : (pc ps).length = ps.length * 2 := by
  induction ps with
  | nil => rfl
  | cons p ps ih => rw [pc_cons]; simp [ih]; omega
theorem pc_take (ps : PairL) (i : Nat) : (pc ps).take (i * 2) = pc (ps.take i) := by
  induction ps generalizing i with
  | nil => simp [pc_nil]
  | cons p ps ih =>
    cases i with
    | zero => simp [pc_nil]
    | succ i => rw [show (i + 1) * 2 = i * 2 + 1 + 1 by omega, pc_cons, List.take_succ_cons, List.take_succ_cons, ih, List.take_succ_cons, pc_cons]
theorem pc_drop (ps : PairL) (i : Nat) : (pc ps).drop (i * 2) = pc (ps.drop i) := by
  induction ps generalizing i with
  | nil => simp [pc_nil]
  | cons p ps ih =>
    cases i with
    | zero => simp
    | succ i => rw [show (i + 1) * 2 = i * 2 + 1 + 1 by omega, pc_cons, List.drop_succ_cons, List.drop_succ_cons, ih, List.drop_succ_cons]
theorem pc_one (ps : PairL) : ∀ v ∈ pc ps, v.oneCell' = true := by
  induction ps with
  | nil => simp [pc_nil]
  | cons p ps ih =>
    rw [pc_cons]; intro v hv; simp at hv
    rcases hv with rfl | rfl | h
    · rfl
    · rfl
    · exact ih v h
theorem pc_at (ps : PairL) (k : Nat) (h : k < ps.length) : (pc ps)[k * 2]? = some (.int .u64 (ps[k]'h).1) ∧ (pc ps)[k * 2 + 1]? = some (.string (ps[k]'h).2) := by
  induction ps generalizing k with
  | nil => simp at h
  | cons p ps ih =>
    cases k with
    | zero => simp [pc_cons]
    | succ k =>
      have := ih k (by simpa using h)
      rw [show (k + 1) * 2 = k * 2 + 1 + 1 by omega, pc_cons]
      simpa using this

def pairEq (p q : Int × ByteArray) : Bool := p.1 == q.1 && p.2.toList == q.2.toList
def pairsEq : PairL → PairL → Bool
  | [], [] => true
  | p :: ps, q :: qs => pairEq p q && pairsEq ps qs
  | _, _ => false
theorem pairsEq_len {ps qs : PairL} (h : ps.length ≠ qs.length) : pairsEq ps qs = false := by
  induction ps generalizing qs with
  | nil => cases qs with
    | nil => exact absurd rfl h
    | cons q qs => rfl
  | cons p ps ih => cases qs with
    | nil => rfl
    | cons q qs => simp [pairsEq, ih (qs := qs) (by simpa using h)]
theorem pairsEq_all {ps qs : PairL} (h : ps.length = qs.length) (ha : ∀ k (h1 : k < ps.length) (h2 : k < qs.length), pairEq ps[k] qs[k] = true) : pairsEq ps qs = true := by
  induction ps generalizing qs with
  | nil => cases qs with
    | nil => rfl
    | cons q qs => simp at h
  | cons p ps ih => cases qs with
    | nil => simp at h
    | cons q qs =>
      have h0 := ha 0 (by simp) (by simp)
      simp only [pairsEq, Bool.and_eq_true]
      exact ⟨h0, ih (by simpa using h) fun k h1 h2 => ha (k + 1) (by simpa using h1) (by simpa using h2)⟩
theorem pairsEq_not {ps qs : PairL} (k : Nat) (h1 : k < ps.length) (h2 : k < qs.length) (hk : pairEq ps[k] qs[k] = false) : pairsEq ps qs = false := by
  induction ps generalizing qs k with
  | nil => simp at h1
  | cons p ps ih => cases qs with
    | nil => simp at h2
    | cons q qs =>
      cases k with
      | zero => simp only [pairsEq]; rw [show pairEq p q = false from hk]; rfl
      | succ k => simp only [pairsEq, ih (qs := qs) k (by simpa using h1) (by simpa using h2) (by simpa using hk), Bool.and_false]

theorem pairEq_t {p q : Int × ByteArray} (h : pairEq p q = true) : p.1 = q.1 ∧ p.2.toList = q.2.toList := by simpa [pairEq] using h
theorem pairEq_f {p q : Int × ByteArray} (h : pairEq p q = false) : (¬ p.1 = q.1) ∨ (p.1 = q.1 ∧ ¬ p.2.toList = q.2.toList) := by
  by_cases h1 : p.1 = q.1
  · right; refine ⟨h1, fun h2 => ?_⟩; simp [pairEq, h1, h2] at h
  · exact Or.inl h1

/-- the cells of the k-th pair of a row -/
theorem row_at {w : World} {g n cap base : Nat} {ps : PairL} (h : w.ownsRow base 52 2 (.slice (some ⟨g, 0, none⟩) n cap) n (pc ps)) (hl : ps.length = n) (k : Nat) (hk : k < ps.length) :
    w.cell? ⟨g, k * 2, none⟩ = some (.int .u64 ps[k].1) ∧ w.cell? ⟨g, k * 2 + 1, none⟩ = some (.string ps[k].2) := by
  have := pc_at ps k hk
  exact ⟨(h.cellAt (k * 2) (by omega)).trans this.1, (h.cellAt (k * 2 + 1) (by omega)).trans this.2⟩

set_option maxRecDepth 100000 in
set_option maxHeartbeats 1000000 in
theorem Equal_some (g n cap g2 cap2 : Nat) (ps qs : PairL) (w : World) (h : w.ownsRow 0 52 2 (.slice (some ⟨g, 0, none⟩) n cap) n (pc ps)) (h2 : w.ownsRow 0 52 2 (.slice (some ⟨g2, 0, none⟩) n cap2) n (pc qs)) (hl : ps.length = n) (hl2 : qs.length = n) (hn : n ≤ 1000000) :
    Calls Try.prog 69 #[.slice (some ⟨g, 0, none⟩) n cap, .slice (some ⟨g2, 0, none⟩) n cap2] w fun e w' => e = .returned (.bool (pairsEq ps qs)) ∧ Below w.heap.size w w' := by
  have HA := hid h
  have HB := hid h2
  clear h h2
  go_enter Try.func69, Try.ntmps69
  go_wp2_with fail
  go_loopw [5, 13] (fun _ i wr => ∃ k : Nat, k ≤ n ∧ i = .int .i64 k ∧ (∃ q, wr = w.drewN q) ∧ Hid (∀ j (h1 : j < ps.length) (h2 : j < qs.length), j < k → pairEq ps[j] qs[j] = true)) (fun _ i _ => (n - (intOf i).toNat))
  case atStart => exact ⟨0, by omega, rfl, ⟨0, rfl⟩, fun j _ _ h => by omega⟩
  case round =>
    obtain ⟨k, hk, rfl, ⟨q, rfl⟩, hN⟩ := hrel
    by_cases hlt : k < n
    · obtain ⟨c1, c2⟩ := row_at HA.out hl k (by omega)
      obtain ⟨d1, d2⟩ := row_at HB.out hl2 k (by omega)
      have hkp : k < ps.length := by omega
      have hkq : k < qs.length := by omega
      have i1 : (0 : Int) ≤ (k : Int) := by omega
      have i2 : (k : Int) < (n : Int) := by omega
      cases he : pairEq ps[k] qs[k] with
      | true =>
        obtain ⟨e1, e2⟩ := pairEq_t he
        have hN' : Hid (∀ j (h1 : j < ps.length) (h2 : j < qs.length), j < k + 1 → pairEq ps[j] qs[j] = true) := fun j h1 h2 h3 => by
          by_cases hj : j = k
          · subst hj; exact he
          · exact hN.out j h1 h2 (by omega)
        clear hN he
        go_wp2
        go_region
        go_wp2
        go_roundw
        case rel => exact ⟨k + 1, by omega, by go_num, ⟨q + 1, rfl⟩, hN'⟩
        case measure => simp [intOf]; omega
      | false =>
        have hz := hid (pairsEq_not k hkp hkq he)
        rcases pairEq_f he with e1 | ⟨e1, e2⟩
        all_goals
          clear hN he
          go_wp2
          go_region
          go_wp2
          go_ret
          exact ⟨by rw [hz.out]; rfl, by (repeat (first | exact Below.refl _ _ | (refine ba ?_ _) | (refine Below.drew ?_) | (refine below_drewN ?_ _) | (refine Below.alloc ?_ (by first | omega | (simp; done) | (simp; omega)) _) | (refine Below.setCell ?_ (by first | omega | (simp; done) | (simp; omega)) _) | (refine bx ?_ (by assumption)) | (refine Below.trans ?_ (Below.mono (by assumption) (by first | omega | (simp; done) | (simp; omega))))))⟩
    · have hz := hid (pairsEq_all (ps := ps) (qs := qs) (by omega) fun j h1 h2 => hN.out j h1 h2 (by omega))
      clear hN
      go_wp2
      go_ret
      exact ⟨by rw [hz.out]; rfl, by (repeat (first | exact Below.refl _ _ | (refine ba ?_ _) | (refine Below.drew ?_) | (refine below_drewN ?_ _) | (refine Below.alloc ?_ (by first | omega | (simp; done) | (simp; omega)) _) | (refine Below.setCell ?_ (by first | omega | (simp; done) | (simp; omega)) _) | (refine bx ?_ (by assumption)) | (refine Below.trans ?_ (Below.mono (by assumption) (by first | omega | (simp; done) | (simp; omega))))))⟩

set_option maxRecDepth 100000 in
set_option maxHeartbeats 1000000 in
theorem Equal_len (v1 v2 : Value) (ps qs : PairL) (w : World) (h : w.ownsRow 0 52 2 v1 ps.length (pc ps)) (h2 : w.ownsRow 0 52 2 v2 qs.length (pc qs)) (hn : ps.length ≤ 1000000) (hm : qs.length ≤ 1000000) :
    Calls Try.prog 69 #[v1, v2] w fun e w' => e = .returned (.bool (pairsEq ps qs)) ∧ Below w.heap.size w w' := by
  by_cases hl : ps.length = qs.length
  · rcases h.2 with ⟨rfl, h0⟩ | ⟨g, cap, cur, rfl, _⟩
    · have hp : ps = [] := List.eq_nil_of_length_eq_zero h0
      have hq : qs = [] := List.eq_nil_of_length_eq_zero (by omega)
      subst hp hq
      rcases h2.2 with ⟨rfl, _⟩ | ⟨g2, cap2, cur2, rfl, _⟩
      all_goals
        clear h h2
        go_enter Try.func69, Try.ntmps69
        go_wp2_with fail
        go_loopw [5, 13] (fun _ i wr => i = .int .i64 0 ∧ wr = w) (fun _ i _ => 0)
        case atStart => exact ⟨rfl, rfl⟩
        case round =>
          obtain ⟨rfl, rfl⟩ := hrel
          go_wp2
          go_ret
          exact ⟨rfl, Below.refl _ _⟩
    · rcases h2.2 with ⟨rfl, h0⟩ | ⟨g2, cap2, cur2, rfl, _⟩
      · have hp : ps = [] := List.eq_nil_of_length_eq_zero (by omega)
        have hq : qs = [] := List.eq_nil_of_length_eq_zero (by omega)
        subst hp hq
        clear h h2
        go_enter Try.func69, Try.ntmps69
        go_wp2_with fail
        go_loopw [5, 13] (fun _ i wr => i = .int .i64 0 ∧ wr = w) (fun _ i _ => 0)
        case atStart => exact ⟨rfl, rfl⟩
        case round =>
          obtain ⟨rfl, rfl⟩ := hrel
          go_wp2
          go_ret
          exact ⟨rfl, Below.refl _ _⟩
      · rw [← hl] at h2 ⊢
        exact Equal_some g ps.length cap g2 cap2 ps qs w h h2 rfl hl.symm hn
  · have hz := hid (pairsEq_len hl)
    have hne : ((ps.length : Int) != (qs.length : Int)) = true := by simp; omega
    rcases h.2 with ⟨rfl, h0⟩ | ⟨g, cap, cur, rfl, _⟩ <;> rcases h2.2 with ⟨rfl, h1⟩ | ⟨g2, cap2, cur2, rfl, _⟩
    · omega
    · have hne2 : ((0 : Int) != (qs.length : Int)) = true := bne_iff_ne.2 (by omega)
      clear h h2 h0 hl hne
      go_enter Try.func69, Try.ntmps69
      go_wp2
      go_ret
      exact ⟨by rw [hz.out]; rfl, Below.refl _ _⟩
    · have hne2 : ((ps.length : Int) != (0 : Int)) = true := bne_iff_ne.2 (by omega)
      clear h h2 h1 hl hne
      go_enter Try.func69, Try.ntmps69
      go_wp2
      go_ret
      exact ⟨by rw [hz.out]; rfl, Below.refl _ _⟩
    · clear h h2 hl
      go_enter Try.func69, Try.ntmps69
      go_wp2
      go_ret
      exact ⟨by rw [hz.out]; rfl, Below.refl _ _⟩

end Go.Proofs.Ytdhnacajgmjmlaa
