import Derived.Test.YtibiekfjbibpbaaGreatSndD
/- A built image may be, plainly. -/
namespace Go.Proofs.YtibiekfjbibpbaaGreat
open Go.RowKit
set_option linter.unusedVariables false
set_option linter.unusedSimpArgs false

section
variable {slabs per lag K : Nat} {keys : List Nat} {bs : List Int}
theorem Core.sz (h : Core slabs keys per lag K bs) : q0w (bs.length : Int) = (slabs : Int) := by
  rw [h.len]
  have h1 := h.s1
  have h2 := h.s64
  unfold q0w
  rw [if_pos (by omega)]
  omega
theorem Core.uin (h : Core slabs keys per lag K bs) : uN keys ≤ slabs := by have := h.vin; unfold uN; omega
theorem Core.clsN (h : Core slabs keys per lag K bs) {t : Nat} (ht : t < tK keys per lag (K + 1)) : clsI bs (nA (uN keys) t : Nat) = 3 := by
  have h1 := h.tin
  have h2 := nA_in (u := uN keys) (t := t) (slabs := slabs) (by omega)
  have h64 := h.s64
  have hs := slab_nA (u := uN keys) (t := t) (by omega)
  have hc := h.hc (uN keys + 1 + t / 5) (by omega) h2.2.2
  rw [if_neg (by omega), if_pos (by omega)] at hc
  have hca : q1u bs (uN keys + 1 + t / 5) = 3 := by
    have : q1u bs (uN keys + 1 + t / 5) = (wdN bs (1024 * (uN keys + 1 + t / 5))).toNat := rfl
    rw [this, hc]; rfl
  unfold clsI
  rw [hs, h.sz, if_neg (by omega), Int.toNat_natCast, hca, if_pos ⟨by omega, (idx_nA (by omega)).2⟩]
  rfl
theorem Core.clsV (h : Core slabs keys per lag K bs) {j : Nat} (hj : j < keys.length) : clsI bs (vA j : Nat) = 1 := by
  have h1 := h.vin
  have h64 := h.s64
  have hju : 1 + j / 15 ≤ uN keys := by unfold uN; omega
  have hus := h.uin
  have hs := slab_vA (j := j) (by omega)
  have hc := h.hc (1 + j / 15) (by omega) (by omega)
  rw [if_pos hju] at hc
  have hca : q1u bs (1 + j / 15) = 1 := by
    have : q1u bs (1 + j / 15) = (wdN bs (1024 * (1 + j / 15))).toNat := rfl
    rw [this, hc]; rfl
  unfold clsI
  rw [hs, h.sz, if_neg (by omega), Int.toNat_natCast, hca, if_pos ⟨by omega, (idx_vA (by omega)).2⟩]
  rfl
/-- entries of one node -/
abbrev ownE (keys : List Nat) (per lag k r : Nat) : List (Int × Int) := ownK per (eK keys per lag k) r
def wsE (keys : List Nat) (per lag k r : Nat) : List (Int × Int) := (ownE keys per lag k r).drop (if k = 0 then 0 else 1)
theorem ownK_at {per r i : Nat} {l : List (Int × Int)} (hi : i < per) : (ownK per l r)[i]? = l[r * per + i]? := by
  unfold ownK; rw [List.getElem?_take, if_pos hi, List.getElem?_drop]
theorem ownK_len (per r : Nat) (l : List (Int × Int)) : (ownK per l r).length ≤ per := by unfold ownK; rw [List.length_take]; omega
theorem wsE_mem {k r : Nat} {e : Int × Int} (h : e ∈ wsE keys per lag k r) : ∃ i, i < per ∧ (k ≠ 0 → 0 < i) ∧ (eK keys per lag k)[r * per + i]? = some e := by
  unfold wsE at h
  obtain ⟨i, hi⟩ := List.mem_iff_getElem?.1 h
  rw [List.getElem?_drop] at hi
  have h1 := (List.getElem?_eq_some_iff.1 hi).1
  have h2 : (ownE keys per lag k r).length ≤ per := ownK_len _ _ _
  refine ⟨(if k = 0 then 0 else 1) + i, by omega, fun h0 => by rw [if_neg h0]; omega, ?_⟩
  rw [← ownK_at (by omega)]; exact hi
theorem Core.ent (h : Core slabs keys per lag K bs) (k : Nat) : EntOK k (eK keys per lag k) := eK_ok lag h.rise (by have := h.p2; omega) k
/-- the first one of a node of an upper level -/
theorem own_first (h : Core slabs keys per lag K bs) {k r : Nat} (hk : k ≠ 0) (hr : r < nK keys per lag k) : ∃ e ws, ownE keys per lag k r = e :: ws ∧ (eK keys per lag k)[r * per]? = some e ∧ e.1 = lowR (eK keys per lag k) per r := by
  have hp : 0 < per := by have := h.p2; omega
  obtain ⟨x, rr, hx, h0⟩ := (h.ent k).ne hk
  have hlt : r * per < (eK keys per lag k).length := by
    rcases nRounds_in hp hr with e | e
    · rw [e, hx]; simp
    · exact e
  obtain ⟨e, he⟩ : ∃ e, (eK keys per lag k)[r * per]? = some e := ⟨_, List.getElem?_eq_getElem hlt⟩
  have h1 : (ownE keys per lag k r)[0]? = some e := by rw [ownK_at hp, Nat.add_zero]; exact he
  cases hc : ownE keys per lag k r with
  | nil => rw [hc] at h1; cases h1
  | cons y ws =>
    rw [hc] at h1
    have : y = e := by simpa using h1
    subst this
    refine ⟨y, ws, rfl, he, ?_⟩
    unfold lowR
    by_cases hr0 : r = 0
    · rw [if_pos hr0]
      rw [hr0, Nat.zero_mul, hx] at he
      have : x = y := by simpa using he
      rw [← this]; exact h0
    · rw [if_neg hr0, List.getD_eq_getElem?_getD, he]; rfl
/-- a node's First -/
def fiE (keys : List Nat) (per lag k r : Nat) : Int := if k = 0 then (nA (uN keys) (tK keys per lag k + r) : Int) else ((ownE keys per lag k r).getD 0 (0, 0)).2
theorem Core.tlt (h : Core slabs keys per lag K bs) {k r : Nat} (hk : k < K + 1) (hr : r < nK keys per lag k) : tK keys per lag k + r < tK keys per lag (K + 1) := by
  have h1 := stk_le keys per lag (a := k + 1) (b := K + 1) (by omega)
  have h2 : tK keys per lag (k + 1) = tK keys per lag k + nK keys per lag k := rfl
  omega
/-- a node as it is read -/
structure NodeRd (keys : List Nat) (per lag : Nat) (bs : List Int) (k r : Nat) : Prop where
  at' : q1y bs (nA (uN keys) (tK keys per lag k + r) : Nat) = some (nRd bs (nA (uN keys) (tK keys per lag k + r)))
  lv : (nRd bs (nA (uN keys) (tK keys per lag k + r))).lv = k
  low : (nRd bs (nA (uN keys) (tK keys per lag k + r))).low = lowR (eK keys per lag k) per r
  nx : (nRd bs (nA (uN keys) (tK keys per lag k + r))).nx = (if r + 1 < nK keys per lag k then (nA (uN keys) (tK keys per lag k + r + 1) : Int) else 0)
  fi : (nRd bs (nA (uN keys) (tK keys per lag k + r))).fi = fiE keys per lag k r
theorem Core.nodeAt (h : Core slabs keys per lag K bs) {k r : Nat} (hk : k < K + 1) (hr : r < nK keys per lag k) (h0 : wdN bs (nA (uN keys) (tK keys per lag k + r)) = tagN + (k : Int)) : q1y bs (nA (uN keys) (tK keys per lag k + r) : Nat) = some (nRd bs (nA (uN keys) (tK keys per lag k + r))) := by
  have h15 := h.k15
  have h1 : wdI bs (nA (uN keys) (tK keys per lag k + r) : Nat) = tagN + (k : Int) := h0
  unfold q1y
  rw [if_pos ⟨h.clsN (h.tlt hk hr), by rw [h1]; omega, by rw [h1]; omega⟩]
  rfl
/-- the node that was laid there -/
abbrev ndS (keys : List Nat) (per lag k r : Nat) : NodeA := { ndOf k (nA (uN keys) (tK keys per lag k + r)) (r == 0) (ownK per (eK keys per lag k) r) with nx := if r + 1 < nK keys per lag k then (nA (uN keys) (tK keys per lag k + r + 1) : Int) else 0 }
theorem Core.nodeH (h : Core slabs keys per lag K bs) {k r : Nat} (hk : k < K + 1) (hr : r < nK keys per lag k) (hl : ∀ i, i < 8 → wdN bs (nA (uN keys) (tK keys per lag k + r) + 8 * i) = q9g (ndS keys per lag k r) i) : NodeRd keys per lag bs k r := by
  have hp : 0 < per := by have := h.p2; omega
  have hw : ∀ i, i < 8 → q2p bs (nA (uN keys) (tK keys per lag k + r) : Nat) i = q9g (ndS keys per lag k r) i := fun i hi => by rw [nodeF_at]; exact hl i hi
  have h2 := hl 0 (by omega)
  rw [Nat.mul_zero, Nat.add_zero] at h2
  refine ⟨h.nodeAt hk hr h2, ?_, (hw 1 (by omega)).trans (rowS_low (u := uN keys) (t := tK keys per lag k) (lvl := k) hp), hw 2 (by omega), hw 4 (by omega)⟩
  show q2p bs (nA (uN keys) (tK keys per lag k + r) : Nat) 0 - tagN = _
  rw [hw 0 (by omega)]
  show tagN + (k : Int) - tagN = _
  omega
theorem Core.nodeL (h : Core slabs keys per lag K bs) {k r : Nat} (hk : k < K + 1) (hr : r < nK keys per lag k) (hl : LaidAt bs (nA (uN keys) (tK keys per lag k + r)) (ndS keys per lag k r)) :
    NodeRd keys per lag bs k r ∧ ∀ i, i < 8 → (nRd bs (nA (uN keys) (tK keys per lag k + r))).k i = ((wsE keys per lag k r).getD i (0, 0)).1 ∧ (nRd bs (nA (uN keys) (tK keys per lag k + r))).p i = ((wsE keys per lag k r).getD i (0, 0)).2 :=
  ⟨h.nodeH hk hr (fun i hi => hl i (by omega)), hl.rd.2.2.2.2⟩
/-- entries of a node, or some of them, in order -/
theorem Core.wsok (h : Core slabs keys per lag K bs) {k r : Nat} {ws : List (Int × Int)} (hs : ws.Sublist (wsE keys per lag k r)) (hr : r < nK keys per lag k) :
    ws.length ≤ 8 ∧ (∀ e ∈ ws, e.2 ≠ 0 ∧ e.2 ≠ fiE keys per lag k r ∧ lowR (eK keys per lag k) per r ≤ e.1 ∧ (k ≠ 0 → lowR (eK keys per lag k) per r < e.1) ∧ ∀ r', r < r' → r' < nK keys per lag k → e.1 < lowR (eK keys per lag k) per r') ∧
      (ws.map (·.2)).Nodup ∧ ws.Pairwise fun a b => a.1 < b.1 := by
  have hp : 0 < per := by have := h.p2; omega
  have hE := h.ent k
  have h8 := h.p8
  have hsub : (wsE keys per lag k r).Sublist (eK keys per lag k) := by
    unfold wsE ownE ownK
    exact (List.drop_sublist _ _).trans ((List.take_sublist _ _).trans (List.drop_sublist _ _))
  refine ⟨?_, fun e he => ?_, (List.Sublist.map _ (hs.trans hsub)).nodup hE.nd, List.Pairwise.sublist (hs.trans hsub) hE.rise⟩
  · have h1 : (ownE keys per lag k r).length ≤ per := ownK_len _ _ _
    have h2 := hs.length_le
    unfold wsE at h2; rw [List.length_drop] at h2; omega
  · obtain ⟨i, hi, hi0, hie⟩ := wsE_mem (hs.subset he)
    have hpos := hE.pos e (List.mem_of_getElem? hie)
    have hlow : lowR (eK keys per lag k) per r ≤ e.1 ∧ (k ≠ 0 → lowR (eK keys per lag k) per r < e.1) := by
      by_cases hk0 : k = 0
      · refine ⟨?_, fun h => absurd hk0 h⟩
        unfold lowR
        by_cases hr0 : r = 0
        · rw [if_pos hr0]; exact hpos.1
        · rw [if_neg hr0]
          have hlt := (List.getElem?_eq_some_iff.1 hie).1
          by_cases hi2 : i = 0
          · subst hi2
            rw [Nat.add_zero] at hie
            rw [List.getD_eq_getElem?_getD, hie]; exact Int.le_refl _
          · have := hE.lt (i := r * per) (j := r * per + i) (List.getElem?_eq_getElem (by omega)) hie (by omega)
            rw [List.getD_eq_getElem?_getD, List.getElem?_eq_getElem (by omega)]
            exact Int.le_of_lt this
      · obtain ⟨y, ws, _, hy, hy1⟩ := own_first h hk0 hr
        have := hE.lt hy hie (by have := hi0 hk0; omega)
        rw [hy1] at this
        exact ⟨Int.le_of_lt this, fun _ => this⟩
    refine ⟨by omega, ?_, hlow.1, hlow.2, fun r' h1 h2 => ?_⟩
    · unfold fiE
      by_cases hk0 : k = 0
      · rw [if_pos hk0]
        subst hk0
        have h3 : (ents0 keys)[r * per + i]? = some e := hie
        have h4 := (List.getElem?_eq_some_iff.1 h3).1
        rw [ents0_len] at h4
        rw [ents0_at h4] at h3
        injection h3 with h3
        rw [← h3]
        intro e2
        have e3 : vA (r * per + i) = nA (uN keys) (tK keys per lag 0 + r) := by exact_mod_cast (show ((vA (r * per + i) : Nat) : Int) = _ from e2)
        have := nA_val (keys := keys) (tK keys per lag 0 + r) h4
        omega
      · rw [if_neg hk0]
        obtain ⟨y, ws, ho, hy, _⟩ := own_first h hk0 hr
        rw [ho]
        show e.2 ≠ y.2
        obtain ⟨a1, a2⟩ := List.getElem?_eq_some_iff.1 hy
        obtain ⟨b1, b2⟩ := List.getElem?_eq_some_iff.1 hie
        have := List.pairwise_iff_getElem.1 hE.nd (r * per) (r * per + i) (by simpa using a1) (by simpa using b1) (by have := hi0 hk0; omega)
        simp only [List.getElem_map] at this
        rw [a2, b2] at this
        exact fun e => this e.symm
    · have h3 : r' * per < (eK keys per lag k).length := by rcases nRounds_in hp h2 with h | h <;> omega
      have h4 : (r + 1) * per ≤ r' * per := Nat.mul_le_mul_right _ h1
      have h5 := hE.lt hie (List.getElem?_eq_getElem h3) (by rw [Nat.succ_mul] at h4; omega)
      unfold lowR
      rw [if_neg (by omega), List.getD_eq_getElem?_getD, List.getElem?_eq_getElem h3]
      exact h5
theorem Core.fi0 (h : Core slabs keys per lag K bs) {k r : Nat} (hr : r < nK keys per lag k) : fiE keys per lag k r ≠ 0 := by
  unfold fiE
  by_cases hk0 : k = 0
  · rw [if_pos hk0]; unfold nA; omega
  · rw [if_neg hk0]
    obtain ⟨y, ws, ho, hy, _⟩ := own_first h hk0 hr
    rw [ho]
    have := ((h.ent k).pos y (List.mem_of_getElem? hy)).2
    show y.2 ≠ 0
    omega
/-- an image whose nodes are as they were built, but for entries that lack -/
structure Rdb (slabs : Nat) (keys : List Nat) (per lag K : Nat) (bs : List Int) (ws : Nat → Nat → List (Int × Int)) : Prop extends Core slabs keys per lag K bs where
  node : ∀ {k r}, k < K + 1 → r < nK keys per lag k → NodeRd keys per lag bs k r ∧ lenN (nRd bs (nA (uN keys) (tK keys per lag k + r))) ≤ (ws k r).length + 1 ∧ q0r (nRd bs (nA (uN keys) (tK keys per lag k + r))) = ws k r
  sub : ∀ k r, (ws k r).Sublist (wsE keys per lag k r)
theorem Core.validL (h : Core slabs keys per lag K bs) {k r : Nat} (hk : k < K + 1) (hr : r < nK keys per lag k) (hl : LaidAt bs (nA (uN keys) (tK keys per lag k + r)) (ndS keys per lag k r)) :
    lenN (nRd bs (nA (uN keys) (tK keys per lag k + r))) = (wsE keys per lag k r).length ∧ q0r (nRd bs (nA (uN keys) (tK keys per lag k + r))) = wsE keys per lag k r := by
  obtain ⟨a1, a2, a3, _⟩ := h.wsok (List.Sublist.refl _) hr
  obtain ⟨n1, n2⟩ := h.nodeL hk hr hl
  refine valid_list a1 (fun i e he => ?_) (fun hl => ?_) (fun e he => (a2 e he).1) (fun e he => by rw [n1.fi]; exact (a2 e he).2.1) a3
  · have hi := (List.getElem?_eq_some_iff.1 he).1
    have := n2 i (by omega)
    rw [List.getD_eq_getElem?_getD, he] at this
    exact this
  · rw [(n2 _ hl).2, List.getD_eq_getElem?_getD, List.getElem?_eq_none (Nat.le_refl _)]; rfl
/-- a level's row as it is read -/
def rowI (keys : List Nat) (per lag : Nat) (bs : List Int) (k : Nat) : List (Int × NodeA) := (List.range (nK keys per lag k)).map fun r => ((nA (uN keys) (tK keys per lag k + r) : Int), nRd bs (nA (uN keys) (tK keys per lag k + r)))
theorem rowI_len (k : Nat) : (rowI keys per lag bs k).length = nK keys per lag k := by unfold rowI; simp
theorem rowI_at {k r : Nat} (hr : r < nK keys per lag k) : (rowI keys per lag bs k)[r]? = some ((nA (uN keys) (tK keys per lag k + r) : Int), nRd bs (nA (uN keys) (tK keys per lag k + r))) := by
  unfold rowI; rw [List.getElem?_map, List.getElem?_range hr]; rfl
variable {ws : Nat → Nat → List (Int × Int)}
theorem Rdb.chain (h : Rdb slabs keys per lag K bs ws) {k : Nat} (hk : k < K + 1) : ∀ d r, r + d = nK keys per lag k → q0a (q1y bs) k (if r = 0 then none else some (lowR (eK keys per lag k) per (r - 1))) (if r < nK keys per lag k then (nA (uN keys) (tK keys per lag k + r) : Int) else 0) ((rowI keys per lag bs k).drop r)
  | 0, r, hd => by
    rw [List.drop_of_length_le (by rw [rowI_len]; omega), if_neg (show ¬ r < nK keys per lag k by omega)]
    rfl
  | d + 1, r, hd => by
    have hr : r < nK keys per lag k := by omega
    have hp : 0 < per := by have := h.p2; omega
    obtain ⟨h1, h2⟩ := List.getElem?_eq_some_iff.1 (rowI_at (bs := bs) hr)
    rw [List.drop_eq_getElem_cons h1, h2, if_pos hr]
    obtain ⟨q1, q2, q3, q4, q5⟩ := (h.node hk hr).1
    have ih := Rdb.chain h hk d (r + 1) (by omega)
    rw [if_neg (show ¬ r + 1 = 0 by omega), Nat.add_sub_cancel] at ih
    refine ⟨?_, rfl, q1, q2, fun h0 => ?_, ?_, ?_⟩
    · show ((nA (uN keys) (tK keys per lag k + r) : Nat) : Int) ≠ 0; unfold nA; omega
    · show (nRd bs _).fi = _
      have : k = 0 := by omega
      rw [q5]; unfold fiE; rw [if_pos this]
    · show x3p _ (nRd bs _).low
      rw [q3]
      by_cases hr0 : r = 0
      · rw [if_pos hr0]; subst hr0; rfl
      · rw [if_neg hr0]
        exact (h.ent k).low hp hr (by omega)
    · show q0a (q1y bs) k (some (nRd bs _).low) (nRd bs _).nx _
      rw [q3, q4]
      exact ih
theorem Rdb.high (h : Rdb slabs keys per lag K bs ws) {k r : Nat} (hk : k < K + 1) (hr : r < nK keys per lag k) : hasI (rowI keys per lag bs k) r = decide (r + 1 < nK keys per lag k) ∧ (r + 1 < nK keys per lag k → q2a (rowI keys per lag bs k) r = lowR (eK keys per lag k) per (r + 1)) := by
  unfold hasI q2a
  rw [rowI_len]
  refine ⟨rfl, fun h1 => ?_⟩
  rw [rowI_at h1]
  exact (h.node hk h1).1.low
theorem Rdb.act (h : Rdb slabs keys per lag K bs ws) {k r : Nat} (hk : k < K + 1) (hr : r < nK keys per lag k) : actI (rowI keys per lag bs k) r = ws k r := by
  obtain ⟨e1, e2⟩ := h.high hk hr
  unfold actI
  rw [rowI_at hr]
  refine active_list (h.node hk hr).2.2 (fun hh e he => ?_)
  rw [e1] at hh
  have h1 : r + 1 < nK keys per lag k := by simpa using hh
  rw [e2 h1]
  exact ((h.wsok (h.sub k r) hr).2.1 e he).2.2.2.2 (r + 1) (by omega) h1
theorem Rdb.may (h : Rdb slabs keys per lag K bs ws) {k : Nat} (hk : k < K + 1) : q9f (rowI keys per lag bs k) := by
  intro r x hx
  have hr : r < nK keys per lag k := by have := (List.getElem?_eq_some_iff.1 hx).1; rwa [rowI_len] at this
  have hp : 0 < per := by have := h.p2; omega
  rw [rowI_at hr] at hx
  injection hx with hx
  subst hx
  obtain ⟨e1, e2⟩ := h.high hk hr
  obtain ⟨a1, a2, a3, a4⟩ := h.wsok (h.sub k r) hr
  obtain ⟨⟨q1, q2, q3, q4, q5⟩, q6⟩ := h.node hk hr
  have h15 := h.k15
  refine may_list q6 (by rw [q2]; omega) (by rw [q5]; exact h.fi0 hr) (fun hh => ?_) (fun e he => ?_) (fun e he => by rw [q5]; exact (a2 e he).2.1) a4 a3
  · rw [e1] at hh
    have h1 : r + 1 < nK keys per lag k := by simpa using hh
    rw [e2 h1, q3]
    exact (h.ent k).low hp h1 (by omega)
  · rw [q3, q2]
    exact ⟨(a2 e he).2.2.1, fun h0 => (a2 e he).2.2.2.1 (by omega)⟩
theorem Rdb.leads (h : Rdb slabs keys per lag K bs ws) {k : Nat} (hk : k + 1 < K + 1) : q4c (rowI keys per lag bs (k + 1)) (rowI keys per lag bs k) := by
  intro r hr e he
  rw [rowI_len] at hr
  have hp : 0 < per := by have := h.p2; omega
  have hin : e ∈ eK keys per lag (k + 1) := by
    unfold z6w at he
    rcases List.mem_append.1 he with he | he
    · rw [rowI_at hr] at he
      obtain ⟨q1, q2, q3, q4, q5⟩ := (h.node hk hr).1
      obtain ⟨y, ws, ho, hy, hy1⟩ := own_first h.toCore (Nat.succ_ne_zero k) hr
      have e1 : e = ((nRd bs (nA (uN keys) (tK keys per lag (k + 1) + r))).low, (nRd bs (nA (uN keys) (tK keys per lag (k + 1) + r))).fi) := by simpa using he
      rw [q3, q5] at e1
      unfold fiE at e1
      rw [if_neg (Nat.succ_ne_zero k), ho, ← hy1] at e1
      have : e = y := e1
      rw [this]; exact List.mem_of_getElem? hy
    · rw [h.act hk hr] at he
      obtain ⟨i, _, _, hie⟩ := wsE_mem ((h.sub _ _).subset he)
      exact List.mem_of_getElem? hie
  obtain ⟨r', hr', rfl⟩ := eK_in hp hin
  exact ⟨_, List.mem_of_getElem? (rowI_at (bs := bs) hr'), rfl, (h.node (by omega) hr').1.low⟩
theorem Rdb.rows (h : Rdb slabs keys per lag K bs ws) : ∀ k, k < K + 1 → ∀ up, (∀ u, up = some u → q4c u (rowI keys per lag bs k)) → q3f (q1y bs) k (nA (uN keys) (tK keys per lag k) : Nat) up ((List.range (k + 1)).reverse.map (rowI keys per lag bs))
  | 0, hk, up, hu => by
    have hpos := nRounds_pos per (eK keys per lag 0)
    have hc := h.chain hk (nK keys per lag 0) 0 (by omega)
    rw [if_pos rfl, if_pos hpos, List.drop_zero, Nat.add_zero] at hc
    exact ⟨hc, h.may hk, hu, rfl⟩
  | k + 1, hk, up, hu => by
    have hpos := nRounds_pos per (eK keys per lag (k + 1))
    have hc := h.chain hk (nK keys per lag (k + 1)) 0 (by omega)
    rw [if_pos rfl, if_pos hpos, List.drop_zero, Nat.add_zero] at hc
    rw [List.range_succ, List.reverse_append, List.reverse_singleton, List.singleton_append, List.map_cons]
    refine ⟨hc, h.may hk, hu, ?_⟩
    rw [if_neg (by omega)]
    obtain ⟨h1, h2⟩ := List.getElem?_eq_some_iff.1 (rowI_at (bs := bs) hpos)
    refine ⟨_, (rowI keys per lag bs (k + 1)).drop 1, by rw [← List.drop_zero (l := rowI keys per lag bs (k + 1)), List.drop_eq_getElem_cons h1, h2]; rfl, ?_⟩
    have ih := Rdb.rows h k (by omega) (some (rowI keys per lag bs (k + 1))) (fun u hu => by injection hu with hu; subst hu; exact h.leads hk)
    have hf : (nRd bs (nA (uN keys) (tK keys per lag (k + 1) + 0))).fi = (nA (uN keys) (tK keys per lag k) : Nat) := by
      rw [(h.node hk hpos).1.fi]
      unfold fiE
      rw [if_neg (Nat.succ_ne_zero k)]
      obtain ⟨y, ws, ho, hy, _⟩ := own_first h.toCore (Nat.succ_ne_zero k) hpos
      rw [ho]
      show y.2 = _
      have hy2 : (q4n lag (rowS (uN keys) (tK keys per lag k) k per (eK keys per lag k)))[0]? = some y := by rw [Nat.zero_mul] at hy; exact hy
      rw [upsOf_eq (by have := h.p2; omega), List.getElem?_take, if_pos (by omega), upF_at (nRounds_pos _ _)] at hy2
      injection hy2 with hy2
      rw [← hy2]
      rfl
    show q3f (q1y bs) (((k + 1 : Nat) : Int) - 1) (nRd bs (nA (uN keys) (tK keys per lag (k + 1) + 0))).fi _ _
    rw [hf, show ((k + 1 : Nat) : Int) - 1 = (k : Int) by omega]
    exact ih

end

end Go.Proofs.YtibiekfjbibpbaaGreat
