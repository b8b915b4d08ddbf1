import Derived.Test.YtibiekfjbibpbaaGreatSndE
/- A built image may be, plainly: its values, its headers; nothing is leaked, nothing is at fault. -/
namespace Go.Proofs.YtibiekfjbibpbaaGreat
open Go.RowKit
set_option linter.unusedVariables false
set_option linter.unusedSimpArgs false

theorem flat_own (per : Nat) (l : List (Int × Int)) : ∀ n, (List.range n).flatMap (ownK per l) = l.take (n * per)
  | 0 => by simp
  | n + 1 => by
    rw [List.range_succ, List.flatMap_append, flat_own per l n, Nat.succ_mul, List.take_add]
    simp [ownK]
theorem ones_bit (n j : Nat) : hasB (2 ^ n - 1) j = decide (j < n) := by unfold hasB; exact Nat.testBit_two_pow_sub_one n j
theorem ones_in {n : Nat} {j : Fin 64} (h : j ∈ q0t (2 ^ n - 1)) : j.val < n := by
  unfold q0t at h
  have := (List.mem_filter.1 h).2
  rw [ones_bit] at this
  simpa using this
section
variable {slabs per lag K : Nat} {keys : List Nat} {bs : List Int}
/-- a header -/
theorem Core.head (h : Core slabs keys per lag K bs) {s : Nat} (s1 : 1 ≤ s) (s2 : s ≤ slabs) :
    (s ≤ uN keys ∧ q1u bs s = 1 ∧ q4r bs s = 2 ^ vct keys.length s - 1) ∨ (uN keys < s ∧ s ≤ uN keys + (tK keys per lag (K + 1) + 4) / 5 ∧ q1u bs s = 3 ∧ q4r bs s = 2 ^ nct (tK keys per lag (K + 1)) (s - uN keys) - 1) ∨ (q1u bs s = 0 ∧ q4r bs s = 2 ^ 0 - 1) := by
  have hc := h.hc s s1 s2
  have hb := h.hb s s1 s2
  have ec : q1u bs s = (wdN bs (1024 * s)).toNat := rfl
  have eb : q4r bs s = (wdN bs (1024 * s + 8)).toNat := rfl
  have pw : ∀ n : Nat, ((2 : Int) ^ n - 1).toNat = 2 ^ n - 1 := fun n => by
    have h2 : (1 : Nat) ≤ 2 ^ n := Nat.one_le_two_pow
    have : ((2 : Int) ^ n) = ((2 ^ n : Nat) : Int) := by norm_cast
    rw [this]; omega
  by_cases q : s ≤ uN keys
  · rw [if_pos q] at hc hb
    exact Or.inl ⟨q, by rw [ec, hc]; rfl, by rw [eb, hb, pw]⟩
  · rw [if_neg q] at hc hb
    by_cases q2 : s ≤ uN keys + (tK keys per lag (K + 1) + 4) / 5
    · rw [if_pos q2] at hc
      exact Or.inr (Or.inl ⟨by omega, q2, by rw [ec, hc]; rfl, by rw [eb, hb, pw]⟩)
    · rw [if_neg q2] at hc
      have : nct (tK keys per lag (K + 1)) (s - uN keys) = 0 := by
        unfold nct
        generalize tK keys per lag (K + 1) = T at *
        omega
      rw [this] at hb
      exact Or.inr (Or.inr ⟨by rw [ec, hc]; rfl, by rw [eb, hb]; rfl⟩)
theorem Core.ns (h : Core slabs keys per lag K bs) : nsI bs = slabs := by unfold nsI; rw [h.sz]; omega
theorem Core.slabsok (h : Core slabs keys per lag K bs) : z0p bs := by
  refine ⟨by rw [h.sz]; have := h.s1; omega, fun s s1 s2 => ?_⟩
  rw [h.ns] at s2
  unfold q2k q4y
  rcases h.head s1 (by omega) with ⟨_, e1, e2⟩ | ⟨_, _, e1, e2⟩ | ⟨e1, e2⟩
  · rw [e1, e2, decide_eq_true (by omega), Bool.true_and, List.all_eq_true]
    intro j hj
    have := ones_in hj
    have h2 : vct keys.length s ≤ 15 := by unfold vct; omega
    have h3 : q0m ((1 : Nat) : Int) = 15 := rfl
    rw [h3]; simp only [decide_eq_true_eq]; omega
  · rw [e1, e2, decide_eq_true (by omega), Bool.true_and, List.all_eq_true]
    intro j hj
    have := ones_in hj
    have h2 : nct (tK keys per lag (K + 1)) (s - uN keys) ≤ 5 := by unfold nct; omega
    have h3 : q0m ((3 : Nat) : Int) = 5 := rfl
    rw [h3]; simp only [decide_eq_true_eq]; omega
  · rw [e1, e2, decide_eq_true (by omega), Bool.true_and, List.all_eq_true]
    intro j hj
    have := ones_in hj
    omega
theorem Core.sup (h : Core slabs keys per lag K bs) : x3q bs := by
  have hlt := h.tlt (k := K) (r := 0) (by omega) (nRounds_pos _ _)
  rw [Nat.add_zero] at hlt
  have h1 := h.tin
  have h2 := nA_in (u := uN keys) (t := tK keys per lag K) (slabs := slabs) (by omega)
  have h64 := h.s64
  have h01 := h.s1
  obtain ⟨t0, t1, t2, t3, t4, t5, t6⟩ := h.top
  have w0 : wAt bs 0 = 5929342154728227142 := t0
  have w1 : wAt bs 1 = ((1024 * (slabs + 1) : Nat) : Int) := t1
  have w2 : wAt bs 2 = (nA (uN keys) (tK keys per lag K) : Int) := h.root
  have w3 : wAt bs 3 = ((18446744073709551615 - 1024 * (slabs + 1) : Nat) : Int) := t2
  have w4 : wAt bs 4 = 0 := t3
  have w5 : wAt bs 5 = 0 := t4
  have w6 : wAt bs 6 = 0 := t5
  have w7 : wAt bs 7 = 0 := t6
  unfold x3q
  rw [w0, w1, w2, w3, w4, w5, w6, w7, h.len]
  have hs := h.sz
  rw [h.len] at hs
  have hn : ((18446744073709551615 - 1024 * (slabs + 1) : Nat) : Int) = notZ ((1024 * (slabs + 1) : Nat) : Int) := by unfold notZ; omega
  refine ⟨?_, ?_⟩
  · unfold q3p
    rw [hn]; simp
  · unfold mayZ
    rw [hs, slab_nA (by omega), (idx_nA (by omega)).2, decide_eq_true (by omega), decide_eq_true (by omega)]
    simp
/-- the rows from the root's level down -/
def rowsI (keys : List Nat) (per lag K : Nat) (bs : List Int) : List (List (Int × NodeA)) := (List.range (K + 1)).reverse.map (rowI keys per lag bs)
theorem rowsI_last : (rowsI keys per lag K bs).getLast? = some (rowI keys per lag bs 0) := by
  unfold rowsI
  rw [List.range_succ_eq_map, List.reverse_cons, List.map_append]
  simp
theorem allA_in {a : Int} (ha : a ∈ allA (rowsI keys per lag K bs)) : ∃ k r, k < K + 1 ∧ r < nK keys per lag k ∧ a = (nA (uN keys) (tK keys per lag k + r) : Int) := by
  unfold allA rowsI at ha
  obtain ⟨row, hr, hx⟩ := List.mem_flatMap.1 ha
  obtain ⟨k, hk, rfl⟩ := List.mem_map.1 hr
  obtain ⟨x, hx2, rfl⟩ := List.mem_map.1 hx
  obtain ⟨i, hi⟩ := List.mem_iff_getElem?.1 hx2
  have hin := (List.getElem?_eq_some_iff.1 hi).1
  rw [rowI_len] at hin
  rw [rowI_at hin] at hi
  injection hi with hi
  exact ⟨k, i, by simpa using hk, hin, by rw [← hi]⟩
variable {ws : Nat → Nat → List (Int × Int)}
theorem Rdb.allE (h : Rdb slabs keys per lag K bs ws) : allE (rowI keys per lag bs 0) = (List.range (nK keys per lag 0)).flatMap (ws 0) := by
  unfold Go.Proofs.YtibiekfjbibpbaaGreat.allE
  rw [rowI_len]
  have : (List.range (nK keys per lag 0)).map (actI (rowI keys per lag bs 0)) = (List.range (nK keys per lag 0)).map (ws 0) :=
    List.map_congr_left fun r hr => h.act (by omega) (List.mem_range.1 hr)
  rw [List.flatMap_def, this, ← List.flatMap_def]
/-- the entry of a key -/
def entJ (keys : List Nat) (j : Nat) : Int × Int := ((keys.getD j 0 : Int), (vA j : Int))
def pairT (keys : List Nat) (txt : Nat → List Int) (j : Nat) : Int × ByteArray := ((keys.getD j 0 : Int), strOfNums (txt j))
theorem Built.flat (h : Built slabs keys per lag K bs) : (List.range (nK keys per lag 0)).flatMap (wsE keys per lag 0) = (List.range keys.length).map (entJ keys) := by
  have e1 : (List.range (nK keys per lag 0)).flatMap (wsE keys per lag 0) = (List.range (nK keys per lag 0)).flatMap (ownK per (ents0 keys)) := by
    have e0 : wsE keys per lag 0 = ownK per (ents0 keys) := by
      funext r
      unfold wsE
      rw [if_pos rfl]; rfl
    rw [e0]
  rw [e1, flat_own]
  exact List.take_of_length_le (nRounds_all (ents0 keys) (per := per) (by have := h.p2; omega))
theorem vA_inj {i j : Nat} (h : vA i = vA j) : i = j := by
  rcases Nat.lt_trichotomy i j with h1 | h1 | h1
  · have := vA_apart (show i ≠ j by omega); omega
  · exact h1
  · have := vA_apart (show i ≠ j by omega); omega
theorem Core.vals (h : Core slabs keys per lag K bs) {txt : Nat → List Int} (hv : ValsB keys.length txt bs) : ∀ (js done : List Nat), (∀ j ∈ js, j < keys.length) → (done ++ js).Nodup → q4m bs (allA (rowsI keys per lag K bs) ++ (done.map (entJ keys)).map (·.2)) (js.map (entJ keys)) (js.map (pairT keys txt))
  | [], _, _, _ => rfl
  | j :: js, done, hlt, hnd => by
    have hj := hlt j (List.mem_cons_self ..)
    have hvin := h.vin
    have hva := vA_in (i := j) (slabs := slabs) (by omega)
    rw [List.map_cons, List.map_cons]
    refine ⟨strOfNums (txt j), js.map (pairT keys txt), ⟨fun hm => ?_, Or.inl (h.clsV hj), ?_⟩, rfl, ?_⟩
    · rcases List.mem_append.1 hm with hm | hm
      · obtain ⟨k, r, _, _, e⟩ := allA_in hm
        have e2 : vA j = nA (uN keys) (tK keys per lag k + r) := by exact_mod_cast (show ((vA j : Nat) : Int) = _ from e)
        have := nA_val (keys := keys) (tK keys per lag k + r) hj
        omega
      · obtain ⟨e, he, e2⟩ := List.mem_map.1 hm
        obtain ⟨i, hi, rfl⟩ := List.mem_map.1 he
        have e3 : vA i = vA j := by exact_mod_cast (show ((vA i : Nat) : Int) = (vA j : Nat) from e2)
        have e4 := vA_inj e3
        subst e4
        exact (List.nodup_append.1 hnd).2.2 i hi i (List.mem_cons_self ..) rfl
    · show q2m (clsI bs (vA j : Nat)) (blkN bs (vA j : Nat)) = _
      unfold blkN
      rw [h.clsV hj]
      have hq : vA j = 8 * (vA j / 8) := by unfold vA; omega
      have hl := h.len
      have := parse_valT h.byt (q := vA j / 8) (hv j hj).2.1 (by omega) (by rw [← hq]; exact (hv j hj).1)
      have e : ((vA j : Nat) : Int) / 8 = ((vA j / 8 : Nat) : Int) := by omega
      rw [e, Int.toNat_natCast]
      exact this
    · have ih := Core.vals h hv js (done ++ [j]) (fun i hi => hlt i (List.mem_cons_of_mem _ hi)) (by simpa using hnd)
      rw [List.map_append, List.map_append, ← List.append_assoc] at ih
      exact ih
/-- such an image may be -/
theorem Rdb.whole (h : Rdb slabs keys per lag K bs ws) {txt : Nat → List Int} (hv : ValsB keys.length txt bs) {js : List Nat} (hf : (List.range (nK keys per lag 0)).flatMap (ws 0) = js.map (entJ keys)) (hlt : ∀ j ∈ js, j < keys.length) (hnd : js.Nodup) : q1a bs (rowsI keys per lag K bs) (js.map (pairT keys txt)) := by
  refine ⟨h.slabsok, h.sup, ?_, ⟨_, rowsI_last, ?_⟩⟩
  · have e : wAt bs 2 = (nA (uN keys) (tK keys per lag K) : Nat) := h.root
    obtain ⟨q1, q2, _⟩ := (h.node (k := K) (r := 0) (by omega) (nRounds_pos _ _)).1
    rw [Nat.add_zero] at q1 q2
    rw [e]
    refine ⟨_, q1, ?_⟩
    rw [q2]
    exact h.rows K (by omega) none (fun u hu => by cases hu)
  · rw [h.allE, hf]
    have := h.vals hv js [] hlt (by simpa using hnd)
    simpa using this
end

end Go.Proofs.YtibiekfjbibpbaaGreat
