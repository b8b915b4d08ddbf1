import Derived.Test.YtibiekfjbibpbaaGreatSndB
/- A built image, plainly: its nodes and values as they are read. -/
namespace Go.Proofs.YtibiekfjbibpbaaGreat
open Go.RowKit
set_option linter.unusedVariables false
set_option linter.unusedSimpArgs false

theorem lenN_is (n : NodeA) {i : Nat} (h8 : i ≤ 8) (h1 : ∀ j, j < i → n.p j ≠ 0) (h2 : i < 8 → n.p i = 0) : lenN n = i := by
  have q := q9n n.p 8 0
  have q1 := q.2.1
  rcases Nat.lt_trichotomy (lenN n) i with h | h | h
  · exact absurd (q.2.2.2 (by unfold lenN at h; omega)) (h1 _ h)
  · exact h
  · exact absurd (h2 (by unfold lenN at h; omega)) (q.2.2.1 i (Nat.zero_le _) h)
/-- a node over a list of entries -/
theorem valid_list {n : NodeA} {ws : List (Int × Int)} (h8 : ws.length ≤ 8) (hk : ∀ i e, ws[i]? = some e → n.k i = e.1 ∧ n.p i = e.2) (h0 : ws.length < 8 → n.p ws.length = 0) (hnz : ∀ e ∈ ws, e.2 ≠ 0) (hfi : ∀ e ∈ ws, e.2 ≠ n.fi) (hd : (ws.map (·.2)).Nodup) : lenN n = ws.length ∧ q0r n = ws := by
  have hlen : lenN n = ws.length := by
    refine lenN_is n h8 (fun j hj => ?_) h0
    rw [(hk j _ (List.getElem?_eq_getElem hj)).2]
    exact hnz _ (List.getElem_mem _)
  refine ⟨hlen, ?_⟩
  have hpl : q1o n = List.range ws.length := by
    unfold q1o
    rw [hlen, List.filter_eq_self]
    intro i hi
    have hi2 := List.mem_range.1 hi
    unfold isN x0f
    rw [(hk i _ (List.getElem?_eq_getElem hi2)).2, bne_iff_ne]
    by_cases h0 : i = 0
    · rw [if_pos h0]
      exact hfi _ (List.getElem_mem _)
    · rw [if_neg h0, (hk (i - 1) _ (List.getElem?_eq_getElem (by omega))).2]
      intro e
      have h3 := List.pairwise_iff_getElem.1 hd (i - 1) i (by simp; omega) (by simp; omega) (by omega)
      simp only [List.getElem_map] at h3
      exact h3 e.symm
  unfold q0r
  rw [hpl]
  apply List.ext_getElem?
  intro i
  rw [List.getElem?_map]
  by_cases hi : i < ws.length
  · rw [List.getElem?_range hi, List.getElem?_eq_getElem hi, Option.map_some, (hk i _ (List.getElem?_eq_getElem hi)).1, (hk i _ (List.getElem?_eq_getElem hi)).2]
  · rw [List.getElem?_eq_none (by simp; omega), List.getElem?_eq_none (by omega)]; rfl
/-- such a node may be -/
theorem may_list {n : NodeA} {ws : List (Int × Int)} {high : Int} {has : Bool} (hv : lenN n ≤ ws.length + 1 ∧ q0r n = ws) (hlv : 0 ≤ n.lv ∧ n.lv ≤ 15) (hfi : n.fi ≠ 0) (hh : has = true → n.low < high) (hlo : ∀ e ∈ ws, n.low ≤ e.1 ∧ (0 < n.lv → n.low < e.1)) (hf : ∀ e ∈ ws, e.2 ≠ n.fi) (hr : ws.Pairwise fun a b => a.1 < b.1) (hd : (ws.map (·.2)).Nodup) : mayN n high has = true := by
  unfold mayN
  rw [hv.2]
  have h1 : mayA n high has = false := by
    unfold mayA
    rw [decide_eq_false (by omega), decide_eq_false (by omega), decide_eq_false hfi]
    cases has with
    | false => rfl
    | true => have := hh rfl; rw [decide_eq_false (by omega)]; rfl
  have h2 : z3s n.lv n.low n.fi ws = true := by
    refine x2b fun i hi => ?_
    have hm := List.getElem_mem hi
    have e1 : ws.getD i (0, 0) = ws[i] := by rw [List.getD_eq_getElem?_getD, List.getElem?_eq_getElem hi]; rfl
    unfold badN
    simp only [e1]
    have b1 : t1N n.lv n.low ws[i] = false := by
      unfold t1N
      have := hlo _ hm
      rw [decide_eq_false (by omega)]
      by_cases hl : 0 < n.lv
      · rw [decide_eq_false (show ¬ ws[i].1 = n.low from fun e => by have := this.2 hl; omega)]; simp
      · rw [decide_eq_false hl]; rfl
    have b2 : t2N n.fi ws ws[i] i = false := by
      unfold t2N
      rw [decide_eq_false (hf _ hm)]
      by_cases h0 : 0 < i
      · have h3 := List.pairwise_iff_getElem.1 hr (i - 1) i (by omega) hi (by omega)
        have e2 : ws.getD (i - 1) (0, 0) = ws[i - 1] := by rw [List.getD_eq_getElem?_getD, List.getElem?_eq_getElem (by omega)]; rfl
        rw [e2, decide_eq_false (show ¬ ws[i].1 ≤ ws[i - 1].1 by omega)]; simp
      · rw [decide_eq_false h0]; rfl
    rw [b1, b2, Bool.false_or, Bool.false_or, List.any_eq_false]
    intro y hy
    obtain ⟨j, hj⟩ := List.mem_iff_getElem?.1 hy
    rw [List.getElem?_take] at hj
    split at hj
    · rename_i hji
      obtain ⟨hj2, rfl⟩ := List.getElem?_eq_some_iff.1 hj
      have h3 := List.pairwise_iff_getElem.1 hd j i (by simp; omega) (by simpa using hi) hji
      simp only [List.getElem_map] at h3
      simpa using h3
    · cases hj
  rw [h1, h2, decide_eq_true hv.1]; rfl
theorem active_list {n : NodeA} {ws : List (Int × Int)} {high : Int} {has : Bool} (hv : q0r n = ws) (hh : has = true → ∀ e ∈ ws, e.1 < high) : q1n n high has = ws := by
  unfold q1n
  rw [hv, List.filter_eq_self]
  intro e he
  unfold actE
  cases has with
  | false => rfl
  | true => simpa using hh rfl e he

/-- a node's words, read -/
def nRd (bs : List Int) (a : Nat) : NodeA := q5t (q2p bs (a : Int))
theorem nodeF_at (bs : List Int) (a i : Nat) : q2p bs (a : Int) i = wdN bs (a + 8 * i) := by
  unfold q2p wdI wdN
  rw [show ((a : Int) + 8 * (i : Int)).toNat = a + 8 * i by omega]
theorem LaidAt.rd {bs : List Int} {a : Nat} {nd : NodeA} (h : LaidAt bs a nd) : (nRd bs a).lv = nd.lv ∧ (nRd bs a).low = nd.low ∧ (nRd bs a).nx = nd.nx ∧ (nRd bs a).fi = nd.fi ∧ ∀ i, i < 8 → (nRd bs a).k i = nd.k i ∧ (nRd bs a).p i = nd.p i := by
  have hw : ∀ i, i < 24 → q2p bs (a : Int) i = q9g nd i := fun i hi => by rw [nodeF_at]; exact h i hi
  refine ⟨?_, hw 1 (by omega), hw 2 (by omega), hw 4 (by omega), fun i hi => ⟨?_, ?_⟩⟩
  · show q2p bs (a : Int) 0 - tagN = _
    rw [hw 0 (by omega)]
    show tagN + nd.lv - tagN = _
    omega
  · show q2p bs (a : Int) (8 + 2 * i) = _
    rw [hw _ (by omega), show 8 + 2 * i = 2 * i + 8 by omega]
    show (if (2 * i) % 2 = 0 then nd.k (2 * i / 2) else nd.p (2 * i / 2)) = _
    rw [if_pos (by omega), show 2 * i / 2 = i by omega]
  · show q2p bs (a : Int) (9 + 2 * i) = _
    rw [hw _ (by omega), show 9 + 2 * i = (2 * i + 1) + 8 by omega]
    show (if (2 * i + 1) % 2 = 0 then nd.k ((2 * i + 1) / 2) else nd.p ((2 * i + 1) / 2)) = _
    rw [if_neg (by omega), show (2 * i + 1) / 2 = i by omega]

/-- where blocks lie, by number -/
theorem slab_nA {u t : Nat} (h : u + 1 + t / 5 ≤ 64) : q1q (nA u t : Nat) = (u + 1 + t / 5 : Nat) := by
  have h1 : ((nA u t : Nat) : Int) / 1024 = ((u + 1 + t / 5 : Nat) : Int) := by unfold nA; omega
  unfold q1q
  rw [h1, if_pos (by omega)]
theorem slab_vA {j : Nat} (h : 1 + j / 15 ≤ 64) : q1q (vA j : Nat) = (1 + j / 15 : Nat) := by
  have h1 : ((vA j : Nat) : Int) / 1024 = ((1 + j / 15 : Nat) : Int) := by unfold vA; omega
  unfold q1q
  rw [h1, if_pos (by omega)]
theorem idx_nA {u t : Nat} (h : u + 1 + t / 5 ≤ 64) : idxI (nA u t : Nat) 3 = (t % 5 : Nat) ∧ idxB (nA u t : Nat) 3 = true := by
  refine x4a (by omega) ?_
  unfold idxZ
  have h2 : ((nA u t : Nat) : Int) % 1024 - 64 = 192 * ((t % 5 : Nat) : Int) := by unfold nA; omega
  have h3 : q0m 3 = 5 := rfl
  rw [slab_nA h, h2, h3, if_pos ⟨by omega, by omega, by omega, by omega, by omega, by omega⟩]
  omega
theorem idx_vA {j : Nat} (h : 1 + j / 15 ≤ 64) : idxI (vA j : Nat) 1 = (j % 15 : Nat) ∧ idxB (vA j : Nat) 1 = true := by
  refine x4a (by omega) ?_
  unfold idxZ
  have h2 : ((vA j : Nat) : Int) % 1024 - 64 = 64 * ((j % 15 : Nat) : Int) := by unfold vA; omega
  have h3 : q0m 1 = 15 := rfl
  rw [slab_vA h, h2, h3, if_pos ⟨by omega, by omega, by omega, by omega, by omega, by omega⟩]
  omega

/-- bytes of words, taken back -/
theorem leW_nth : ∀ {bs : List Int}, (∀ x ∈ bs, 0 ≤ x ∧ x < 256) → ∀ {j : Nat} {c : Int}, bs[j]? = some c → leW bs / 256 ^ j % 256 = c
  | [], _, j, c, h => by simp at h
  | x :: bs, hb, 0, c, h => by
    have h1 := hb x (by simp)
    simp only [List.getElem?_cons_zero, Option.some.injEq] at h
    subst h
    rw [show leW (x :: bs) = x + 256 * leW bs from rfl, Int.pow_zero, Int.ediv_one]
    omega
  | x :: bs, hb, j + 1, c, h => by
    have h1 := hb x (by simp)
    have h2 := leW_nth (bs := bs) (fun y hy => hb y (List.mem_cons_of_mem _ hy)) (j := j) (c := c) (by simpa using h)
    rw [show leW (x :: bs) = x + 256 * leW bs from rfl, Int.pow_succ', ← Int.ediv_ediv_of_nonneg (by omega), show (x + 256 * leW bs) / 256 = leW bs by omega]
    exact h2
theorem word_bytes {cs : List Int} (hb : ∀ x ∈ cs, 0 ≤ x ∧ x < 256) (h8 : cs.length = 8) : (List.range 8).map (q0g (leW cs).toNat) = cs := by
  have h0 := (q1h hb).1
  apply List.ext_getElem?
  intro j
  by_cases hj : j < 8
  · obtain ⟨c, hc⟩ : ∃ c, cs[j]? = some c := ⟨_, List.getElem?_eq_getElem (by omega)⟩
    rw [hc, List.getElem?_map, List.getElem?_range hj, Option.map_some]
    unfold q0g
    have h1 := leW_nth hb hc
    obtain ⟨m, hm⟩ : ∃ m : Nat, leW cs = (m : Int) := ⟨_, (Int.toNat_of_nonneg h0).symm⟩
    rw [hm] at h1 ⊢
    rw [Int.toNat_natCast, Int.natCast_emod, Int.natCast_ediv, Int.natCast_pow]
    exact congrArg some h1
  · rw [List.getElem?_eq_none (by simp; omega), List.getElem?_eq_none (by omega)]
theorem bytesN_slB {bs : List Int} (hb : ∀ x ∈ bs, 0 ≤ x ∧ x < 256) (q : Nat) : ∀ k, 8 * q + 8 * k ≤ bs.length → q0i (((q5g bs).drop q).take k) = slB bs (8 * q) (8 * k)
  | 0, _ => by unfold slB; simp [q0i]
  | k + 1, h => by
    have ih := bytesN_slB hb q k (by omega)
    obtain ⟨x, h1, h2, h3⟩ := q3l hb (k := q + k) (by omega)
    have e : ((q5g bs).drop q).take (k + 1) = ((q5g bs).drop q).take k ++ [x] := by
      rw [List.take_add_one, List.getElem?_drop, h1]; rfl
    rw [e, q8e, ih]
    have e2 : slB bs (8 * q) (8 * (k + 1)) = slB bs (8 * q) (8 * k) ++ slB bs (8 * q + 8 * k) 8 := by
      unfold slB
      rw [show 8 * (k + 1) = 8 * k + 8 by omega, List.take_add, List.drop_drop]
    rw [e2]
    congr 1
    have e3 : x = (leW (slB bs (8 * q + 8 * k) 8)).toNat := by
      have : wAt bs (q + k) = leW (slB bs (8 * q + 8 * k) 8) := by unfold wAt slB; rw [show 8 * (q + k) = 8 * q + 8 * k by omega]
      rw [← this]; omega
    rw [e3]
    exact word_bytes (fun y hy => hb y (List.mem_of_mem_drop (List.mem_of_mem_take hy))) (by unfold slB; simp; omega)
/-- a value's block, read -/
theorem parse_valT {bs : List Int} (hb : ∀ x ∈ bs, 0 ≤ x ∧ x < 256) {q : Nat} {d : List Int} (h20 : d.length ≤ 56) (hq : 8 * q + 64 ≤ bs.length) (hv : slB bs (8 * q) 64 = valT d) : q2m 1 (((q5g bs).drop q).take 8) = .tuple #[.string (strOfNums d), .int .i64 0] := by
  obtain ⟨x, h1, h2, h3⟩ := q3l hb (k := q) (by omega)
  have hlen : (((q5g bs).drop q).take 8).length = 8 := by rw [List.length_take, List.length_drop, q4w]; omega
  have hcons : ((q5g bs).drop q).take 8 = x :: ((q5g bs).drop (q + 1)).take 7 := by
    rw [List.drop_eq_getElem_cons (by rw [q4w]; omega)]
    obtain ⟨h4, h5⟩ := List.getElem?_eq_some_iff.1 h1
    rw [h5]; rfl
  have hx : x = d.length := by
    have e : wAt bs q = leW (slB bs (8 * q) 8) := rfl
    have e2 : slB bs (8 * q) 8 = (slB bs (8 * q) 64).take 8 := by unfold slB; rw [List.take_take]; rfl
    rw [hv] at e2
    have e3 : (valT d).take 8 = (List.range 8).map (q0g d.length) := rfl
    rw [e, e2, e3, x2m (by omega)] at h2
    omega
  obtain ⟨r, hr⟩ : ∃ r, r = ((q5g bs).drop (q + 1)).take 7 := ⟨_, rfl⟩
  rw [hcons, ← hr]
  have hrl : r.length = 7 := by
    have := congrArg List.length hcons
    rw [hlen, ← hr] at this
    simp at this; omega
  have hby : ∀ k, k ≤ 7 → q0i (r.take k) = ((slB bs (8 * q) 64).drop 8).take (8 * k) := fun k hk7 => by
    rw [hr, List.take_take, Nat.min_eq_left hk7, bytesN_slB hb (q + 1) k (by omega)]
    unfold slB
    rw [List.drop_take, List.drop_drop, List.take_take, show 8 * q + 8 = 8 * (q + 1) by omega, Nat.min_eq_left (by omega)]
  rw [hv] at hby
  have hdrop : (valT d).drop 8 = d ++ List.replicate (56 - d.length) 0 := by
    unfold valT
    rw [List.drop_append_of_le_length (by simp), List.drop_of_length_le (by simp), List.nil_append]
  rw [hdrop] at hby
  unfold q2m
  have hw : q4v x ≤ 8 := by unfold q4v; omega
  have hc : q2o (x : Nat) = 1 := by unfold q2o q7j; rw [if_neg (by omega), if_pos (by omega)]; rfl
  simp only []
  rw [if_neg (by omega), if_neg (by rintro (h | h); omega; exact h hc), if_neg (by rw [hrl]; omega)]
  have hb2 := hby ((x + 7) / 8) (by omega)
  unfold q6n
  rw [if_pos, hb2]
  · congr 3
    rw [hx, List.take_take, Nat.min_eq_left (by omega), List.take_append_of_le_length (Nat.le_refl _), List.take_length]
  · unfold q4h
    rw [hb2, List.all_eq_true]
    intro y hy
    rw [List.drop_take, List.drop_append_of_le_length (by omega), List.drop_of_length_le (by omega), List.nil_append] at hy
    have := List.eq_of_mem_replicate (List.mem_of_mem_take hy)
    simpa using this

end Go.Proofs.YtibiekfjbibpbaaGreat
