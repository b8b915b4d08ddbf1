/- Blocks: one let be free again; Release. -/
import Derived.Test.YtbkaemajjaiklaaGreatSlabM
import Derived.Test.YtbkaemajjaiklaaGreatUsedM
import Derived.Test.YtbkaemajjaiklaaGreatHeapQ
import Derived.Test.YtbkaemajjaiklaaGreatRefR

namespace Go.Proofs.YtbkaemajjaiklaaGreat
open Go.RowKit
set_option linter.unusedVariables false
set_option linter.unusedSimpArgs false

def delS : List (Int × Int) → Int → List (Int × Int)
  | [], _ => []
  | x :: l, a => if x.1 = a then l else x :: delS l a
theorem delS_split {pre post : List (Int × Int)} {a v : Int} (h : a ∉ pre.map (·.1)) : delS (pre ++ (a, v) :: post) a = pre ++ post := by
  induction pre with
  | nil => show (if a = a then post else _) = _; rw [if_pos rfl]; rfl
  | cons x l ih =>
    simp at h
    show (if x.1 = a then l ++ (a, v) :: post else x :: delS (l ++ (a, v) :: post) a) = _
    rw [if_neg (fun e => h.1 e.symm), ih (by simpa using h.2)]
    rfl
theorem erase_mid' {α : Type} : ∀ (l1 : List α) (e : α) (l2 : List α), (l1 ++ e :: l2).eraseIdx l1.length = l1 ++ l2
  | [], e, l2 => rfl
  | x :: l1, e, l2 => by
    show x :: (l1 ++ e :: l2).eraseIdx l1.length = _
    rw [erase_mid' l1 e l2]; rfl
theorem SlabIs.del {w : World} {N : Nat} {B : SB} {V : Nat → Value} {size : Int} {A : SA} (h : SlabIs w N B V size A) {a : Int} (hm : a ∈ A.is.map (·.1)) :
    ∃ w', (Builtin.delete_ #[91, 24] 0 #[.map (some B.m), .int .u64 a]).run Tryz.prog w = .ok (.tuple #[]) w' ∧ SlabIs w' N B V size { A with is := delS A.is a } ∧ Only [B.m] w w' := by
  obtain ⟨es, clock, h1, h2, h3b⟩ := h.mp
  have hO : ∀ o, Only [B.m] w (w.putObj B.m o) := fun o => (Only.refl _ _).putObj (Or.inl (by simp)) o
  obtain ⟨pre, u, post, p1, p2, p3, p4⟩ := is_split hm
  obtain ⟨es1, es2, e, q1, q2, q3, q4, q5, q6⟩ := findNow_at h2 p1 p2
  have hne : ∀ i k, role B V i = some k → i ≠ 2 → k ∉ [B.m] := by
    intro i k hk hi hm
    exact hi (h.apart i 2 k hk (by rw [role_m, List.mem_singleton.1 hm]))
  refine ⟨_, run_delU w 91 24 3 24 0 Tryz.underlying91 Tryz.underlying24 B.m es clock h1 a es1.length (.int .i64 u) q6,
    ⟨(hO _).blk h.st (hne 0 _ rfl (by omega)), (hO _).blk h.hdr (hne 1 _ rfl (by omega)), fun c hc => (h.fre c hc).only (hO _) (hne _ _ (role_f B V hc) (by omega)) (fun g hg => hne _ _ ((role_v B V hc).trans hg) (by omega)), ⟨_, clock, putObj_at h1, ?_, ?_⟩, h.apart, h.lo⟩, hO _⟩
  · show _ = (delS A.is a).map isV
    rw [Array.toList_eraseIdxIfInBounds, q1, erase_mid', p1, delS_split p2]
    simp [q2, q3]
  · rw [Array.toList_eraseIdxIfInBounds, q1, erase_mid']
    rw [q1] at h3b
    have hsub : (es1 ++ es2).Sublist (es1 ++ e :: es2) := List.Sublist.append (List.Sublist.refl _) (List.sublist_cons_self _ _)
    exact ⟨h3b.1.sublist (hsub.map _), fun b hb => h3b.2 b ((hsub.map _).subset hb)⟩

/-- a block let be free -/
def freeSA (A : SA) (c : Nat) (a : Int) : SA := { A with fr := updN A.fr c (putL (A.fr c) a), is := delS A.is a }

set_option maxRecDepth 100000 in
set_option maxHeartbeats 1000000 in
theorem put_s (N : Nat) (B : SB) (V : Nat → Value) (size : Int) (A : SA) (a : Int) (c n : Nat) (w : World) (h : SlabIs w N B V size A) (hN : N ≤ w.heap.size) (hl : A.hd.length = 1 + n) (hn : 1 ≤ n ∧ n ≤ 64) (ha : 0 < a ∧ a ≤ 18446744073709551615) (hm : a ∈ A.is.map (·.1)) (hc : clsZ A (slabZ a) = (c : Int)) (hc4 : c < 4) (hx : (A.fr c).length ≤ 100000) :
    Calls Tryz.prog 102 #[.pointer (some ⟨B.s, 0, none⟩), .int .u64 a] w fun e w' => (∃ v, e = .returned v) ∧ ∃ V', SlabIs w' N B V' size (freeSA A c a) ∧ Moved B V V' w w' := by
  obtain ⟨w1, hdel, h1, ho1⟩ := h.del hm
  have ym := h.cm
  have hcls := Class_s N B V size _ (slabZ a) n w1.drew (h1.bel (belDrew _)) hl hn
  rw [show clsZ { A with is := delS A.is a } (slabZ a) = clsZ A (slabZ a) from rfl, hc] at hcls
  have HC := hid hcls
  have hS := fun W => Slab_z a W (by omega) ha.2
  have HS := hid hS
  have ycf : w1.drew.cell? ⟨B.s, 2 + c, none⟩ = some (.pointer (some ⟨B.f c, 0, none⟩)) := h1.cf hc4
  have c1 : (0 : Int) ≤ (c : Int) := by omega
  have c2 : (c : Int) < 4 := by omega
  have hm1 : Moved B V V w w1 := ⟨ho1.mono (fun x hx => by obtain rfl := List.mem_singleton.1 hx; exact foot_mem.2 ⟨2, role_m B V⟩), fun _ h => Or.inl h⟩
  have PUT : Calls Tryz.prog 93 #[.pointer (some ⟨B.f c, 0, none⟩), .int .u64 a] w1.drew fun e w' => (∃ v, e = .returned v) ∧ ∃ V', SlabIs w' N B V' size (freeSA A c a) ∧ Moved B V V' w w' := by
    have h2 := h1.bel (belDrew w1)
    have hsz : N ≤ w1.drew.heap.size := Nat.le_trans hN ho1.size
    refine (FPut_any (B.f c) (V c) _ a hx (by omega) w1.drew (h2.fre c hc4)).mono ?_
    rintro e w' ⟨rfl, v', g1, g2, g3⟩
    obtain ⟨g4, g5, g6⟩ := h2.free hsz hc4 g1 g2 g3
    exact ⟨⟨_, rfl⟩, _, g4, (hm1.trans (Moved.of_below (belDrew _))).trans ⟨g5, g6⟩⟩
  have HP := hid PUT
  clear PUT hm1 hcls hS ho1 h1 hm hc hl h
  go_enter Tryz.func102, Tryz.ntmps102
  go_upto_region 1 with fail
  go_region_with (first
    | (go_at_call 115; with_reducible refine (HS.out _).mono ?_; rintro e w3 ⟨rfl, rfl⟩)
    | (go_at_call 13; with_reducible refine (HC.out).mono ?_; rintro e w3 ⟨rfl, rfl⟩)
    | (go_at_call 93; with_reducible refine (HP.out).mono ?_; rintro e w4 ⟨⟨r, rfl⟩, V2, H4⟩; have H5 := hid H4; clear H4))
  all_goals
    try go_simp
    try simp only [Act.put, List.setIfInBounds_toArray, List.set_cons_zero, List.set_cons_succ]
    go_wp2
    go_end0
    exact ⟨⟨_, rfl⟩, V2, H5.out⟩

set_option maxRecDepth 100000 in
set_option maxHeartbeats 1000000 in
/-- Release of one that is reserved -/
theorem Release_s (N : Nat) (B : SB) (V : Nat → Value) (size : Int) (A : SA) (a : Int) (c n : Nat) (w : World) (h : SlabIs w N B V size A) (hN : N ≤ w.heap.size) (hl : A.hd.length = 1 + n) (hn : 1 ≤ n ∧ n ≤ 64) (ha : 0 < a ∧ a ≤ 18446744073709551615) (hm : isGet A.is a = 1) (hmm : a ∈ A.is.map (·.1)) (hc : clsZ A (slabZ a) = (c : Int)) (hc4 : c < 4) (hx : (A.fr c).length ≤ 100000) :
    Calls Tryz.prog 64 #[.pointer (some ⟨B.s, 0, none⟩), .int .u64 a] w fun e w' => e = .returned (.int .i64 0) ∧ ∃ V', SlabIs w' N B V' size (freeSA A c a) ∧ Moved B V V' w w' := by
  have hT := sthere_z _ n w (HasSlabs.of h hl hn)
  rw [decide_eq_true (show 0 < n by omega)] at hT
  have HT := hid hT
  have hlook := h.look a
  rw [hm] at hlook
  have ym := h.cm
  have HP := hid (put_s N B V size A a c n w h hN hl hn ha hmm hc hc4 hx)
  clear h hN hl hn ha hm hmm hc hc4 hx hT
  go_enter Tryz.func64, Tryz.ntmps64
  go_wp2_with fail
  refine (HT.out).mono ?_
  rintro e w1 ⟨rfl, rfl⟩
  go_wp2_with fail
  refine HP.out.mono ?_
  rintro e w1 ⟨⟨v, rfl⟩, V1, h1, h2⟩
  go_wp2
  go_ret
  exact ⟨rfl, V1, h1, h2⟩

set_option maxRecDepth 100000 in
set_option maxHeartbeats 1000000 in
/-- Release of one that is not -/
theorem Release_no (N : Nat) (B : SB) (V : Nat → Value) (size : Int) (A : SA) (a : Int) (n : Nat) (w : World) (h : SlabIs w N B V size A) (hl : A.hd.length = 1 + n) (hn : 1 ≤ n ∧ n ≤ 64) (hm : isGet A.is a ≠ 1) :
    Calls Tryz.prog 64 #[.pointer (some ⟨B.s, 0, none⟩), .int .u64 a] w fun e w' => e = .returned (.int .i64 7) ∧ w = w' := by
  have hT := sthere_z _ n w (HasSlabs.of h hl hn)
  rw [decide_eq_true (show 0 < n by omega)] at hT
  have HT := hid hT
  have hlook := h.look a
  obtain ⟨q, hq⟩ : ∃ q, q = isGet A.is a := ⟨_, rfl⟩
  rw [← hq] at hlook hm
  have e1 : (q != 1) = true := by simpa using hm
  have ym := h.cm
  clear h hl hn hm hT hq
  go_enter Tryz.func64, Tryz.ntmps64
  go_wp2_with fail
  refine (HT.out).mono ?_
  rintro e w1 ⟨rfl, rfl⟩
  go_wp2
  go_ret
  exact ⟨rfl, rfl⟩

end Go.Proofs.YtbkaemajjaiklaaGreat

/- The code's blocks and the document's say the same behind each turn of theirs: plainly. No program. -/
namespace Go.Proofs.YtbkaemajjaiklaaGreat
open Go.RowKit
set_option linter.unusedVariables false
set_option linter.unusedSimpArgs false

theorem isGet_others (ls : List (Int × Int)) (a b : Int) : isGet (others ls a) b = if b = a then 0 else isGet ls b := by
  induction ls with
  | nil => show (0 : Int) = _; split <;> rfl
  | cons x l ih =>
    unfold others at ih ⊢
    rw [List.filter_cons]
    by_cases hx : x.1 = a
    · rw [if_neg (by simp [hx]), ih]
      by_cases hb : b = a
      · rw [if_pos hb, if_pos hb]
      · rw [if_neg hb, if_neg hb]
        show _ = if x.1 = b then x.2 else isGet l b
        rw [if_neg (fun e => hb (e.symm.trans hx))]
    · rw [if_pos (by simp [hx])]
      show (if x.1 = b then x.2 else isGet _ b) = _
      rw [ih]
      by_cases hb : b = a
      · rw [if_pos hb, if_pos hb, if_neg (fun e => hx (e.trans hb))]
      · rw [if_neg hb, if_neg hb]; rfl
theorem others_not (ls : List (Int × Int)) (a : Int) : a ∉ (others ls a).map (·.1) := by
  intro h
  obtain ⟨p, hp, e⟩ := List.mem_map.1 h
  unfold others at hp
  rw [List.mem_filter] at hp
  simp [e] at hp
theorem isGet_setW (ls : List (Int × Int)) (a v b : Int) : isGet (setW ls a v) b = if b = a then v else isGet ls b := by
  unfold setW
  rw [isGet_append]
  by_cases hb : b = a
  · rw [if_pos hb, hb, if_neg (others_not ls a)]
    by_cases hv : v = 0
    · rw [if_pos hv, hv]; rfl
    · rw [if_neg hv]; show (if a = a then v else _) = v; rw [if_pos rfl]
  · rw [if_neg hb]
    split
    · rw [isGet_others, if_neg hb]
    · rename_i hm
      have h1 : isGet (others ls a) b = 0 := isGet_not hm
      rw [isGet_others, if_neg hb] at h1
      rw [h1]
      by_cases hv : v = 0
      · rw [if_pos hv]; rfl
      · rw [if_neg hv]; show (if a = b then v else 0) = 0; rw [if_neg (fun e => hb e.symm)]
theorem UniqA.setW {ls : List (Int × Int)} (h : UniqA ls) (a v : Int) : UniqA (setW ls a v) := by
  unfold Go.Proofs.YtbkaemajjaiklaaGreat.setW
  have h1 : UniqA (others ls a) := h.filter _
  by_cases hv : v = 0
  · rw [if_pos hv, List.append_nil]; exact h1
  · rw [if_neg hv]
    unfold UniqA at h1 ⊢
    rw [List.map_append, List.nodup_append]
    refine ⟨h1, by simp, fun x hx y hy => ?_⟩
    simp at hy
    rintro rfl
    exact others_not ls a (hy ▸ hx)
theorem setW_mem {ls : List (Int × Int)} {a v : Int} {p : Int × Int} (h : p ∈ setW ls a v) : p ∈ ls ∨ p = (a, v) ∧ v ≠ 0 := by
  unfold setW at h
  rcases List.mem_append.1 h with h | h
  · unfold others at h; exact Or.inl (List.mem_filter.1 h).1
  · split at h
    · cases h
    · rename_i hv; exact Or.inr ⟨List.mem_singleton.1 h, hv⟩
/-- where a block lies -/
def BlkIn (cs : List Int) (n : Nat) (a : Int) : Prop := ∃ i j c : Nat, i < n ∧ j < nb c ∧ 1 ≤ c ∧ c ≤ 3 ∧ cs.getD i 0 = (c : Int) ∧ a = blockZ ((i : Int) + 1) c j
theorem Alike.blkOf {A : SA} {n : Nat} {cs : List Int} {ls : List (Int × Int)} (h : Alike A n cs ls) {a : Int} (ha : isGet ls a ≠ 0) : BlkIn cs n a := by
  obtain ⟨_, _, h3⟩ := h.blk _ (isGet_mem ha rfl)
  exact h3
/-- one block turned -/
theorem Alike.turn {A A' : SA} {n : Nat} {cs : List Int} {ls : List (Int × Int)} (h : Alike A n cs ls) (a v : Int) (hcls : ∀ d, clsOf A' d = clsOf A d) (his : ∀ b, isGet A'.is b = if b = a then v else isGet A.is b) (ua : UniqA A'.is) (nz : ∀ p ∈ A'.is, p.2 ≠ 0)
    (nd : ∀ c, 1 ≤ c → c ≤ 3 → (A'.fr c).Nodup) (fr : ∀ c, 1 ≤ c → c ≤ 3 → ∀ x, x ∈ A'.fr c ↔ if x = a then v = 0 ∧ ∃ i j : Nat, i < n ∧ j < nb c ∧ cs.getD i 0 = (c : Int) ∧ x = blockZ ((i : Int) + 1) c j else x ∈ A.fr c)
    (hv : v ≠ 0 → 1 ≤ v ∧ v ≤ 4 ∧ BlkIn cs n a) : Alike A' n cs (setW ls a v) := by
  refine ⟨h.cl, fun i hi => by rw [hcls]; exact h.cls i hi, h.le, fun b => by rw [his, isGet_setW, h.is], ua, h.ul.setW a v, nz, nd, fun c c1 c3 x => ?_, fun p hp => ?_⟩
  · rw [fr c c1 c3 x]
    by_cases hx : x = a
    · rw [if_pos hx]
      constructor
      · rintro ⟨h0, i, j, h1, h2, h3, h4⟩
        exact ⟨i, j, h1, h2, h3, h4, by rw [isGet_setW, if_pos hx]; exact h0⟩
      · rintro ⟨i, j, h1, h2, h3, h4, h5⟩
        rw [isGet_setW, if_pos hx] at h5
        exact ⟨h5, i, j, h1, h2, h3, h4⟩
    · rw [if_neg hx, h.fr c c1 c3 x]
      constructor
      · rintro ⟨i, j, h1, h2, h3, h4, h5⟩
        exact ⟨i, j, h1, h2, h3, h4, by rw [isGet_setW, if_neg hx]; exact h5⟩
      · rintro ⟨i, j, h1, h2, h3, h4, h5⟩
        rw [isGet_setW, if_neg hx] at h5
        exact ⟨i, j, h1, h2, h3, h4, h5⟩
  · rcases setW_mem hp with h1 | ⟨rfl, h1⟩
    · exact h.blk p h1
    · obtain ⟨g1, g2, g3⟩ := hv h1
      exact ⟨g1, g2, g3⟩
/-- a block that is not free is told to be something else -/
theorem Alike.setTo {A : SA} {n : Nat} {cs : List Int} {ls : List (Int × Int)} (h : Alike A n cs ls) {a v : Int} (ha : isGet ls a ≠ 0) (hv : 1 ≤ v ∧ v ≤ 4) : Alike { A with is := isSet A.is a v } n cs (setW ls a v) := by
  refine h.turn a v (fun _ => rfl) (fun b => isGet_setTo _ _ _ _) (h.ua.set _ _) (isSet_nz h.nz _ (by omega)) h.nd (fun c c1 c3 x => ?_) (fun _ => ⟨hv.1, hv.2, h.blkOf ha⟩)
  show x ∈ A.fr c ↔ _
  by_cases hx : x = a
  · rw [if_pos hx]
    constructor
    · intro hm
      obtain ⟨_, _, _, _, _, _, h0⟩ := (h.fr c c1 c3 x).1 hm
      rw [hx] at h0
      exact absurd h0 ha
    · rintro ⟨h0, _⟩; omega
  · rw [if_neg hx]
theorem isGet_del {l : List (Int × Int)} (hu : UniqA l) (a b : Int) : isGet (delS l a) b = if b = a then 0 else isGet l b := by
  by_cases hm : a ∈ l.map (·.1)
  · obtain ⟨pre, u, post, p1, p2, p3, p4⟩ := is_split hm
    have hp : a ∉ post.map (·.1) := by
      unfold UniqA at hu
      rw [p1, List.map_append, List.nodup_append] at hu
      exact (List.nodup_cons.1 hu.2.1).1
    rw [p1, delS_split p2, isGet_append, isGet_append]
    by_cases hb : b = a
    · rw [if_pos hb, hb, if_neg p2]; exact isGet_not hp
    · rw [if_neg hb]
      split
      · rfl
      · show _ = if a = b then u else isGet post b
        rw [if_neg (fun e => hb e.symm)]
  · have : delS l a = l := by
      clear hu
      induction l with
      | nil => rfl
      | cons x l ih =>
        simp only [List.map_cons, List.mem_cons, not_or] at hm
        show (if x.1 = a then l else x :: delS l a) = _
        rw [if_neg (fun e => hm.1 e.symm), ih hm.2]
    rw [this]
    by_cases hb : b = a
    · rw [if_pos hb, hb]; exact isGet_not hm
    · rw [if_neg hb]
theorem delS_sub (l : List (Int × Int)) (a : Int) : (delS l a).Sublist l := by
  induction l with
  | nil => exact List.Sublist.refl _
  | cons x l ih =>
    show (if x.1 = a then l else x :: delS l a).Sublist _
    split
    · exact List.sublist_cons_self _ _
    · exact ih.cons_cons x
/-- a block that is not free is let be free -/
theorem Alike.setFree {A : SA} {n : Nat} {cs : List Int} {ls : List (Int × Int)} (h : Alike A n cs ls) {a : Int} {i j c : Nat} (hi : i < n) (hn : n ≤ 64) (hj : j < nb c) (hc : 1 ≤ c ∧ c ≤ 3) (hcs : cs.getD i 0 = (c : Int)) (ha : a = blockZ ((i : Int) + 1) c j) (is' : List (Int × Int)) (hu : UniqA is') (hz : ∀ p ∈ delS is' a, p.2 ≠ 0) (he : ∀ b, b ≠ a → isGet is' b = isGet A.is b) :
    Alike (freeSA { A with is := is' } c a) n cs (setW ls a 0) := by
  refine h.turn a 0 (fun _ => rfl) (fun b => ?_) (hu.sublist ((delS_sub _ _).map _)) hz (fun d d1 d3 => ?_) (fun d d1 d3 x => ?_) (fun h0 => absurd rfl h0)
  · show isGet (delS is' a) b = _
    rw [isGet_del hu]
    split
    · rfl
    · rename_i hb; exact he b hb
  · show ((updN A.fr c (putL (A.fr c) a)) d).Nodup
    unfold updN
    split
    · exact putL_nodup (h.nd c hc.1 hc.2) a
    · exact h.nd d d1 d3
  · show x ∈ (updN A.fr c (putL (A.fr c) a)) d ↔ _
    unfold updN
    by_cases hd : d = c
    · subst hd
      rw [if_pos rfl, putL_iff]
      by_cases hx : x = a
      · rw [if_pos hx]
        exact ⟨fun _ => ⟨rfl, i, j, hi, hj, hcs, hx.trans ha⟩, fun _ => Or.inr hx⟩
      · rw [if_neg hx]
        exact ⟨fun hm => hm.resolve_right hx, Or.inl⟩
    · rw [if_neg hd]
      by_cases hx : x = a
      · rw [if_pos hx]
        constructor
        · intro hm
          obtain ⟨i', j', h1, h2, h3, h4, _⟩ := (h.fr d d1 d3 x).1 hm
          exfalso
          have := block_same (by omega) (by omega) ⟨d1, d3⟩ hc h2 hj ((h4.symm.trans hx).trans ha)
          subst this
          rw [hcs] at h3
          exact hd (by omega)
        · rintro ⟨_, i', j', h1, h2, h3, h4⟩
          exfalso
          have := block_same (by omega) (by omega) ⟨d1, d3⟩ hc h2 hj ((h4.symm.trans hx).trans ha)
          subst this
          rw [hcs] at h3
          exact hd (by omega)
      · rw [if_neg hx]

/-- a free block taken, the first of its row -/
theorem Alike.take {A : SA} {n : Nat} {cs : List Int} {ls : List (Int × Int)} (h : Alike A n cs ls) (hn : n ≤ 64) {c : Nat} (hc : 1 ≤ c ∧ c ≤ 3) (h0 : A.fr c ≠ []) : Alike (takeSA A c) n cs (setW ls (at0 (A.fr c) 0) 1) := by
  obtain ⟨a, ha⟩ : ∃ a, a = at0 (A.fr c) 0 := ⟨_, rfl⟩
  have hm : a ∈ A.fr c := by rw [ha]; exact at0_mem h0
  obtain ⟨i, j, h1, h2, h3, h4, h5⟩ := (h.fr c hc.1 hc.2 a).1 hm
  have hp := popL_drop h0
  rw [← ha] at hp ⊢
  have hnd := h.nd c hc.1 hc.2
  refine h.turn a 1 (fun _ => rfl) (fun b => by show isGet (isSet A.is (at0 (A.fr c) 0) 1) b = _; rw [← ha]; exact isGet_setTo _ _ _ _) (h.ua.set _ _) (isSet_nz h.nz _ (by decide)) (fun d d1 d3 => ?_) (fun d d1 d3 x => ?_) (fun _ => ⟨by decide, by decide, i, j, c, h1, h2, hc.1, hc.2, h3, h4⟩)
  · show ((updN A.fr c (popL (A.fr c)).dropLast) d).Nodup
    unfold updN
    split
    · exact hp.nodup_iff.2 (hnd.erase _)
    · exact h.nd d d1 d3
  · show x ∈ (updN A.fr c (popL (A.fr c)).dropLast) d ↔ _
    unfold updN
    by_cases hd : d = c
    · subst hd
      rw [if_pos rfl, hp.mem_iff, hnd.mem_erase_iff]
      by_cases hx : x = a
      · rw [if_pos hx]
        exact ⟨fun hh => absurd hx hh.1, fun hh => absurd hh.1 (by decide)⟩
      · rw [if_neg hx]
        exact ⟨fun hh => hh.2, fun hh => ⟨hx, hh⟩⟩
    · rw [if_neg hd]
      by_cases hx : x = a
      · rw [if_pos hx]
        constructor
        · intro hm2
          obtain ⟨i', j', g1, g2, g3, g4, _⟩ := (h.fr d d1 d3 x).1 hm2
          exfalso
          have := block_same (by omega) (by omega) ⟨d1, d3⟩ hc g2 h2 ((g4.symm.trans hx).trans h4)
          subst this
          rw [h3] at g3
          exact hd (by omega)
        · rintro ⟨h0, _⟩
          exact absurd h0 (by decide)
      · rw [if_neg hx]
theorem getD_set (cs : List Int) (k : Nat) (c : Int) (i : Nat) (hk : k < cs.length) : (cs.set k c).getD i 0 = if i = k then c else cs.getD i 0 := by
  rw [List.getD_eq_getElem?_getD, List.getD_eq_getElem?_getD]
  by_cases h : i = k
  · rw [if_pos h, h, List.getElem?_set_self hk]; rfl
  · rw [if_neg h, List.getElem?_set_ne (Ne.symm h)]
/-- a slab of none is given a class -/
theorem Alike.give {A : SA} {n : Nat} {cs : List Int} {ls : List (Int × Int)} (h : Alike A n cs ls) (hn : n ≤ 64) (hl : A.hd.length = 1 + n) {c k : Nat} (hc : 1 ≤ c ∧ c ≤ 3) (hk : k < n) (h0 : cs.getD k 0 = 0) : Alike (giveSA A (k + 1) c) n (cs.set k (c : Int)) ls := by
  have hcl := h.cl
  have hgd := fun i => getD_set cs k (c : Int) i (by omega)
  have hck : ((k + 1 : Nat) : Int) = (k : Int) + 1 := by omega
  have hfree : ∀ j : Nat, j < nb c → isGet ls (blockZ ((k : Int) + 1) c j) = 0 := by
    intro j hj
    apply Classical.byContradiction
    intro hne
    obtain ⟨i, j', c', h1, h2, h3, h4, h5, h6⟩ := h.blkOf hne
    have := block_same (by omega) (by omega) hc ⟨h3, h4⟩ hj h2 h6
    subst this
    rw [h0] at h5
    omega
  refine ⟨by rw [List.length_set]; exact hcl, fun i hi => ?_, fun i hi => ?_, fun a => ?_, ?_, h.ul, ?_, fun d d1 d3 => ?_, fun d d1 d3 x => ?_, fun p hp => ?_⟩
  · rw [giveSA_cls _ _ _ _ (by omega), hgd, h.cls i hi]
    by_cases e : i = k
    · rw [if_pos e, if_pos (by omega)]
    · rw [if_neg e, if_neg (by omega)]
  · rw [hgd]
    split
    · omega
    · exact h.le i hi
  · show isGet (giveTo A (k + 1) c (nb c)).is a = _
    rw [giveTo_is]; exact h.is a
  · show UniqA (giveTo A (k + 1) c (nb c)).is
    rw [giveTo_is]; exact h.ua
  · show ∀ p ∈ (giveTo A (k + 1) c (nb c)).is, p.2 ≠ 0
    rw [giveTo_is]; exact h.nz
  · by_cases e : d = c
    · subst e; exact giveTo_nodup _ _ _ _ (h.nd d d1 d3)
    · show ((giveTo A (k + 1) c (nb c)).fr d).Nodup
      rw [giveTo_other _ _ _ _ _ e]; exact h.nd d d1 d3
  · show x ∈ (giveTo A (k + 1) c (nb c)).fr d ↔ _
    by_cases e : d = c
    · subst e
      rw [giveTo_iff, hck, h.fr d d1 d3 x]
      constructor
      · rintro (⟨i, j, g1, g2, g3, g4, g5⟩ | ⟨j, g1, g2⟩)
        · exact ⟨i, j, g1, g2, by rw [hgd]; split; rfl; exact g3, g4, g5⟩
        · exact ⟨k, j, hk, g1, by rw [hgd, if_pos rfl], g2, by rw [g2]; exact hfree j g1⟩
      · rintro ⟨i, j, g1, g2, g3, g4, g5⟩
        by_cases e : i = k
        · subst e; exact Or.inr ⟨j, g2, g4⟩
        · rw [hgd, if_neg e] at g3
          exact Or.inl ⟨i, j, g1, g2, g3, g4, g5⟩
    · rw [giveTo_other _ _ _ _ _ e, h.fr d d1 d3 x]
      constructor
      · rintro ⟨i, j, g1, g2, g3, g4, g5⟩
        refine ⟨i, j, g1, g2, ?_, g4, g5⟩
        rw [hgd, if_neg]
        · exact g3
        · rintro rfl; rw [h0] at g3; omega
      · rintro ⟨i, j, g1, g2, g3, g4, g5⟩
        rw [hgd] at g3
        by_cases ei : i = k
        · rw [if_pos ei] at g3; exact absurd (by omega) e
        · rw [if_neg ei] at g3
          exact ⟨i, j, g1, g2, g3, g4, g5⟩
  · obtain ⟨g1, g2, i, j, c', g3, g4, g5, g6, g7, g8⟩ := h.blk p hp
    refine ⟨g1, g2, i, j, c', g3, g4, g5, g6, ?_, g8⟩
    rw [hgd, if_neg]
    · exact g7
    · rintro rfl; rw [h0] at g7; omega
theorem block_le {k i c j j' : Nat} (hk : k < 64) (hi : i < 64) (hc : 1 ≤ c ∧ c ≤ 3) (hj : j < nb c) (hj' : j' < nb c) (h : k < i ∨ k = i ∧ j ≤ j') : blockZ ((k : Int) + 1) c j ≤ blockZ ((i : Int) + 1) c j' := by
  rcases h with h | ⟨rfl, h⟩
  · have h1 := block_in (i := k) hk hc hj
    have h2 := block_in (i := i) hi hc hj'
    omega
  · have hnb := nb_eq c
    unfold blockZ
    rw [if_pos ⟨by omega, by omega, by omega, by omega⟩, if_pos ⟨by omega, by omega, by omega, by omega⟩]
    have hb : bytesZ (c : Int) = 64 * (c : Int) := by unfold bytesZ; rw [if_pos (by omega)]
    rw [hb]
    have : c = 1 ∨ c = 2 ∨ c = 3 := by omega
    rcases this with rfl | rfl | rfl <;> omega
/-- the least free one is the first one in order -/
theorem Alike.least {A : SA} {n : Nat} {cs : List Int} {ls : List (Int × Int)} (h : Alike A n cs ls) (hn : n ≤ 64) {c k j : Nat} (hc : 1 ≤ c ∧ c ≤ 3) (hh : HeapL (A.fr c)) (hk : k < n) (hj : j < nb c) (hcs : cs.getD k 0 = (c : Int)) (h0 : isGet ls (blockZ ((k : Int) + 1) c j) = 0) (hno : NoFree cs ls c k j) :
    A.fr c ≠ [] ∧ at0 (A.fr c) 0 = blockZ ((k : Int) + 1) c j := by
  have hm : blockZ ((k : Int) + 1) c j ∈ A.fr c := (h.fr c hc.1 hc.2 _).2 ⟨k, j, hk, hj, hcs, rfl, h0⟩
  have hne : A.fr c ≠ [] := List.ne_nil_of_mem hm
  refine ⟨hne, ?_⟩
  have h1 := heap_min hh hm
  obtain ⟨i', j', g1, g2, g3, g4, g5⟩ := (h.fr c hc.1 hc.2 _).1 (at0_mem hne)
  rw [g4] at g5
  have h2 : k < i' ∨ k = i' ∧ j ≤ j' := by
    rcases Nat.lt_trichotomy i' k with h3 | h3 | h3
    · exact absurd g5 (hno.1 i' j' h3 g2 g3)
    · subst h3
      refine Or.inr ⟨rfl, ?_⟩
      rcases Nat.lt_or_ge j' j with h4 | h4
      · exact absurd g5 (hno.2 j' h4 g3)
      · exact h4
    · exact Or.inl h3
  have h3 := block_le (by omega) (by omega) hc hj g2 h2
  omega
theorem Alike.none {A : SA} {n : Nat} {cs : List Int} {ls : List (Int × Int)} (h : Alike A n cs ls) {c : Nat} (hc : 1 ≤ c ∧ c ≤ 3) (hno : NoFree cs ls c n 0) : A.fr c = [] := by
  apply List.eq_nil_iff_forall_not_mem.2
  intro x hx
  obtain ⟨i, j, g1, g2, g3, g4, g5⟩ := (h.fr c hc.1 hc.2 x).1 hx
  rw [g4] at g5
  exact hno.1 i j g1 g2 g3 g5
/-- both reserve the same -/
inductive Rsvd (A : SA) (c n : Nat) : Int → Int → SA → List Int → List (Int × Int) → Prop where
  | old {cs : List Int} {ls : List (Int × Int)} (h0 : A.fr c ≠ []) (h : Alike (takeSA A c) n cs ls) : Rsvd A c n (at0 (A.fr c) 0) 0 (takeSA A c) cs ls
  | new {cs : List Int} {ls : List (Int × Int)} (k : Nat) (h0 : A.fr c = []) (hk : k < n) (h1 : clsOf A (k + 1) = 0) (hf : ∀ k', k' < k → clsOf A (k' + 1) ≠ 0) (h : Alike (takeSA (giveSA A (k + 1) c) c) n cs ls) : Rsvd A c n (at0 ((giveSA A (k + 1) c).fr c) 0) 0 (takeSA (giveSA A (k + 1) c) c) cs ls
  | full {cs : List Int} {ls : List (Int × Int)} (h0 : A.fr c = []) (hf : ∀ k, k < n → clsOf A (k + 1) ≠ 0) (h : Alike A n cs ls) : Rsvd A c n 0 4 A cs ls
theorem Alike.rsv {A : SA} {n : Nat} {cs cs' : List Int} {ls ls' : List (Int × Int)} {c : Nat} {a x : Int} (h : Alike A n cs ls) (hn : n ≤ 64) (hl : A.hd.length = 1 + n) (hc : 1 ≤ c ∧ c ≤ 3) (hh : ∀ d, HeapL (A.fr d)) (hr : RsvW cs ls c n a x cs' ls') : ∃ A', Rsvd A c n a x A' cs' ls' := by
  cases hr with
  | old k j hk hj hcs h0 hno =>
    obtain ⟨g1, g2⟩ := h.least hn hc (hh c) hk hj hcs h0 hno
    rw [← g2]
    exact ⟨_, Rsvd.old g1 (h.take hn hc g1)⟩
  | new k hk h0 hf hno =>
    have e0 := h.none hc hno
    have hg := h.give hn hl hc hk h0
    have hcl := h.cl
    have hgd := fun i => getD_set cs k (c : Int) i (by omega)
    have hfree : isGet ls (blockZ ((k : Int) + 1) c (0 : Nat)) = 0 := by
      apply Classical.byContradiction
      intro hne
      obtain ⟨i, j', c', h1, h2, h3, h4, h5, h6⟩ := h.blkOf hne
      have := block_same (by omega) (by omega) hc ⟨h3, h4⟩ (nb_pos hc) h2 h6
      subst this
      rw [h0] at h5
      omega
    obtain ⟨g1, g2⟩ := hg.least hn hc (giveTo_heap A (k + 1) c hh (nb c) c) hk (nb_pos hc) (by rw [hgd, if_pos rfl]) hfree ⟨fun i' j' h1 h2 h3 => by
      rw [hgd, if_neg (by omega)] at h3
      exact hno.1 i' j' (by omega) h2 h3, fun j' hj' => by omega⟩
    rw [← g2]
    exact ⟨_, Rsvd.new k e0 hk (by rw [h.cls k hk]; exact h0) (fun k' hk' => by rw [h.cls k' (by omega)]; exact hf k' hk') (hg.take hn hc g1)⟩
  | full hf hno => exact ⟨_, Rsvd.full (h.none hc hno) (fun k hk => by rw [h.cls k hk]; exact hf k hk) h⟩

end Go.Proofs.YtbkaemajjaiklaaGreat
