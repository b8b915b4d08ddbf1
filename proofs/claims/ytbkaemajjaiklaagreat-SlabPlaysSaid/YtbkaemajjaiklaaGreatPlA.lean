/- Blocks: one let be free again; Release. -/
import Derived.Test.YtbkaemajjaiklaaGreatSlabM
import Derived.Test.YtbkaemajjaiklaaGreatUsed
namespace Go.Proofs.YtbkaemajjaiklaaGreat
open Go.RowKit
set_option linter.unusedVariables false
set_option linter.unusedSimpArgs false

def delS : List (Int × Int) → Int → List (Int × Int)
  | [], _ => []
  | x :: l, a => if x.1 = a then l else x :: delS l a
theorem delS_split {pre post : List (Int × Int)} {a v : Int} (h : a ∉ pre.map (·.1)) : delS (pre ++ (a, v) :: post) a = pre ++ post := by
  induction pre with
  | nil => show (if a = a then post else _) = _; rw [if_pos rfl]; rfl
  | cons x l ih =>
    simp at h
    show (if x.1 = a then l ++ (a, v) :: post else x :: delS (l ++ (a, v) :: post) a) = _
    rw [if_neg (fun e => h.1 e.symm), ih (by simpa using h.2)]
    rfl
theorem erase_mid' {α : Type} : ∀ (l1 : List α) (e : α) (l2 : List α), (l1 ++ e :: l2).eraseIdx l1.length = l1 ++ l2
  | [], e, l2 => rfl
  | x :: l1, e, l2 => by
    show x :: (l1 ++ e :: l2).eraseIdx l1.length = _
    rw [erase_mid' l1 e l2]; rfl
theorem SlabIs.del {w : World} {N : Nat} {B : SB} {V : Nat → Value} {size : Int} {A : SA} (h : SlabIs w N B V size A) {a : Int} (hm : a ∈ A.is.map (·.1)) :
    ∃ w', (Builtin.delete_ #[91, 24] 0 #[.map (some B.m), .int .u64 a]).run Tryz.prog w = .ok (.tuple #[]) w' ∧ SlabIs w' N B V size { A with is := delS A.is a } ∧ Only [B.m] w w' := by
  obtain ⟨es, clock, h1, h2, h3b⟩ := h.mp
  have hO : ∀ o, Only [B.m] w (w.putObj B.m o) := fun o => (Only.refl _ _).putObj (Or.inl (by simp)) o
  obtain ⟨pre, u, post, p1, p2, p3, p4⟩ := is_split hm
  obtain ⟨es1, es2, e, q1, q2, q3, q4, q5, q6⟩ := findNow_at h2 p1 p2
  have hne : ∀ i k, role B V i = some k → i ≠ 2 → k ∉ [B.m] := by
    intro i k hk hi hm
    exact hi (h.apart i 2 k hk (by rw [role_m, List.mem_singleton.1 hm]))
  refine ⟨_, run_delU w 91 24 3 24 0 Tryz.underlying91 Tryz.underlying24 B.m es clock h1 a es1.length (.int .i64 u) q6,
    ⟨(hO _).blk h.st (hne 0 _ rfl (by omega)), (hO _).blk h.hdr (hne 1 _ rfl (by omega)), fun c hc => (h.fre c hc).only (hO _) (hne _ _ (role_f B V hc) (by omega)) (fun g hg => hne _ _ ((role_v B V hc).trans hg) (by omega)), ⟨_, clock, putObj_at h1, ?_, ?_⟩, h.apart, h.lo⟩, hO _⟩
  · show _ = (delS A.is a).map isV
    rw [Array.toList_eraseIdxIfInBounds, q1, erase_mid', p1, delS_split p2]
    simp [q2, q3]
  · rw [Array.toList_eraseIdxIfInBounds, q1, erase_mid']
    rw [q1] at h3b
    have hsub : (es1 ++ es2).Sublist (es1 ++ e :: es2) := List.Sublist.append (List.Sublist.refl _) (List.sublist_cons_self _ _)
    exact ⟨h3b.1.sublist (hsub.map _), fun b hb => h3b.2 b ((hsub.map _).subset hb)⟩

/-- a block let be free -/
def freeSA (A : SA) (c : Nat) (a : Int) : SA := { A with fr := updN A.fr c (putL (A.fr c) a), is := delS A.is a }

set_option maxRecDepth 100000 in
set_option maxHeartbeats 1000000 in
theorem put_s (N : Nat) (B : SB) (V : Nat → Value) (size : Int) (A : SA) (a : Int) (c n : Nat) (w : World) (h : SlabIs w N B V size A) (hN : N ≤ w.heap.size) (hl : A.hd.length = 1 + n) (hn : 1 ≤ n ∧ n ≤ 64) (ha : 0 < a ∧ a ≤ 18446744073709551615) (hm : a ∈ A.is.map (·.1)) (hc : clsZ A (slabZ a) = (c : Int)) (hc4 : c < 4) (hx : (A.fr c).length ≤ 100000) :
    Calls Tryz.prog 102 #[.pointer (some ⟨B.s, 0, none⟩), .int .u64 a] w fun e w' => (∃ v, e = .returned v) ∧ ∃ V', SlabIs w' N B V' size (freeSA A c a) ∧ Moved B V V' w w' := by
  obtain ⟨w1, hdel, h1, ho1⟩ := h.del hm
  have ym := h.cm
  have hcls := Class_s N B V size _ (slabZ a) n w1.drew (h1.bel (belDrew _)) hl hn
  rw [show clsZ { A with is := delS A.is a } (slabZ a) = clsZ A (slabZ a) from rfl, hc] at hcls
  have HC := hid hcls
  have hS := fun W => Slab_z a W (by omega) ha.2
  have HS := hid hS
  have ycf : w1.drew.cell? ⟨B.s, 2 + c, none⟩ = some (.pointer (some ⟨B.f c, 0, none⟩)) := h1.cf hc4
  have c1 : (0 : Int) ≤ (c : Int) := by omega
  have c2 : (c : Int) < 4 := by omega
  have hm1 : Moved B V V w w1 := ⟨ho1.mono (fun x hx => by obtain rfl := List.mem_singleton.1 hx; exact foot_mem.2 ⟨2, role_m B V⟩), fun _ h => Or.inl h⟩
  have PUT : Calls Tryz.prog 93 #[.pointer (some ⟨B.f c, 0, none⟩), .int .u64 a] w1.drew fun e w' => (∃ v, e = .returned v) ∧ ∃ V', SlabIs w' N B V' size (freeSA A c a) ∧ Moved B V V' w w' := by
    have h2 := h1.bel (belDrew w1)
    have hsz : N ≤ w1.drew.heap.size := Nat.le_trans hN ho1.size
    refine (FPut_any (B.f c) (V c) _ a hx (by omega) w1.drew (h2.fre c hc4)).mono ?_
    rintro e w' ⟨rfl, v', g1, g2, g3⟩
    obtain ⟨g4, g5, g6⟩ := h2.free hsz hc4 g1 g2 g3
    exact ⟨⟨_, rfl⟩, _, g4, (hm1.trans (Moved.of_below (belDrew _))).trans ⟨g5, g6⟩⟩
  have HP := hid PUT
  clear PUT hm1 hcls hS ho1 h1 hm hc hl h
  go_enter Tryz.func102, Tryz.ntmps102
  go_upto_region 1 with fail
  go_region_with (first
    | (go_at_call 115; with_reducible refine (HS.out _).mono ?_; rintro e w3 ⟨rfl, rfl⟩)
    | (go_at_call 13; with_reducible refine (HC.out).mono ?_; rintro e w3 ⟨rfl, rfl⟩)
    | (go_at_call 93; with_reducible refine (HP.out).mono ?_; rintro e w4 ⟨⟨r, rfl⟩, V2, H4⟩; have H5 := hid H4; clear H4))
  all_goals
    try go_simp
    try simp only [Act.put, List.setIfInBounds_toArray, List.set_cons_zero, List.set_cons_succ]
    go_wp2
    go_end0
    exact ⟨⟨_, rfl⟩, V2, H5.out⟩

set_option maxRecDepth 100000 in
set_option maxHeartbeats 1000000 in
/-- Release of one that is reserved -/
theorem Release_s (N : Nat) (B : SB) (V : Nat → Value) (size : Int) (A : SA) (a : Int) (c n : Nat) (w : World) (h : SlabIs w N B V size A) (hN : N ≤ w.heap.size) (hl : A.hd.length = 1 + n) (hn : 1 ≤ n ∧ n ≤ 64) (ha : 0 < a ∧ a ≤ 18446744073709551615) (hm : isGet A.is a = 1) (hmm : a ∈ A.is.map (·.1)) (hc : clsZ A (slabZ a) = (c : Int)) (hc4 : c < 4) (hx : (A.fr c).length ≤ 100000) :
    Calls Tryz.prog 64 #[.pointer (some ⟨B.s, 0, none⟩), .int .u64 a] w fun e w' => e = .returned (.int .i64 0) ∧ ∃ V', SlabIs w' N B V' size (freeSA A c a) ∧ Moved B V V' w w' := by
  have hT := sthere_z _ n w (HasSlabs.of h hl hn)
  rw [decide_eq_true (show 0 < n by omega)] at hT
  have HT := hid hT
  have hlook := h.look a
  rw [hm] at hlook
  have ym := h.cm
  have HP := hid (put_s N B V size A a c n w h hN hl hn ha hmm hc hc4 hx)
  clear h hN hl hn ha hm hmm hc hc4 hx hT
  go_enter Tryz.func64, Tryz.ntmps64
  go_wp2_with fail
  refine (HT.out).mono ?_
  rintro e w1 ⟨rfl, rfl⟩
  go_wp2_with fail
  refine HP.out.mono ?_
  rintro e w1 ⟨⟨v, rfl⟩, V1, h1, h2⟩
  go_wp2
  go_ret
  exact ⟨rfl, V1, h1, h2⟩

set_option maxRecDepth 100000 in
set_option maxHeartbeats 1000000 in
/-- Release of one that is not -/
theorem Release_no (N : Nat) (B : SB) (V : Nat → Value) (size : Int) (A : SA) (a : Int) (n : Nat) (w : World) (h : SlabIs w N B V size A) (hl : A.hd.length = 1 + n) (hn : 1 ≤ n ∧ n ≤ 64) (hm : isGet A.is a ≠ 1) :
    Calls Tryz.prog 64 #[.pointer (some ⟨B.s, 0, none⟩), .int .u64 a] w fun e w' => e = .returned (.int .i64 7) ∧ w = w' := by
  have hT := sthere_z _ n w (HasSlabs.of h hl hn)
  rw [decide_eq_true (show 0 < n by omega)] at hT
  have HT := hid hT
  have hlook := h.look a
  obtain ⟨q, hq⟩ : ∃ q, q = isGet A.is a := ⟨_, rfl⟩
  rw [← hq] at hlook hm
  have e1 : (q != 1) = true := by simpa using hm
  have ym := h.cm
  clear h hl hn hm hT hq
  go_enter Tryz.func64, Tryz.ntmps64
  go_wp2_with fail
  refine (HT.out).mono ?_
  rintro e w1 ⟨rfl, rfl⟩
  go_wp2
  go_ret
  exact ⟨rfl, rfl⟩

end Go.Proofs.YtbkaemajjaiklaaGreat
