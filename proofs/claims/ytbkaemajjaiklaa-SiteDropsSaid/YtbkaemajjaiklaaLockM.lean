/- Locks: what a table is; is there such a client, for what does it wait, who has a lock. -/
import Derived.Test.YtbkaemajjaiklaaSiteA

namespace Go.Proofs.Ytbkaemajjaiklaa
open Go.RowKit
set_option linter.unusedVariables false
set_option linter.unusedSimpArgs false

def tabC (c : Int) (mb : Nat) (ws : List Int) : Array Value := (Value.int .i64 c :: .map (some mb) :: ws.map (Value.int .u64)).toArray
/-- entries by when they were made: no two at once, all ahead of now -/
def BornOK (l : List MapEntry) (clock : Nat) : Prop := (l.map (·.born)).Nodup ∧ ∀ b ∈ l.map (·.born), b < clock
/-- a table of c clients: who has what, what each waits for -/
structure TabIs (w : World) (t mb : Nat) (c : Int) (has : List (Int × Int)) (ws : List Int) : Prop where
  blk : Blk w t 95 (tabC c mb ws)
  mp : ∃ es clock, w.heap[mb]? = some (.map es clock) ∧ es.toList.map viewE = has.map isV ∧ BornOK es.toList clock
  pos : 1 ≤ c ∧ c ≤ 64
  len : ws.length = 64
  ne : t ≠ mb
theorem TabIs.cc {w : World} {t mb : Nat} {c : Int} {has : List (Int × Int)} {ws : List Int} (h : TabIs w t mb c has ws) : w.cell? ⟨t, 0, none⟩ = some (.int .i64 c) := h.blk.cell 0
theorem TabIs.cm {w : World} {t mb : Nat} {c : Int} {has : List (Int × Int)} {ws : List Int} (h : TabIs w t mb c has ws) : w.cell? ⟨t, 1, none⟩ = some (.map (some mb)) := h.blk.cell 1
theorem TabIs.cw {w : World} {t mb : Nat} {c : Int} {has : List (Int × Int)} {ws : List Int} (h : TabIs w t mb c has ws) {i : Nat} {x : Int} (hx : ws[i]? = some x) : w.cell? ⟨t, 2 + i, none⟩ = some (.int .u64 x) := by
  rw [h.blk.cell]
  unfold tabC
  rw [show 2 + i = i + 1 + 1 by omega, List.getElem?_toArray, List.getElem?_cons_succ, List.getElem?_cons_succ, List.getElem?_map, hx]
  rfl
theorem TabIs.lt {w : World} {t mb : Nat} {c : Int} {has : List (Int × Int)} {ws : List Int} (h : TabIs w t mb c has ws) : t < w.heap.size ∧ mb < w.heap.size := by
  obtain ⟨es, cl, h1, _⟩ := h.mp
  exact ⟨h.blk.lt, (Array.getElem?_eq_some_iff.1 h1).1⟩
theorem TabIs.only {w w' : World} {t mb : Nat} {c : Int} {has : List (Int × Int)} {ws : List Int} {fs : List Nat} (h : TabIs w t mb c has ws) (ho : Only fs w w') (h1 : t ∉ fs) (h2 : mb ∉ fs) : TabIs w' t mb c has ws := by
  obtain ⟨es, cl, q1, q2⟩ := h.mp
  exact ⟨ho.blk h.blk h1, ⟨es, cl, (ho.block mb h.lt.2 h2).trans q1, q2⟩, h.pos, h.len, h.ne⟩
theorem born_push {l : List MapEntry} {clock : Nat} (h : BornOK l clock) (e : MapEntry) (he : e.born = clock) : BornOK (l ++ [e]) (clock + 1) := by
  unfold BornOK at h ⊢
  rw [List.map_append]
  refine ⟨?_, fun b hb => ?_⟩
  · rw [List.nodup_append]
    refine ⟨h.1, by simp, fun x hx y hy => ?_⟩
    simp at hy
    have := h.2 x hx
    omega
  · rcases List.mem_append.1 hb with h1 | h1
    · have := h.2 b h1; omega
    · simp at h1; omega
/-- what a client waits for, turned -/
theorem TabIs.want {w : World} {t mb : Nat} {c : Int} {has : List (Int × Int)} {ws : List Int} (h : TabIs w t mb c has ws) (i : Nat) (x : Int) : TabIs (w.setCell ⟨t, 2 + i, none⟩ (.int .u64 x)) t mb c has (ws.set i x) ∧ Only [t] w (w.setCell ⟨t, 2 + i, none⟩ (.int .u64 x)) := by
  have hO : Only [t] w (w.setCell ⟨t, 2 + i, none⟩ (.int .u64 x)) := (Only.refl _ _).setCell (Or.inl (by simp)) _
  obtain ⟨es, cl, q1, q2⟩ := h.mp
  refine ⟨⟨?_, ⟨es, cl, (hO.block mb h.lt.2 (by simpa using h.ne.symm)).trans q1, q2⟩, h.pos, by rw [List.length_set]; exact h.len, h.ne⟩, hO⟩
  have := h.blk.set_ (2 + i) (.int .u64 x)
  rw [show tabC c mb ws = (Value.int .i64 c :: .map (some mb) :: ws.map (Value.int .u64)).toArray from rfl, setIf_toArray, show 2 + i = i + 1 + 1 by omega, List.set_cons_succ, List.set_cons_succ, ← List.map_set] at this
  rw [show 2 + i = i + 1 + 1 by omega]
  exact this
/-- a lock turned -/
theorem TabIs.put {w : World} {t mb : Nat} {c : Int} {has : List (Int × Int)} {ws : List Int} (h : TabIs w t mb c has ws) (a v : Int) :
    ∃ w', (Instr.mapUpdate 72 (.map (some mb)) (.int .u64 a) (.int .i64 v)).run Try.prog w = .ok () w' ∧ TabIs w' t mb c (isSet has a v) ws ∧ Only [mb] w w' := by
  obtain ⟨es, clock, h1, h2, h3b⟩ := h.mp
  have hO : ∀ o, Only [mb] w (w.putObj mb o) := fun o => (Only.refl _ _).putObj (Or.inl (by simp)) o
  have hS : ∀ es' c', es'.toList.map viewE = (isSet has a v).map isV → BornOK es'.toList c' → TabIs (w.putObj mb (.map es' c')) t mb c (isSet has a v) ws := fun es' c' he hb =>
    ⟨(hO _).blk h.blk (by simpa using h.ne), ⟨es', c', putObj_at h1, he, hb⟩, h.pos, h.len, h.ne⟩
  by_cases hm : a ∈ has.map (·.1)
  · obtain ⟨pre, u, post, p1, p2, p3, p4⟩ := is_split hm
    obtain ⟨es1, es2, e, q1, q2, q3, q4, q5, q6⟩ := findNow_at h2 p1 p2
    have hat : es[es1.length]? = some e := by rw [← Array.getElem?_toList, q1]; simp
    refine ⟨_, run_updU_old w _ _ _ Try.underlying72 Try.underlying47 mb es clock h1 a (.int .i64 v) es1.length (.int .i64 u) q6 (by rw [hat, Option.map_some, q4]), hS _ _ ?_ ?_, hO _⟩
    · rw [Array.toList_modify, q1, p4 v]
      rw [modify_mid]
      simp [q2, q3, viewE, isV]
    · rw [Array.toList_modify, q1, modify_mid]
      rw [q1] at h3b
      unfold BornOK at h3b ⊢
      simpa using h3b
  · refine ⟨_, run_updU_new w _ _ _ Try.underlying72 Try.underlying47 mb es clock h1 a (.int .i64 v) (findNow_not h2 hm), hS _ _ ?_ ?_, hO _⟩
    · rw [Array.toList_push, List.map_append, h2, isSet_not hm v, List.map_append]
      rfl
    · rw [Array.toList_push]
      exact born_push h3b _ rfl
/-- who has it, is anybody -/
theorem TabIs.look {w : World} {t mb : Nat} {c : Int} {has : List (Int × Int)} {ws : List Int} (h : TabIs w t mb c has ws) (a : Int) :
    (Instr.lookup 72 (.map (some mb)) (.int .u64 a) true).run Try.prog w = .ok (.tuple #[.int .i64 (isGet has a), .bool (decide (a ∈ has.map (·.1)))]) w := by
  obtain ⟨es, clock, h1, h2, h3b⟩ := h.mp
  by_cases hm : a ∈ has.map (·.1)
  · obtain ⟨pre, u, post, p1, p2, p3, p4⟩ := is_split hm
    obtain ⟨es1, es2, e, q1, q2, q3, q4, q5, q6⟩ := findNow_at h2 p1 p2
    rw [p3, decide_eq_true hm]
    exact run_lookU_some w _ _ _ Try.underlying72 Try.underlying47 mb es clock h1 a es1.length (.int .i64 u) true q6
  · rw [isGet_not hm, decide_eq_false hm]
    exact run_lookU_none w _ _ _ Try.underlying72 Try.underlying47 mb es clock h1 a (.int .i64 0) true (by kernel_rfl) (findNow_not h2 hm)

theorem client_l (t : Nat) (c i : Int) (hc : 1 ≤ c ∧ c ≤ 64) (w : World) (h : w.cell? ⟨t, 0, none⟩ = some (.int .i64 c)) :
    Calls Try.prog 58 #[.pointer (some ⟨t, 0, none⟩), .int .i64 i] w fun e w' => e = .returned (.bool (decide (0 ≤ i ∧ i < c))) ∧ w = w' := by
  have hT := hid (lthere_z t c hc w h)
  clear hc
  by_cases h0 : 0 ≤ i
  · have hd : Hid (decide (0 ≤ i ∧ i < c) = decide (i < c)) := by show _ = _; simp [h0]
    go_enter Try.func58, Try.ntmps58
    go_wp2_with fail
    refine (hT.out).mono ?_
    rintro e w1 ⟨rfl, rfl⟩
    go_wp2
    go_ret
    exact ⟨by rw [hd.out]; rfl, rfl⟩
  · have hd : Hid (decide (0 ≤ i ∧ i < c) = false) := by show _ = _; simp [h0]
    go_enter Try.func58, Try.ntmps58
    go_wp2_with fail
    refine (hT.out).mono ?_
    rintro e w1 ⟨rfl, rfl⟩
    go_wp2
    go_ret
    exact ⟨by simp; omega, rfl⟩

theorem Holder_l (t mb : Nat) (c : Int) (has : List (Int × Int)) (ws : List Int) (a : Int) (w : World) (h : TabIs w t mb c has ws) :
    Calls Try.prog 115 #[.pointer (some ⟨t, 0, none⟩), .int .u64 a] w fun e w' => e = .returned (.tuple #[.int .i64 (isGet has a), .bool (decide (a ∈ has.map (·.1)))]) ∧ w = w' := by
  have hT := hid (lthere_z t c h.pos w h.cc)
  have hl := h.look a
  have ym := h.cm
  clear h
  go_enter Try.func115, Try.ntmps115
  go_wp2_with fail
  refine (hT.out).mono ?_
  rintro e w1 ⟨rfl, rfl⟩
  go_wp2
  go_ret2
  exact ⟨rfl, rfl⟩

set_option maxRecDepth 100000 in
theorem Wants_l (t mb : Nat) (c : Int) (has : List (Int × Int)) (ws : List Int) (i : Int) (x : Int) (w : World) (h : TabIs w t mb c has ws) (hi : 0 ≤ i ∧ i < c) (hx : ws[i.toNat]? = some x) :
    Calls Try.prog 26 #[.pointer (some ⟨t, 0, none⟩), .int .i64 i] w fun e w' => e = .returned (.tuple #[.int .u64 x, .bool (x != 0)]) ∧ Below w.heap.size w w' := by
  have hT := client_l t c i h.pos w h.cc
  rw [decide_eq_true hi] at hT
  have HT := hid hT
  obtain ⟨k, rfl⟩ : ∃ k : Nat, i = (k : Int) := ⟨i.toNat, by omega⟩
  rw [Int.toNat_natCast] at hx
  have y0 : w.drew.cell? ⟨t, 2 + k, none⟩ = some (.int .u64 x) := h.cw hx
  have i0 : (0 : Int) ≤ (k : Int) := by omega
  have i1 : (k : Int) < 64 := by have := h.pos; omega
  clear h hi hx hT
  go_enter Try.func26, Try.ntmps26
  go_wp2_with fail
  refine (HT.out).mono ?_
  rintro e w1 ⟨rfl, rfl⟩
  go_wp2
  go_region
  all_goals
    try go_simp
    try simp only [Act.put, List.setIfInBounds_toArray, List.set_cons_zero, List.set_cons_succ]
    go_wp2
    go_ret2
    exact ⟨rfl, belDrew _⟩

end Go.Proofs.Ytbkaemajjaiklaa

/- Locks: one given back. -/
namespace Go.Proofs.Ytbkaemajjaiklaa
open Go.RowKit
set_option linter.unusedVariables false
set_option linter.unusedSimpArgs false

def isDel : List (Int × Int) → Int → List (Int × Int)
  | [], _ => []
  | x :: l, a => if x.1 = a then l else x :: isDel l a
theorem isDel_split {pre post : List (Int × Int)} {a v : Int} (h : a ∉ pre.map (·.1)) : isDel (pre ++ (a, v) :: post) a = pre ++ post := by
  induction pre with
  | nil => show (if a = a then post else _) = _; rw [if_pos rfl]; rfl
  | cons x l ih =>
    simp at h
    show (if x.1 = a then l ++ (a, v) :: post else x :: isDel (l ++ (a, v) :: post) a) = _
    rw [if_neg (fun e => h.1 e.symm), ih (by simpa using h.2)]
    rfl
theorem erase_at {α : Type} : ∀ (l1 : List α) (e : α) (l2 : List α), (l1 ++ e :: l2).eraseIdx l1.length = l1 ++ l2
  | [], e, l2 => rfl
  | x :: l1, e, l2 => by
    show x :: (l1 ++ e :: l2).eraseIdx l1.length = _
    rw [erase_at l1 e l2]; rfl
/-- a lock let go -/
theorem TabIs.del {w : World} {t mb : Nat} {c : Int} {has : List (Int × Int)} {ws : List Int} (h : TabIs w t mb c has ws) {a : Int} (hm : a ∈ has.map (·.1)) :
    ∃ w', (Builtin.delete_ #[72, 47] 0 #[.map (some mb), .int .u64 a]).run Try.prog w = .ok (.tuple #[]) w' ∧ TabIs w' t mb c (isDel has a) ws ∧ Only [mb] w w' := by
  obtain ⟨es, clock, h1, h2, h3b⟩ := h.mp
  have hO : ∀ o, Only [mb] w (w.putObj mb o) := fun o => (Only.refl _ _).putObj (Or.inl (by simp)) o
  obtain ⟨pre, u, post, p1, p2, p3, p4⟩ := is_split hm
  obtain ⟨es1, es2, e, q1, q2, q3, q4, q5, q6⟩ := findNow_at h2 p1 p2
  refine ⟨_, run_delU w 72 47 3 47 0 Try.underlying72 Try.underlying47 mb es clock h1 a es1.length (.int .i64 u) q6, ⟨(hO _).blk h.blk (by simpa using h.ne), ⟨_, clock, putObj_at h1, ?_, ?_⟩, h.pos, h.len, h.ne⟩, hO _⟩
  · rw [Array.toList_eraseIdxIfInBounds, q1, erase_at, p1, isDel_split p2]
    simp [q2, q3]
  · rw [Array.toList_eraseIdxIfInBounds, q1, erase_at]
    rw [q1] at h3b
    have hsub : (es1 ++ es2).Sublist (es1 ++ e :: es2) := List.Sublist.append (List.Sublist.refl _) (List.sublist_cons_self _ _)
    exact ⟨h3b.1.sublist (hsub.map _), fun b hb => h3b.2 b ((hsub.map _).subset hb)⟩

def relHas (has : List (Int × Int)) (i a : Int) : List (Int × Int) := if a ∈ has.map (·.1) ∧ isGet has a = i then isDel has a else has
def relWs (ws : List Int) (k : Nat) (a : Int) : List Int := if ws[k]? = some a then ws.set k 0 else ws

set_option maxRecDepth 100000 in
set_option maxHeartbeats 1000000 in
theorem Release_l (t mb : Nat) (c : Int) (has : List (Int × Int)) (ws : List Int) (k : Nat) (a : Int) (w : World) (h : TabIs w t mb c has ws) (hi : (k : Int) < c) :
    Calls Try.prog 90 #[.pointer (some ⟨t, 0, none⟩), .int .i64 (k : Int), .int .u64 a] w fun e w' => (∃ r, e = .returned r) ∧ TabIs w' t mb c (relHas has k a) (relWs ws k a) ∧ Only [t, mb] w w' := by
  have hT := client_l t c k h.pos w h.cc
  rw [decide_eq_true (show 0 ≤ (k : Int) ∧ (k : Int) < c from ⟨by omega, hi⟩)] at hT
  have HT := hid hT
  have hk64 : k < 64 := by have := h.pos; omega
  obtain ⟨x, hx⟩ : ∃ x, ws[k]? = some x := ⟨_, List.getElem?_eq_getElem (by rw [h.len]; exact hk64)⟩
  have y0 : w.cell? ⟨t, 2 + k, none⟩ = some (.int .u64 x) := h.cw hx
  have yf := h.blk.frozen (2 + k)
  have i0 : (0 : Int) ≤ (k : Int) := by omega
  have i1 : (k : Int) < 64 := by omega
  -- behind the first half
  have rest : ∀ w1, TabIs w1 t mb c has (relWs ws k a) → Only [t] w w1 →
      Hid (Calls Try.prog 115 #[.pointer (some ⟨t, 0, none⟩), .int .u64 a] w1 fun e w' => e = .returned (.tuple #[.int .i64 (isGet has a), .bool (decide (a ∈ has.map (·.1)))]) ∧ w1 = w') := fun w1 h1 _ => Holder_l t mb c has _ a w1 h1
  have HREST := hid rest
  have H := hid h
  clear hT rest
  by_cases hxa : x = a
  · have e1 : (x == a) = true := by simp [hxa]
    have hws : relWs ws k a = ws.set k 0 := by unfold relWs; rw [if_pos (by rw [hx, hxa])]
    have hw1 := h.want k 0
    rw [← hws] at hw1
    have HW := hid hw1
    have HR := hid (HREST.out _ hw1.1 hw1.2)
    have ym := hw1.1.cm
    by_cases hm : a ∈ has.map (·.1) ∧ isGet has a = (k : Int)
    · obtain ⟨w2, hdel, hd1, hd2⟩ := hw1.1.del hm.1
      have hh : Hid (relHas has k a = isDel has a) := by show _ = _; unfold relHas; rw [if_pos hm]
      have e2 : decide (a ∈ has.map (·.1)) = true := decide_eq_true hm.1
      have e3 : (isGet has a != (k : Int)) = false := by simp [hm.2]
      have HD := hid hd1
      have HD2 := hid (hd2)
      rw [e2] at HR
      clear hw1 hd1 hd2 hm hws hxa hx h
      go_enter Try.func90, Try.ntmps90
      go_wp2_with fail
      refine (HT.out).mono ?_
      rintro e w1 ⟨rfl, rfl⟩
      go_wp2_with fail
      refine HR.out.out.mono ?_
      rintro e w3 ⟨rfl, rfl⟩
      go_wp2
      go_ret
      refine ⟨⟨_, rfl⟩, ?_, (HW.out.2.mono (by simp)).trans (HD2.out.mono (by simp)) (fun y hy => Or.inl hy)⟩
      rw [hh.out]; exact HD.out
    · have hh : Hid (relHas has k a = has) := by show _ = _; unfold relHas; rw [if_neg hm]
      by_cases h2 : a ∈ has.map (·.1)
      · have e2 : decide (a ∈ has.map (·.1)) = true := decide_eq_true h2
        have e3 : (isGet has a != (k : Int)) = true := by simp; exact fun e => hm ⟨h2, e⟩
        rw [e2] at HR
        clear hw1 hm hws hxa hx h h2
        go_enter Try.func90, Try.ntmps90
        go_wp2_with fail
        refine (HT.out).mono ?_
        rintro e w1 ⟨rfl, rfl⟩
        go_wp2_with fail
        refine HR.out.out.mono ?_
        rintro e w3 ⟨rfl, rfl⟩
        go_wp2
        go_ret
        exact ⟨⟨_, rfl⟩, by rw [hh.out]; exact HW.out.1, HW.out.2.mono (by simp)⟩
      · have e2 : decide (a ∈ has.map (·.1)) = false := decide_eq_false h2
        rw [e2] at HR
        clear hw1 hm hws hxa hx h h2
        go_enter Try.func90, Try.ntmps90
        go_wp2_with fail
        refine (HT.out).mono ?_
        rintro e w1 ⟨rfl, rfl⟩
        go_wp2_with fail
        refine HR.out.out.mono ?_
        rintro e w3 ⟨rfl, rfl⟩
        go_wp2
        go_ret
        exact ⟨⟨_, rfl⟩, by rw [hh.out]; exact HW.out.1, HW.out.2.mono (by simp)⟩
  · have e1 : (x == a) = false := by simp [hxa]
    have hws : relWs ws k a = ws := by unfold relWs; rw [if_neg (by rw [hx]; simpa using hxa)]
    have hw1 : TabIs w t mb c has (relWs ws k a) := by rw [hws]; exact h
    have HW := hid hw1
    have HR := hid (HREST.out _ hw1 (Only.refl _ _))
    have ym := hw1.cm
    by_cases hm : a ∈ has.map (·.1) ∧ isGet has a = (k : Int)
    · obtain ⟨w2, hdel, hd1, hd2⟩ := hw1.del hm.1
      have hh : Hid (relHas has k a = isDel has a) := by show _ = _; unfold relHas; rw [if_pos hm]
      have e2 : decide (a ∈ has.map (·.1)) = true := decide_eq_true hm.1
      have e3 : (isGet has a != (k : Int)) = false := by simp [hm.2]
      have HD := hid hd1
      have HD2 := hid (hd2)
      rw [e2] at HR
      clear hw1 hd1 hd2 hm hws hxa hx h
      go_enter Try.func90, Try.ntmps90
      go_wp2_with fail
      refine (HT.out).mono ?_
      rintro e w1 ⟨rfl, rfl⟩
      go_wp2_with fail
      refine HR.out.out.mono ?_
      rintro e w3 ⟨rfl, rfl⟩
      go_wp2
      go_ret
      refine ⟨⟨_, rfl⟩, ?_, HD2.out.mono (by simp)⟩
      rw [hh.out]; exact HD.out
    · have hh : Hid (relHas has k a = has) := by show _ = _; unfold relHas; rw [if_neg hm]
      by_cases h2 : a ∈ has.map (·.1)
      · have e2 : decide (a ∈ has.map (·.1)) = true := decide_eq_true h2
        have e3 : (isGet has a != (k : Int)) = true := by simp; exact fun e => hm ⟨h2, e⟩
        rw [e2] at HR
        clear hw1 hm hws hxa hx h h2
        go_enter Try.func90, Try.ntmps90
        go_wp2_with fail
        refine (HT.out).mono ?_
        rintro e w1 ⟨rfl, rfl⟩
        go_wp2_with fail
        refine HR.out.out.mono ?_
        rintro e w3 ⟨rfl, rfl⟩
        go_wp2
        go_ret
        exact ⟨⟨_, rfl⟩, by rw [hh.out]; exact HW.out, Only.refl _ _⟩
      · have e2 : decide (a ∈ has.map (·.1)) = false := decide_eq_false h2
        rw [e2] at HR
        clear hw1 hm hws hxa hx h h2
        go_enter Try.func90, Try.ntmps90
        go_wp2_with fail
        refine (HT.out).mono ?_
        rintro e w1 ⟨rfl, rfl⟩
        go_wp2_with fail
        refine HR.out.out.mono ?_
        rintro e w3 ⟨rfl, rfl⟩
        go_wp2
        go_ret
        exact ⟨⟨_, rfl⟩, by rw [hh.out]; exact HW.out, Only.refl _ _⟩

end Go.Proofs.Ytbkaemajjaiklaa

/- Locks: one tried for. -/
namespace Go.Proofs.Ytbkaemajjaiklaa
open Go.RowKit
set_option linter.unusedVariables false
set_option linter.unusedSimpArgs false

theorem arr_findIdx (es : Array MapEntry) (p : MapEntry → Bool) : es.findIdx? p = es.toList.findIdx? p := by
  cases es; simp
theorem findIdx_born {l1 l2 : List MapEntry} {e : MapEntry} (h : ((l1 ++ e :: l2).map (·.born)).Nodup) (p : MapEntry → Bool) (hp : ∀ x, p x = ((x.born : Int) == (e.born : Int))) : (l1 ++ e :: l2).findIdx? p = some l1.length := by
  rw [List.findIdx?_append]
  have h1 : l1.findIdx? p = none := by
    rw [List.findIdx?_eq_none_iff]
    intro x hx
    rw [hp, beq_eq_false_iff_ne]
    intro he
    rw [List.map_append, List.map_cons, List.nodup_append] at h
    exact h.2.2 x.born (List.mem_map_of_mem hx) e.born (List.mem_cons_self ..) (by omega)
  rw [h1]
  simp [List.findIdx?_cons, hp]
/-- a lock's entry made or found, and stored into: two steps -/
theorem TabIs.entry {w : World} {t mb : Nat} {c : Int} {has : List (Int × Int)} {ws : List Int} (h : TabIs w t mb c has ws) (a v : Int) :
    ∃ z st w1 w2, (Instr.mapEntry 72 (.map (some mb)) (.int .u64 a)).run Try.prog w = .ok (.tuple #[z, st]) w1 ∧ Only [mb] w w1 ∧
      (Instr.entryStore 72 (.map (some mb)) st (.int .i64 v)).run Try.prog w1 = .ok () w2 ∧ TabIs w2 t mb c (isSet has a v) ws ∧ Only [mb] w w2 ∧ Blk w1 t 95 (tabC c mb ws) := by
  obtain ⟨es, clock, h1, h2, h3b⟩ := h.mp
  have hO : ∀ o, Only [mb] w (w.putObj mb o) := fun o => (Only.refl _ _).putObj (Or.inl (by simp)) o
  have hO2 : ∀ o o', Only [mb] w ((w.putObj mb o).putObj mb o') := fun o o' => (hO o).putObj (Or.inl (by simp)) o'
  have hS : ∀ o es' c', es'.toList.map viewE = (isSet has a v).map isV → BornOK es'.toList c' → TabIs ((w.putObj mb o).putObj mb (.map es' c')) t mb c (isSet has a v) ws := fun o es' c' he hb =>
    ⟨(hO2 _ _).blk h.blk (by simpa using h.ne), ⟨es', c', putObj_at (putObj_at h1), he, hb⟩, h.pos, h.len, h.ne⟩
  have hck := fun b => run_check_u64 (P := Try.prog) w 47 Try.underlying47 a b 9999
  have hg : (getObj mb).run Try.prog w = .ok (.map es clock) w := by simp [getObj, Sem.run, h1]
  have hset : ∀ o, (setObj mb o).run Try.prog w = .ok () (w.putObj mb o) := fun o => by simp [setObj, Sem.run, h1, World.putObj]
  have hstore : ∀ (es' : Array MapEntry) (c' : Nat) (i : Nat) (bo : Nat), es'.findIdx? (fun e => (e.born : Int) == (bo : Int)) = some i →
      (Instr.entryStore 72 (.map (some mb)) (goInt bo) (.int .i64 v)).run Try.prog (w.putObj mb (.map es' c')) = .ok () ((w.putObj mb (.map es' c')).putObj mb (.map (es'.modify i fun e => { e with val := .int .i64 v }) c')) := by
    intro es' c' i bo hf
    have hat := putObj_at (o' := .map es' c') h1
    generalize w.putObj mb (.map es' c') = W at hat ⊢
    have hg2 : (getObj mb).run Try.prog W = .ok (.map es' c') W := by simp [getObj, Sem.run, hat]
    have hs2 : ∀ o, (setObj mb o).run Try.prog W = .ok () (W.putObj mb o) := fun o => by simp [setObj, Sem.run, hat, World.putObj]
    unfold Instr.entryStore
    simp only [Sem.run_bind, hg2, Result.andThen]
    simp [goInt, asInt, asIntOf, hf, hs2, Result.andThen]
  by_cases hm : a ∈ has.map (·.1)
  · obtain ⟨pre, u, post, p1, p2, p3, p4⟩ := is_split hm
    obtain ⟨es1, es2, e, q1, q2, q3, q4, q5, q6⟩ := findNow_at h2 p1 p2
    have hat : es[es1.length]? = some e := by rw [← Array.getElem?_toList, q1]; simp
    have hmod : es.modify es1.length (fun e => { e with key := .int .u64 a }) = es := by
      apply Array.ext'
      rw [Array.toList_modify, q1, modify_mid, ← q4]
    have hfk := run_findU (P := Try.prog) (w := w) Try.underlying47 q6
    have hst : (Instr.keyThatStays (.int .u64 a) (.int .u64 a)).run Try.prog w = .ok (.int .u64 a) w := by
      unfold Instr.keyThatStays
      simp [Instr.sameBits]
    have hf : es.findIdx? (fun x => (x.born : Int) == (e.born : Int)) = some es1.length := by
      rw [arr_findIdx, q1]
      refine findIdx_born (by rw [q1] at h3b; exact h3b.1) _ (fun x => rfl)
    refine ⟨.int .i64 u, goInt e.born, _, _, ?_, hO (.map es clock), hstore es clock es1.length e.born hf, hS _ _ _ ?_ ?_, hO2 _ _, (hO _).blk h.blk (by simpa using h.ne)⟩
    · unfold Instr.mapEntry
      simp only [Sem.run_bind, run_underlying Try.underlying72, hg, hck, hfk, hat, Option.map_some, Option.getD_some, q4, hst, hmod, hset, Result.andThen]
      rfl
    · rw [Array.toList_modify, q1, p4 v, modify_mid]
      simp [q2, q3, viewE, isV, q4]
    · rw [Array.toList_modify, q1, modify_mid]
      rw [q1] at h3b
      unfold BornOK at h3b ⊢
      simpa using h3b
  · have hfk := run_findU (P := Try.prog) (w := w) Try.underlying47 (findNow_not h2 hm)
    have hzv : (zeroValue 3).run Try.prog w = .ok (.int .i64 0) w := by
      obtain ⟨i, hi, hz, _⟩ := info_parts (show (Try.prog.info? 3).map (fun i => (i.zero, i.size, i.bytes)) = some (some (.int .i64 0), 1, 8) by kernel_rfl)
      simp [zeroValue, typeInfo, program, Sem.run, hi, hz]
    have hbp := born_push h3b { key := .int .u64 a, val := .int .i64 0, born := clock } rfl
    have hf : (es.push { key := .int .u64 a, val := .int .i64 0, born := clock }).findIdx? (fun x => (x.born : Int) == (clock : Int)) = some es.size := by
      rw [arr_findIdx, Array.toList_push]
      have := findIdx_born (l1 := es.toList) (l2 := []) (e := { key := .int .u64 a, val := .int .i64 0, born := clock }) hbp.1 (fun x => (x.born : Int) == (clock : Int)) (fun x => rfl)
      simpa using this
    refine ⟨.int .i64 0, goInt clock, _, _, ?_, hO (.map (es.push { key := .int .u64 a, val := .int .i64 0, born := clock }) (clock + 1)), hstore _ _ es.size clock hf, hS _ _ _ ?_ ?_, hO2 _ _, (hO _).blk h.blk (by simpa using h.ne)⟩
    · unfold Instr.mapEntry
      simp only [Sem.run_bind, run_underlying Try.underlying72, hg, hck, hfk, hzv, hset, Result.andThen]
      rfl
    · rw [Array.toList_modify, Array.toList_push, ← Array.length_toList, modify_mid, isSet_not hm v, List.map_append, List.map_append, h2]
      rfl
    · rw [Array.toList_modify, Array.toList_push, ← Array.length_toList, modify_mid]
      unfold BornOK at hbp ⊢
      simpa using hbp

end Go.Proofs.Ytbkaemajjaiklaa

/- Locks: Try. -/
namespace Go.Proofs.Ytbkaemajjaiklaa
open Go.RowKit
set_option linter.unusedVariables false
set_option linter.unusedSimpArgs false

def tryHas (has : List (Int × Int)) (k a : Int) : List (Int × Int) := if a = 0 then has else if a ∈ has.map (·.1) ∧ isGet has a ≠ k then has else isSet has a k
def tryWs (has : List (Int × Int)) (ws : List Int) (k : Nat) (a : Int) : List Int := if a = 0 then ws else if a ∈ has.map (·.1) ∧ isGet has a ≠ (k : Int) then ws.set k a else ws.set k 0

set_option maxRecDepth 100000 in
set_option maxHeartbeats 2000000 in
theorem Try_l (t mb : Nat) (c : Int) (has : List (Int × Int)) (ws : List Int) (k : Nat) (a : Int) (w : World) (h : TabIs w t mb c has ws) (hi : (k : Int) < c) :
    Calls Try.prog 22 #[.pointer (some ⟨t, 0, none⟩), .int .i64 (k : Int), .int .u64 a] w fun e w' => (∃ r, e = .returned r) ∧ TabIs w' t mb c (tryHas has k a) (tryWs has ws k a) ∧ Only [t, mb] w w' := by
  have hT := client_l t c k h.pos w h.cc
  rw [decide_eq_true (show 0 ≤ (k : Int) ∧ (k : Int) < c from ⟨by omega, hi⟩)] at hT
  have HT := hid hT
  have hk64 : k < 64 := by have := h.pos; omega
  have i0 : (0 : Int) ≤ (k : Int) := by omega
  have i1 : (k : Int) < 64 := by omega
  clear hT
  by_cases ha : a = 0
  · have e0 : (a == 0) = true := by simp [ha]
    have h1 : Hid (tryHas has k a = has) := by show _ = _; unfold tryHas; rw [if_pos ha]
    have h2 : Hid (tryWs has ws k a = ws) := by show _ = _; unfold tryWs; rw [if_pos ha]
    have H := hid h
    clear h ha
    go_enter Try.func22, Try.ntmps22
    go_wp2_with fail
    refine (HT.out).mono ?_
    rintro e w1 ⟨rfl, rfl⟩
    go_wp2
    go_ret
    exact ⟨⟨_, rfl⟩, by rw [h1.out, h2.out]; exact H.out, Only.refl _ _⟩
  · have e0 : (a == 0) = false := by simp [ha]
    have ym := h.cm
    have hlook := h.look a
    by_cases hm : a ∈ has.map (·.1) ∧ isGet has a ≠ (k : Int)
    · have h1 : Hid (tryHas has k a = has) := by show _ = _; unfold tryHas; rw [if_neg ha, if_pos hm]
      have h2 : Hid (tryWs has ws k a = ws.set k a) := by show _ = _; unfold tryWs; rw [if_neg ha, if_pos hm]
      have e1 : decide (a ∈ has.map (·.1)) = true := decide_eq_true hm.1
      rw [e1] at hlook
      have e2 : (isGet has a != (k : Int)) = true := by simp [hm.2]
      obtain ⟨x, hx⟩ : ∃ x, ws[k]? = some x := ⟨_, List.getElem?_eq_getElem (by rw [h.len]; exact hk64)⟩
      have y0 : w.cell? ⟨t, 2 + k, none⟩ = some (.int .u64 x) := h.cw hx
      have yf := h.blk.frozen (2 + k)
      have HW := hid (h.want k a)
      clear h ha hm e1 hx
      go_enter Try.func22, Try.ntmps22
      go_wp2_with fail
      refine (HT.out).mono ?_
      rintro e w1 ⟨rfl, rfl⟩
      go_wp2
      go_ret
      exact ⟨⟨_, rfl⟩, by rw [h1.out, h2.out]; exact HW.out.1, HW.out.2.mono (by simp)⟩
    · have h1 : Hid (tryHas has k a = isSet has a k) := by show _ = _; unfold tryHas; rw [if_neg ha, if_neg hm]
      have h2 : Hid (tryWs has ws k a = ws.set k 0) := by show _ = _; unfold tryWs; rw [if_neg ha, if_neg hm]
      have hd : TabIs w.drew t mb c has ws := h.only ((Only.refl [] w).drew) (by simp) (by simp)
      obtain ⟨z, st, w1, w2, hr1, ho1, hr2, ht2, ho2, hb1⟩ := hd.entry a k
      have ymd := hd.cm
      obtain ⟨x, hx⟩ : ∃ x, ws[k]? = some x := ⟨_, List.getElem?_eq_getElem (by rw [h.len]; exact hk64)⟩
      have y2 : w2.cell? ⟨t, 2 + k, none⟩ = some (.int .u64 x) := ht2.cw hx
      have yf2 := ht2.blk.frozen (2 + k)
      have HW := hid (ht2.want k 0)
      have HO := hid (((Only.refl [t, mb] w).drew).trans ho2 (fun y hy => Or.inl (by simp at hy; simp [hy])))
      by_cases hm2 : a ∈ has.map (·.1)
      · have e1 : decide (a ∈ has.map (·.1)) = true := decide_eq_true hm2
        rw [e1] at hlook
        have e2 : (isGet has a != (k : Int)) = false := by
          rw [bne_eq_false_iff_eq]
          exact Classical.byContradiction fun hne => hm ⟨hm2, hne⟩
        clear h ha hm hm2 e1 hx hd ho1 ht2 ho2 hb1
        go_enter Try.func22, Try.ntmps22
        go_wp2_with fail
        refine (HT.out).mono ?_
        rintro e w1 ⟨rfl, rfl⟩
        go_wp2
        go_region
        all_goals
          try go_simp
          try simp only [Act.put, List.setIfInBounds_toArray, List.set_cons_zero, List.set_cons_succ]
          go_wp2
          go_ret
          exact ⟨⟨_, rfl⟩, by rw [h1.out, h2.out]; exact HW.out.1, HO.out.setCell (Or.inl (by simp)) _⟩
      · have e1 : decide (a ∈ has.map (·.1)) = false := decide_eq_false hm2
        rw [e1] at hlook
        clear h ha hm hm2 e1 hx hd ho1 ht2 ho2 hb1
        go_enter Try.func22, Try.ntmps22
        go_wp2_with fail
        refine (HT.out).mono ?_
        rintro e w1 ⟨rfl, rfl⟩
        go_wp2
        go_region
        all_goals
          try go_simp
          try simp only [Act.put, List.setIfInBounds_toArray, List.set_cons_zero, List.set_cons_succ]
          go_wp2
          go_ret
          exact ⟨⟨_, rfl⟩, by rw [h1.out, h2.out]; exact HW.out.1, HO.out.setCell (Or.inl (by simp)) _⟩

end Go.Proofs.Ytbkaemajjaiklaa
