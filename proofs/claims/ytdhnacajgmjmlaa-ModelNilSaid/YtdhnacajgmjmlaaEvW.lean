/- An abstract machine, part 10d: maps gone through, entries turned in place. Of no program. -/
import Derived.Test.YtdhnacajgmjmlaaEvV
import Derived.Test.YtdhnacajgmjmlaaEvX
namespace Go.Proofs.Ytdhnacajgmjmlaa.Ev
open Go.RowKit
noncomputable section
set_option linter.unusedVariables false
set_option linter.unusedSimpArgs false

section
variable {P : Program} {E : Env} {w0 w : World} {φ : Phi} {h : H} {tm : Tr AV} {ρ : Operand → Value} {o : Oper} {v : AV}

/-! ### range, next, entry -/
def hrange (E : Env) (tm : Tr AV) (h : H) (t : TypeId) (x : Operand) : Option R1 := opt (E.ty.get t) fun ti => match ti.und with
  | .map _ _ => opt (aev tm x) fun a => (match a with
    | .nilmap => addB h (.iter none 0 [] 0) fun id h' => some (.val (.ptr id 0) h')
    | .map b => opt (blk h b) fun ob => (match ob with
      | .map _ clock => addB h (.iter (some b) clock [] clock) fun id h' => some (.val (.ptr id 0) h')
      | _ => none)
    | _ => none)
  | _ => none
theorem hrange_sound (hE : EnvOK P E) (hr : HR w0 φ h w) {t : TypeId} {x : Operand} {r : R1} (ho : Ops φ tm ρ o.op.operands.toList) (hop : o.op = .range t x) (hv : hrange E tm h t x = some r) : RS P w0 w φ h ρ o r := by
  obtain ⟨ti, h1, h2⟩ := opt_some hv
  have hun := (hE.ty _ _ h1).run_und w
  cases hu : ti.und <;> rw [hu] at h2 hun <;> first | (cases h2; done) | skip
  obtain ⟨a, h3, h4⟩ := opt_some h2
  have hx := ho.at (x := x) (by simp [hop, Op.operands]) h3
  cases a <;> first | (cases h4; done) | skip
  · simp only [addB_eq] at h4
    injection h4 with h4; subst h4
    have hx : ρ x = .map none := hx
    have hadd := hr.add (o := .iter none 0 [] 0) (o' := .mapIter none 0 #[] 0) (sz := 0) ⟨none, rfl, rfl⟩
    refine ⟨.value (.pointer (some ⟨w.heap.size, 0, none⟩)), _, _, _, ?_, rfl, ⟨w.heap.size, 0, Phi.more_same _ _ _ _, rfl⟩, hadd.1, hadd.2⟩
    simp [execOp, hop, Instr.range, hun, hx, newObj, Sem.run]
  · rename_i b
    obtain ⟨ob, h5, h6⟩ := opt_some h4
    cases ob <;> first | (cases h6; done) | skip
    rename_i es clock
    simp only [addB_eq] at h6
    injection h6 with h6; subst h6
    obtain ⟨k, sz, hb, hx⟩ := hx
    obtain ⟨o', hk, es', ho', hm⟩ := hr.obj _ _ k sz h5 hb
    subst ho'
    have hadd := hr.add (o := .iter (some b) clock [] clock) (o' := .mapIter (some k) clock #[] clock) (sz := 0) ⟨some k, rfl, k, sz, hr.sub _ _ _ _ hb, rfl⟩
    refine ⟨.value (.pointer (some ⟨w.heap.size, 0, none⟩)), _, _, _, ?_, rfl, ⟨w.heap.size, 0, Phi.more_same _ _ _ _, rfl⟩, hadd.1, hadd.2⟩
    simp [execOp, hop, Instr.range, hun, hx, getObj, newObj, Sem.run, hk]
def notIn (b : Nat) : List Nat → Bool
  | [] => true
  | x :: xs => ifB (Nat.beq x b) false (notIn b xs)
def leftA (seen : List Nat) : List (AV × AV × Nat) → List (AV × AV × Nat)
  | [] => []
  | e :: es => ifB (notIn e.2.2 seen) (e :: leftA seen es) (leftA seen es)
def allGe (st : Nat) : List (AV × AV × Nat) → Bool
  | [] => true
  | e :: es => ifB (Nat.ble st e.2.2) (allGe st es) false
def oddA (seen : List Nat) (es : List (AV × AV × Nat)) (st : Nat) : Bool := match seen with
  | [] => false
  | _ => match es with
    | [] => false
    | es => allGe st es
def nextK (h : H) (r b since : Nat) (seen : List Nat) (clock : Nat) (l : List (AV × AV × Nat)) : Option R1 := match l with
  | [] => some (.val (.tup [.bool false]) h)
  | [e] => ifB (Nat.blt e.2.2 since) (putB h r (.iter (some b) since (seen ++ [e.2.2]) clock) fun h' => some (.val (.tup [.bool true, e.1, e.2.1]) h')) none
  | _ => none
def hnext (tm : Tr AV) (h : H) (it : Operand) (isString : Bool) : Option R1 := ifB isString none (opt (aev tm it) fun a => match a with
  | .ptr r o => ifB (Nat.beq o 0) (opt (blk h r) fun ob => (match ob with
    | .iter m since seen st => (match m with
      | none => some (.val (.tup [.bool false]) h)
      | some b => opt (blk h b) fun ob => (match ob with
        | .map es clock => ifB (oddA seen es st) none (nextK h r b since seen clock (leftA seen es))
        | _ => none))
    | _ => none)) none
  | _ => none)
theorem notIn_spec (b : Nat) : ∀ l : List Nat, notIn b l = !l.contains b
  | [] => rfl
  | x :: xs => by
    have e : notIn b (x :: xs) = ifB (Nat.beq x b) false (notIn b xs) := rfl
    rw [e, ifB_eq, notIn_spec b xs, List.contains_cons]
    by_cases hx : x = b
    · subst hx; simp
    · have h1 : ¬ (Nat.beq x b = true) := fun hc => hx (Nat.eq_of_beq_eq_true hc)
      rw [if_neg h1]
      have h2 : (b == x) = false := by simpa using fun hc : b = x => hx hc.symm
      rw [h2]; rfl
theorem left_rel (seen : List Nat) : ∀ {es : List (AV × AV × Nat)} {l : List MapEntry}, mrel φ es l → mrel φ (leftA seen es) (l.filter fun e => !seen.toArray.contains e.born)
  | [], l, hm => by have hm : l = [] := hm; subst hm; exact rfl
  | e :: es, l, ⟨k', v', l', e1, h1, h2, h3⟩ => by
    subst e1
    have ih := left_rel seen h3
    have e2 : leftA seen (e :: es) = ifB (notIn e.2.2 seen) (e :: leftA seen es) (leftA seen es) := rfl
    rw [e2, ifB_eq, notIn_spec, List.filter_cons]
    have e3 : (seen.toArray.contains e.2.2) = seen.contains e.2.2 := by simp
    simp only [e3]
    split
    · exact ⟨k', v', _, rfl, h1, h2, ih⟩
    · exact ih
theorem allGe_rel (st : Nat) : ∀ {es : List (AV × AV × Nat)} {l : List MapEntry}, mrel φ es l → allGe st es = l.all (fun e => decide (e.born ≥ st))
  | [], l, hm => by have hm : l = [] := hm; subst hm; rfl
  | e :: es, l, ⟨k', v', l', e1, h1, h2, h3⟩ => by
    subst e1
    have ih := allGe_rel st h3
    have e2 : allGe st (e :: es) = ifB (Nat.ble st e.2.2) (allGe st es) false := rfl
    rw [e2, ifB_eq, List.all_cons, ih]
    by_cases hq : st ≤ e.2.2
    · rw [if_pos (Nat.ble_eq_true_of_le hq)]; simp [hq]
    · rw [if_neg (fun hc => hq (Nat.le_of_ble_eq_true hc))]; simp [hq]
theorem hnext_sound (hE : EnvOK P E) (hr : HR w0 φ h w) {it : Operand} {isS : Bool} {r : R1} (ho : Ops φ tm ρ o.op.operands.toList) (hop : o.op = .next it isS) (hv : hnext tm h it isS = some r) : RS P w0 w φ h ρ o r := by
  unfold hnext at hv
  cases isS with
  | true => cases hv
  | false =>
    obtain ⟨a, h1, h2⟩ := opt_some (show opt (aev tm it) _ = some r from hv)
    have hx := ho.at (x := it) (by simp [hop, Op.operands]) h1
    cases a <;> first | (cases h2; done) | skip
    rename_i rb off
    obtain ⟨h3, h4⟩ := ifB_some h2
    have h3 := Nat.eq_of_beq_eq_true h3
    subst h3
    obtain ⟨ob, h5, h6⟩ := opt_some h4
    cases ob <;> first | (cases h6; done) | skip
    rename_i m since seen st
    obtain ⟨kr, szr, hbr, hx⟩ := hx
    obtain ⟨o', hkr, m', ho', hm'⟩ := hr.obj _ _ kr szr h5 hbr
    subst ho'
    have hgr : (getObj kr).run P w = .ok (.mapIter m' since seen.toArray st) w := by simp [getObj, Sem.run, hkr]
    have over : ∀ n : Next, (execOp ρ o).run P w = .ok n w → n = .value (.tuple #[.bool false]) → RS P w0 w φ h ρ o (.val (.tup [.bool false]) h) := by
      intro n hn he
      exact ⟨n, .tuple #[.bool false], w, φ, hn, by rw [he]; rfl, ⟨_, rfl, _, _, rfl, rfl, rfl⟩, hr, Ext.refl _ _⟩
    cases m with
    | none =>
      have hm' : m' = none := hm'
      subst hm'
      injection h6 with h6; subst h6
      refine over _ ?_ rfl
      simp [execOp, hop, Instr.next, hx, hgr]
    | some b =>
      obtain ⟨ob, h7, h8⟩ := opt_some h6
      cases ob <;> first | (cases h8; done) | skip
      rename_i es clock
      obtain ⟨k, sz, hb, hm'⟩ := hm'
      subst hm'
      obtain ⟨o', hk, es', ho', hes⟩ := hr.obj _ _ k sz h7 hb
      subst ho'
      have hgm : (getObj k).run P w = .ok (.map es' clock) w := by simp [getObj, Sem.run, hk]
      have hodd : oddA seen es st = false := by
        cases hq : oddA seen es st
        · rfl
        · have h8' : ifB (oddA seen es st) none (nextK h rb b since seen clock (leftA seen es)) = some r := h8
          rw [hq] at h8'; cases h8'
      have h8 : nextK h rb b since seen clock (leftA seen es) = some r := by
        have h8' : ifB (oddA seen es st) none (nextK h rb b since seen clock (leftA seen es)) = some r := h8
        rw [hodd] at h8'; exact h8'
      have hg : (!seen.toArray.isEmpty && !es'.isEmpty && es'.all (fun e => decide (e.born ≥ st))) = false := by
        have hall := allGe_rel (φ := φ) st hes
        have hlen := mrel_length hes
        rw [← Array.all_toList, ← hall]
        cases seen with
        | nil => simp
        | cons s0 seen =>
          cases es with
          | nil =>
            have : es'.toList = [] := List.eq_nil_of_length_eq_zero (by rw [← hlen]; rfl)
            have : es' = #[] := by simpa using this
            simp [this]
          | cons e0 es =>
            have : allGe st (e0 :: es) = false := hodd
            rw [this]; simp
      have hleft := left_rel (φ := φ) seen hes
      have hfl : (es'.filter fun e => !seen.toArray.contains e.born).toList = es'.toList.filter fun e => !seen.toArray.contains e.born := by simp
      rw [← hfl] at hleft
      generalize hL : (es'.filter fun e => !seen.toArray.contains e.born) = L at hleft
      have hrunN : ∀ (u : Sem Value), (Instr.next (ρ it) false o.type) = u → (execOp ρ o) = (do pure (.value (← u))) := by
        intro u hu
        simp [execOp, hop, hu]
      cases hle : leftA seen es with
      | nil =>
        rw [hle] at h8 hleft
        injection h8 with h8; subst h8
        have hL0 : L = #[] := by have : L.toList = [] := hleft; simpa using this
        refine over _ ?_ rfl
        have hn : (Instr.next (ρ it) false o.type).run P w = .ok (.tuple #[.bool false]) w := by
          simp only [Instr.next, hx, Sem.run_bind, hgr, Result.andThen_ok, hgm, hg, Bool.false_eq_true, if_false, hL, hL0]
          simp [choose, Sem.run, Question.forced]
        simp [execOp, hop, hn]
      | cons e rest =>
        cases rest with
        | cons e2 rest => rw [hle] at h8; cases h8
        | nil =>
          rw [hle] at h8 hleft
          obtain ⟨h9, h10⟩ := ifB_some (show ifB (Nat.blt e.2.2 since) (putB h rb (.iter (some b) since (seen ++ [e.2.2]) clock) fun h' => some (.val (.tup [.bool true, e.1, e.2.1]) h')) none = some r from h8)
          have h9 := blt_iff.1 h9
          rw [putB_eq] at h10
          injection h10 with h10; subst h10
          obtain ⟨k', v', l', e1, q1, q2, q3⟩ := hleft
          have q3 : l' = [] := q3
          subst q3
          have hL1 : L = #[{ key := k', val := v', born := e.2.2 }] := by
            rw [← Array.toArray_toList (xs := L), e1]
          have hltr : kr < w.heap.size := (hr.lt _ _ _ hbr).1
          have hput := hr.turn (w' := { w with heap := w.heap.setIfInBounds kr (.mapIter (some k) since (seen ++ [e.2.2]).toArray clock) }) hbr (by rw [show h.t.get rb = _ from h5]; simp) (o := .iter (some b) since (seen ++ [e.2.2]) clock) (o' := .mapIter (some k) since (seen ++ [e.2.2]).toArray clock) ⟨some k, by simp, k, sz, hb, rfl⟩ rfl rfl rfl (by simp) (by simp [hltr]) (fun i hi => by simp [Array.getElem?_setIfInBounds_ne (Ne.symm hi)])
          have hset : (setObj kr (.mapIter (some k) since (seen ++ [e.2.2]).toArray clock)).run P w = .ok () { w with heap := w.heap.setIfInBounds kr (.mapIter (some k) since (seen ++ [e.2.2]).toArray clock) } := by simp [setObj, Sem.run, hkr]
          have hn : (Instr.next (ρ it) false o.type).run P w = .ok (.tuple #[.bool true, k', v']) { w with heap := w.heap.setIfInBounds kr (.mapIter (some k) since (seen ++ [e.2.2]).toArray clock) } := by
            have hge : ¬ (e.2.2 ≥ since) := by omega
            simp only [Instr.next, hx, Sem.run_bind, hgr, Result.andThen_ok, hgm, hg, Bool.false_eq_true, if_false, hL, hL1]
            simp [choose, Sem.run, Question.forced, h9, hge, Array.filter, hset]
          refine ⟨.value (.tuple #[.bool true, k', v']), _, _, φ, ?_, rfl, ⟨_, rfl, _, _, rfl, rfl, _, _, rfl, q1, _, _, rfl, q2, rfl⟩, hput.1, hput.2⟩
          simp [execOp, hop, hn]
/-! ### entry -/
def lastA : List Nat → Option Nat
  | [] => none
  | x :: xs => match xs with | [] => some x | xs => lastA xs
def bornA (n : Nat) : List (AV × AV × Nat) → Option (AV × AV × Nat)
  | [] => none
  | e :: es => ifB (Nat.beq e.2.2 n) (some e) (bornA n es)
def ventry (tm : Tr AV) (h : H) (it : Operand) : Option AV := opt (aev tm it) fun a => match a with
  | .ptr r o => ifB (Nat.beq o 0) (opt (blk h r) fun ob => (match ob with
    | .iter m _ seen st => (match m with
      | none => none
      | some b => opt (lastA seen) fun n => opt (blk h b) fun ob => (match ob with
        | .map es clock => ifB (Nat.beq clock st) (opt (bornA n es) fun e => some (.tup [e.1, e.2.1])) none
        | _ => none))
    | _ => none)) none
  | _ => none
theorem lastA_eq : ∀ l : List Nat, lastA l = l.getLast?
  | [] => rfl
  | [x] => rfl
  | x :: y :: xs => by
    have e : lastA (x :: y :: xs) = lastA (y :: xs) := rfl
    rw [e, lastA_eq (y :: xs)]; simp
theorem born_rel {n : Nat} : ∀ {es : List (AV × AV × Nat)} {l : List MapEntry} {e : AV × AV × Nat}, mrel φ es l → bornA n es = some e → ∃ e', l.find? (·.born == n) = some e' ∧ vr φ e.1 e'.key ∧ vr φ e.2.1 e'.val
  | [], l, e, hm, h => by cases h
  | x :: es, l, e, ⟨k', v', l', e1, h1, h2, h3⟩, h => by
    subst e1
    have h' : ifB (Nat.beq x.2.2 n) (some x) (bornA n es) = some e := h
    rw [ifB_eq] at h'
    rw [List.find?_cons]
    split at h'
    · rename_i hb
      injection h' with h'; subst h'
      have : (x.2.2 == n) = true := by simpa using Nat.eq_of_beq_eq_true hb
      simp only [this]
      exact ⟨_, rfl, h1, h2⟩
    · rename_i hb
      have : (x.2.2 == n) = false := by
        simp
        intro hc
        exact hb (by rw [hc]; exact Nat.beq_refl _)
      simp only [this]
      exact born_rel h3 h'
theorem ventry_sound (hr : HR w0 φ h w) {it : Operand} (ho : Ops φ tm ρ o.op.operands.toList) (hop : o.op = .entry it) (hv : ventry tm h it = some v) : VS P w φ ρ o v := by
  obtain ⟨a, h1, h2⟩ := opt_some hv
  have hx := ho.at (x := it) (by simp [hop, Op.operands]) h1
  cases a <;> first | (cases h2; done) | skip
  rename_i rb off
  obtain ⟨h3, h4⟩ := ifB_some h2
  have h3 := Nat.eq_of_beq_eq_true h3
  subst h3
  obtain ⟨ob, h5, h6⟩ := opt_some h4
  cases ob <;> first | (cases h6; done) | skip
  rename_i m since seen st
  obtain ⟨kr, szr, hbr, hx⟩ := hx
  obtain ⟨o', hkr, m', ho', hm'⟩ := hr.obj _ _ kr szr h5 hbr
  subst ho'
  cases m with
  | none => cases h6
  | some b =>
    obtain ⟨n, h7, h8⟩ := opt_some h6
    obtain ⟨ob, h9, h10⟩ := opt_some h8
    cases ob <;> first | (cases h10; done) | skip
    rename_i es clock
    obtain ⟨h11, h12⟩ := ifB_some h10
    obtain ⟨e, h13, h14⟩ := opt_some h12
    injection h14 with h14; subst h14
    have h11 := Nat.eq_of_beq_eq_true h11
    subst h11
    obtain ⟨k, sz, hb, hm'⟩ := hm'
    subst hm'
    obtain ⟨o', hk, es', ho', hes⟩ := hr.obj _ _ k sz h9 hb
    subst ho'
    obtain ⟨e', q1, q2, q3⟩ := born_rel hes h13
    have hgr : (getObj kr).run P w = .ok (.mapIter (some k) since seen.toArray clock) w := by simp [getObj, Sem.run, hkr]
    have hgm : (getObj k).run P w = .ok (.map es' clock) w := by simp [getObj, Sem.run, hk]
    have hback : seen.toArray.back? = some n := by rw [← h7, lastA_eq]; simp
    have hfind : es'.find? (·.born == n) = some e' := by rw [← Array.find?_toList]; exact q1
    refine ⟨.tuple #[e'.key, e'.val], ?_, _, rfl, _, _, rfl, q2, _, _, rfl, q3, rfl⟩
    have hn : (Instr.entry (ρ it)).run P w = .ok (.tuple #[e'.key, e'.val]) w := by
      simp only [Instr.entry, hx, Sem.run_bind, hgr, Result.andThen_ok, hback, hgm]
      simp [hfind]
    simp [execOp, hop, hn]

/-! ### an entry turned in place -/
def bornAt : List (AV × AV × Nat) → Nat → Option Nat
  | [], _ => none
  | e :: es, i => match i with | 0 => some e.2.2 | i + 1 => bornAt es i
def hmapEntry (E : Env) (tm : Tr AV) (h : H) (t : TypeId) (m k : Operand) : Option R1 := opt (E.ty.get t) fun ti => match ti.und with
  | .map kt vt => opt (E.ty.get kt) fun tk => opt (E.ty.get vt) fun tv => opt (aev tm m) fun a => opt (aev tm k) fun key => (match a with
    | .map b => opt (blk h b) fun ob => (match ob with
      | .map es clock => ifB (keyTy tk.und key) (opt (mfind key es 0) fun r => match r with
        | none => putB h b (.map (es ++ [(key, tv.zero, clock)]) (Nat.succ clock)) fun h' => some (.val (.tup [tv.zero, .int .i64 (.ofNat clock)]) h')
        | some (i, v) => opt (bornAt es i) fun n => putB h b (.map (mset es i key v) clock) fun h' => some (.val (.tup [v, .int .i64 (.ofNat n)]) h')) none
      | _ => none)
    | _ => none)
  | _ => none
theorem mfind_at {key : AV} : ∀ {es : List (AV × AV × Nat)} {l : List MapEntry} {i j n : Nat} {x : AV}, mrel φ es l → mfind key es i = some (some (j, x)) → bornAt es (j - i) = some n → i ≤ j ∧ ∃ e, l[j - i]? = some e ∧ e.born = n ∧ vr φ x e.val
  | [], l, i, j, n, x, hm, h, hb => by injection h with h; cases h
  | (k, y, b) :: es, l, i, j, n, x, hm, h, hb => by
    obtain ⟨k', y', l', rfl, h1, h2, h3⟩ := hm
    obtain ⟨q, h4, h5⟩ := opt_some h
    cases q
    · have hlt : i + 1 ≤ j := by
        clear hb
        have : ∀ {es : List (AV × AV × Nat)} {a : Nat}, mfind key es a = some (some (j, x)) → a ≤ j := by
          intro es
          induction es with
          | nil => intro a h; injection h with h; cases h
          | cons e es ih =>
            intro a h
            obtain ⟨q, g1, g2⟩ := opt_some h
            cases q
            · have := ih (a := a + 1) g2; omega
            · injection g2 with g2; injection g2 with g2; injection g2 with g2 _; omega
        exact this h5
      have e1 : j - i = (j - (i + 1)) + 1 := by omega
      rw [e1] at hb
      obtain ⟨g1, e, g2, g3, g4⟩ := mfind_at h3 h5 hb
      refine ⟨by omega, e, ?_, g3, g4⟩
      rw [e1, List.getElem?_cons_succ]; exact g2
    · injection h5 with h5; injection h5 with h5; injection h5 with h5 h6; subst h5 h6
      rw [Nat.sub_self] at hb
      injection hb with hb
      exact ⟨Nat.le_refl _, _, by simp; rfl, hb, h2⟩
theorem hmapEntry_sound (hE : EnvOK P E) (hr : HR w0 φ h w) {t : TypeId} {m k : Operand} {r : R1} (ho : Ops φ tm ρ o.op.operands.toList) (hop : o.op = .mapEntry t m k) (hv : hmapEntry E tm h t m k = some r) : RS P w0 w φ h ρ o r := by
  obtain ⟨ti, h1, h2⟩ := opt_some hv
  have hun := (hE.ty _ _ h1).run_und w
  cases hu : ti.und <;> rw [hu] at h2 hun <;> first | (cases h2; done) | skip
  rename_i kt vt
  obtain ⟨tk, h3, h4⟩ := opt_some h2
  obtain ⟨tv, h3b, h4⟩ := opt_some h4
  obtain ⟨a, h5, h6⟩ := opt_some h4
  obtain ⟨key, h7, h10⟩ := opt_some h6
  cases a <;> first | (cases h10; done) | skip
  rename_i b
  obtain ⟨ob, h11, h12⟩ := opt_some h10
  cases ob <;> first | (cases h12; done) | skip
  rename_i es clock
  obtain ⟨h13, h14⟩ := ifB_some h12
  obtain ⟨q, h15, h16⟩ := opt_some h14
  obtain ⟨kb, sz, hb, hm⟩ := ho.at (x := m) (by simp [hop, Op.operands]) h5
  have hk := ho.at (x := k) (by simp [hop, Op.operands]) h7
  obtain ⟨o', hkb, es', ho', hes⟩ := hr.obj _ _ kb sz h11 hb
  subst ho'
  have htk := hE.ty _ _ h3
  obtain ⟨z, z1, z2⟩ := (hE.ty _ _ h3b).run_zero
  have hck := checkKey_ok (φ := φ) htk h13 hk false w
  have hkun := htk.run_und w
  have hg : (getObj kb).run P w = .ok (.map es' clock) w := by simp [getObj, Sem.run, hkb]
  have hlt : kb < w.heap.size := (hr.lt _ _ _ hb).1
  have hset : ∀ (es2' : Array MapEntry) (cl : Nat), (setObj kb (.map es2' cl)).run P w = .ok () { w with heap := w.heap.setIfInBounds kb (.map es2' cl) } := fun es2' cl => by simp [setObj, Sem.run, hkb]
  have fin : ∀ (es2 : List (AV × AV × Nat)) (es2' : Array MapEntry) (cl : Nat) (u : AV) (u' : Value), mrel φ es2 es2'.toList → vr φ u u' → (Instr.mapEntry t (ρ m) (ρ k)).run P w = .ok u' { w with heap := w.heap.setIfInBounds kb (.map es2' cl) } → RS P w0 w φ h ρ o (.val u (h.put b (some (.map es2 cl)))) := by
    intro es2 es2' cl u u' hrel hu' hrun
    have hput := hr.turn (w' := { w with heap := w.heap.setIfInBounds kb (.map es2' cl) }) hb (by rw [show h.t.get b = _ from h11]; simp) (o := .map es2 cl) (o' := .map es2' cl) ⟨es2', rfl, hrel⟩ rfl rfl rfl (by simp) (by simp [hlt]) (fun j hj => by simp [Array.getElem?_setIfInBounds_ne (Ne.symm hj)])
    exact ⟨.value u', u', _, φ, by simp [execOp, hop, hrun], rfl, hu', hput.1, hput.2⟩
  rcases mfind_sound h13 hk hes h15 with ⟨rfl, hf⟩ | ⟨j, y, y', rfl, hf, hy⟩
  · simp only [putB_eq] at h16
    injection h16 with h16; subst h16
    refine fin _ (es'.push { key := ρ k, val := z, born := clock }) _ _ (.tuple #[z, goInt clock]) (by rw [Array.toList_push]; exact mrel_append hes ⟨_, _, _, rfl, hk, z2 φ, rfl⟩) ⟨_, rfl, _, _, rfl, z2 φ, _, _, rfl, rfl, rfl⟩ ?_
    have hfk : (Instr.findKey kt (ρ k) es'.toList).run P w = .ok none w := by unfold Instr.findKey; simp [hkun, hf]
    unfold Instr.mapEntry
    simp only [Sem.run_bind, hun, Result.andThen_ok, hm, hg, hck, hfk, z1, hset, Sem.run_pure]
  · obtain ⟨n, h17, h18⟩ := opt_some h16
    rw [putB_eq] at h18
    injection h18 with h18; subst h18
    obtain ⟨_, e, he1, he2⟩ := mfind_key hk h13 hes h15
    obtain ⟨_, e2, he3, he4, he5⟩ := mfind_at hes h15 (by rw [Nat.sub_zero]; exact h17)
    rw [Nat.sub_zero] at he1 he3
    rw [he1] at he3; injection he3 with he3; subst he3
    have hat : es'[j]? = some e := by simpa using he1
    have hyv : y' = e.val := by
      have : ∀ {l : List MapEntry} {i : Nat}, Instr.findNow tk.und (ρ k) l i = some (some (j, y')) → i ≤ j ∧ ∃ e, l[j - i]? = some e ∧ e.val = y' := by
        intro l
        induction l with
        | nil => intro i hh; simp [Instr.findNow] at hh
        | cons x l ih =>
          intro i hh
          unfold Instr.findNow at hh
          split at hh
          · injection hh with hh; injection hh with hh; injection hh with hh1 hh2
            subst hh1
            exact ⟨Nat.le_refl _, x, by simp, hh2⟩
          · obtain ⟨g1, e3, g2, g3⟩ := ih hh
            exact ⟨by omega, e3, by rw [show j - i = (j - (i + 1)) + 1 by omega, List.getElem?_cons_succ]; exact g2, g3⟩
          · cases hh
      obtain ⟨_, e3, g2, g3⟩ := this hf
      rw [Nat.sub_zero, he1] at g2
      injection g2 with g2
      rw [← g3, g2]
    refine fin _ (es'.modify j fun e => { e with key := ρ k }) _ _ (.tuple #[y', goInt n]) ?_ ⟨_, rfl, _, _, rfl, hy, _, _, rfl, rfl, rfl⟩ ?_
    · have h1 := mset_rel (φ := φ) hk hy j hes
      have h2 : (es'.toList.modify j fun e => { e with key := ρ k, val := y' }) = es'.toList.modify j fun e => { e with key := ρ k } := by
        apply List.ext_getElem?
        intro i
        rw [List.getElem?_modify, List.getElem?_modify]
        by_cases hij : j = i
        · subst hij
          rw [he1]
          simp [hyv]
        · simp [hij]
      rw [Array.toList_modify, ← h2]; exact h1
    · have hfk : (Instr.findKey kt (ρ k) es'.toList).run P w = .ok (some (j, y')) w := by unfold Instr.findKey; simp [hkun, hf]
      have hst : (Instr.keyThatStays e.key (ρ k)).run P w = .ok (ρ k) w := by
        rw [he2]
        unfold Instr.keyThatStays
        rw [if_pos (sameBits_self h13 hk)]
        rfl
      unfold Instr.mapEntry
      simp only [Sem.run_bind, hun, Result.andThen_ok, hm, hg, hck, hfk, hst, hset, Sem.run_pure, hat, Option.map_some, Option.getD_some, he4]
def bornSet (n : Nat) (v : AV) : List (AV × AV × Nat) → Option (List (AV × AV × Nat))
  | [] => none
  | e :: es => ifB (Nat.beq e.2.2 n) (some ((e.1, v, e.2.2) :: es)) (opt (bornSet n v es) fun r => some (e :: r))
def hentryStore (tm : Tr AV) (h : H) (m st x : Operand) : Option R1 := opt (aev tm m) fun a => opt (aev tm st) fun n => opt (aev tm x) fun v => (match a with
  | .map b => (match n with
    | .int _ (.ofNat n) => opt (blk h b) fun ob => (match ob with
      | .map es clock => opt (bornSet n v es) fun es' => putB h b (.map es' clock) fun h' => some (.val .undef h')
      | _ => none)
    | _ => none)
  | _ => none)
theorem bornSet_rel {n : Nat} {v : AV} {v' : Value} (hv : vr φ v v') : ∀ {es es2 : List (AV × AV × Nat)} {l : List MapEntry}, mrel φ es l → bornSet n v es = some es2 → ∃ i, l.findIdx? (fun e => (e.born : Int) == (n : Int)) = some i ∧ mrel φ es2 (l.modify i fun e => { e with val := v' })
  | [], es2, l, hm, h => by cases h
  | x :: es, es2, l, ⟨k', y', l', e1, h1, h2, h3⟩, h => by
    subst e1
    have h' : ifB (Nat.beq x.2.2 n) (some ((x.1, v, x.2.2) :: es)) (opt (bornSet n v es) fun r => some (x :: r)) = some es2 := h
    rw [ifB_eq] at h'
    rw [List.findIdx?_cons]
    split at h'
    · rename_i hb
      injection h' with h'; subst h'
      have hbn : x.2.2 = n := Nat.eq_of_beq_eq_true hb
      have : ((x.2.2 : Int) == (n : Int)) = true := by rw [hbn]; simp
      simp only [this, if_true]
      exact ⟨0, rfl, k', v', l', by simp, h1, hv, h3⟩
    · rename_i hb
      have hne : ((x.2.2 : Int) == (n : Int)) = false := by
        simp
        intro hc
        have hc : x.2.2 = n := by omega
        exact hb (by rw [hc]; exact Nat.beq_refl _)
      simp only [hne, Bool.false_eq_true, if_false]
      obtain ⟨r, h4, h5⟩ := opt_some h'
      injection h5 with h5; subst h5
      obtain ⟨i, g1, g2⟩ := bornSet_rel hv h3 h4
      exact ⟨i + 1, by simp [g1], k', y', l'.modify i fun e => { e with val := v' }, by simp, h1, h2, g2⟩
theorem hentryStore_sound (hr : HR w0 φ h w) {t : TypeId} {m st x : Operand} {r : R1} (ho : Ops φ tm ρ o.op.operands.toList) (hop : o.op = .entryStore t m st x) (hv : hentryStore tm h m st x = some r) : RS P w0 w φ h ρ o r := by
  obtain ⟨a, h1, h2⟩ := opt_some hv
  obtain ⟨nv, h3, h4⟩ := opt_some h2
  obtain ⟨v, h5, h6⟩ := opt_some h4
  cases a <;> first | (cases h6; done) | skip
  rename_i b
  cases nv <;> first | (cases h6; done) | skip
  rename_i kk n
  cases n <;> first | (cases h6; done) | skip
  rename_i n
  obtain ⟨ob, h7, h8⟩ := opt_some h6
  cases ob <;> first | (cases h8; done) | skip
  rename_i es clock
  obtain ⟨es2, h9, h10⟩ := opt_some h8
  rw [putB_eq] at h10
  injection h10 with h10; subst h10
  obtain ⟨kb, sz, hb, hm⟩ := ho.at (x := m) (by simp [hop, Op.operands]) h1
  have hst : ρ st = .int kk (n : Int) := ho.at (x := st) (by simp [hop, Op.operands]) h3
  have hx := ho.at (x := x) (by simp [hop, Op.operands]) h5
  obtain ⟨o', hkb, es', ho', hes⟩ := hr.obj _ _ kb sz h7 hb
  subst ho'
  have hlt : kb < w.heap.size := (hr.lt _ _ _ hb).1
  obtain ⟨i, q1, q2⟩ := bornSet_rel hx hes h9
  have hput := hr.turn (w' := { w with heap := w.heap.setIfInBounds kb (.map (es'.modify i fun e => { e with val := ρ x }) clock) }) hb (by rw [show h.t.get b = _ from h7]; simp) (o := .map es2 clock) (o' := .map (es'.modify i fun e => { e with val := ρ x }) clock) ⟨_, rfl, by rw [Array.toList_modify]; exact q2⟩ rfl rfl rfl (by simp) (by simp [hlt]) (fun j hj => by simp [Array.getElem?_setIfInBounds_ne (Ne.symm hj)])
  have hidx : es'.findIdx? (fun e => (e.born : Int) == (n : Int)) = some i := by
    have e := List.findIdx?_toArray (fun e : MapEntry => (e.born : Int) == (n : Int)) es'.toList
    rw [Array.toArray_toList] at e
    rw [e]; exact q1
  refine ⟨.skip, Go.undef, _, φ, ?_, rfl, vr_undef, hput.1, hput.2⟩
  have hg : (getObj kb).run P w = .ok (.map es' clock) w := by simp [getObj, Sem.run, hkb]
  have hset : (setObj kb (.map (es'.modify i fun e => { e with val := ρ x }) clock)).run P w = .ok () { w with heap := w.heap.setIfInBounds kb (.map (es'.modify i fun e => { e with val := ρ x }) clock) } := by simp [setObj, Sem.run, hkb]
  have hrun : (Instr.entryStore t (ρ m) (ρ st) (ρ x)).run P w = .ok () { w with heap := w.heap.setIfInBounds kb (.map (es'.modify i fun e => { e with val := ρ x }) clock) } := by
    unfold Instr.entryStore
    simp only [hm, hst, Sem.run_bind, hg, Result.andThen_ok, asInt, asIntOf, Sem.run_pure, hidx, hset]
  simp [execOp, hop, hrun]

/-! ### the rest of what only looks -/
def vopX (E : Env) (tm : Tr AV) (h : H) (op : Op) : Option AV := match op with
  | .typeAssert x _ t ok => vassert E tm x t ok
  | .entry it => ventry tm h it
  | .binOp op t x y yt => (match vop E tm h (.binOp op t x y yt) with | some v => some v | none => veq E tm op t x y)
  | op => vop E tm h op
theorem vopX_sound (hE : EnvOK P E) (hr : HR w0 φ h w) (ho : Ops φ tm ρ o.op.operands.toList) (hv : vopX E tm h o.op = some v) : VS P w φ ρ o v := by
  cases hop : o.op
  case typeAssert => rw [hop] at hv; exact vassert_sound hE ho hop hv
  case entry => rw [hop] at hv; exact ventry_sound hr ho hop hv
  case binOp op t x y yt =>
    rw [hop] at hv
    cases hq : vop E tm h (.binOp op t x y yt) with
    | some u =>
      have hv : some u = some v := by rw [← hv]; simp [vopX, hq]
      exact vop_sound hE hr ho (by rw [hop, hq, hv])
    | none => exact veq_sound hE ho hop (by rw [← hv]; simp [vopX, hq])
  all_goals (refine vop_sound hE hr ho ?_; rw [hop] at hv ⊢; exact hv)
end

end
end Go.Proofs.Ytdhnacajgmjmlaa.Ev
