/- An abstract machine, part 10c: copy, delete, maps gone through. Of no program. -/
import Derived.Test.YtdhnacajgmjmlaaEvU
namespace Go.Proofs.Ytdhnacajgmjmlaa.Ev
open Go.RowKit
noncomputable section
set_option linter.unusedVariables false
set_option linter.unusedSimpArgs false

section
variable {P : Program} {E : Env} {w0 w : World} {φ : Phi} {h : H} {tm : Tr AV} {ρ : Operand → Value} {o : Oper} {v : AV}

/-! ### copy -/
def lenA (a : AV) : Option Nat := match a with | .nilsl => some 0 | .slz _ => some 0 | .sl _ _ n _ => some n | _ => none
def cellsA (h : H) (x : AV) (n : Nat) : Option (List AV) := match n with
  | 0 => some []
  | n => match x with
    | .sl b o _ _ => opt (blk h b) fun ob => (match ob with
      | .cells c m _ d _ => ifB (Nat.ble (Nat.add o n) m) (some (ldN c d n o)) none
      | _ => none)
    | _ => none
theorem lenA_sound {a : AV} {u : Value} {n : Nat} (ha : vr φ a u) (h : lenA a = some n) : (Builtin.lenOf u).run P w = .ok n w ∧ ∃ base cap, u = .slice base n cap ∧ (0 < n → ∃ b o c, a = .sl b o n c) := by
  cases a <;> first | (cases h; done) | skip
  · injection h with h; subst h
    have ha : u = .slice none 0 0 := ha
    subst ha
    exact ⟨by simp [Builtin.lenOf], _, _, rfl, fun h => by omega⟩
  · injection h with h; subst h
    obtain ⟨k, sz, c', hb, ha, _⟩ := ha
    subst ha
    exact ⟨by simp [Builtin.lenOf], _, _, rfl, fun _ => ⟨_, _, _, rfl⟩⟩
  · injection h with h; subst h
    obtain ⟨k, sz, o, c', hb, ha⟩ := ha
    subst ha
    exact ⟨by simp [Builtin.lenOf], _, _, rfl, fun h => by omega⟩
theorem cellsA_sound (hr : HR w0 φ h w) {x : AV} {base : Option Addr} {n m cap size : Nat} {cs : List AV} (hx : vr φ x (.slice base m cap)) (hs : cellsA h x (n * size) = some cs) :
    ∃ vs : Array Value, (Builtin.firstCells size n (.slice base m cap)).run P w = .ok vs w ∧ vrs φ cs vs.toList := by
  unfold cellsA at hs
  split at hs
  · rename_i e
    injection hs with hs; subst hs
    refine ⟨#[], ?_, rfl⟩
    cases base <;> simp [Builtin.firstCells, e, loadCells, loadCellsFrom]
  · cases x <;> first | (cases hs; done) | skip
    rename_i b o m' c
    obtain ⟨ob, h1, h2⟩ := opt_some hs
    cases ob <;> first | (cases h2; done) | skip
    rename_i cc mm e d ex
    obtain ⟨h3, h4⟩ := ifB_some h2
    injection h4 with h4; subst h4
    obtain ⟨k, sz, c', hb, hx, _⟩ := hx
    injection hx with hx1 hx2 hx3
    subst hx1
    obtain ⟨vs, g1, g2⟩ := load_sound (P := P) hr hb h1 o (n * size) (Nat.le_of_ble_eq_true h3)
    exact ⟨vs, by simp [Builtin.firstCells, g1], g2⟩
def hcopy (E : Env) (tm : Tr AV) (h : H) (c : Call) : Option R1 := match c.args.toList with
  | [d, s] => (match c.argTypes.toList with
    | t :: t2 :: _ => opt (E.ty.get t) fun ti => (match ti.und with
      | .slice el => opt (E.ty.get el) fun te => opt (aev tm d) fun dv => opt (aev tm s) fun sv => opt (lenA dv) fun dn => opt (lenA sv) fun sn => seqN (Nat.min sn dn) fun n => opt (cellsA h sv (Nat.mul n te.size)) fun cs => match cs with
        | [] => some (.val (.int .i64 (.ofNat n)) h)
        | cs => (match dv with
          | .sl b o _ _ => opt (blk h b) fun ob => (match ob with
            | .cells cc m e d ex => ifB (allOne cs) (ifB (Nat.ble (Nat.add o cs.length) m) (stK d cs cc o fun c' => putB h b (.cells c' m e d ex) fun h' => some (.val (.int .i64 (.ofNat n)) h')) none) none
            | _ => none)
          | _ => none)
      | _ => none)
    | _ => none)
  | _ => none
def stRun (P : Program) (db : Option Addr) (vs : List Value) (w w' : World) : Prop := match db with | some a => (storeCells a vs).run P w = .ok () w' | none => w' = w
theorem hcopy_sound (hE : EnvOK P E) (hr : HR w0 φ h w) {c : Call} {r : R1} (ho : Ops φ tm ρ o.op.operands.toList) (hop : o.op = .call c) (hcal : c.callee = .builtin .copy) (hv : hcopy E tm h c = some r) : RS P w0 w φ h ρ o r := by
  unfold hcopy at hv
  split at hv <;> first | (cases hv; done) | skip
  rename_i d s hargs
  split at hv <;> first | (cases hv; done) | skip
  rename_i t t2 tr htys
  obtain ⟨ti, h1, h2⟩ := opt_some hv
  split at h2 <;> first | (cases h2; done) | skip
  rename_i el hu
  obtain ⟨te, h3, h4⟩ := opt_some h2
  obtain ⟨dv, h5, h6⟩ := opt_some h4
  obtain ⟨sv, h7, h8⟩ := opt_some h6
  obtain ⟨dn, h9, h10⟩ := opt_some h8
  obtain ⟨sn, h11, h12⟩ := opt_some h10
  simp only [seqN_eq] at h12
  obtain ⟨cs, h13, h14⟩ := opt_some h12
  clear hv h2 h4 h6 h8 h10 h12
  have hdv := ho d (call_mem hop (by rw [hargs]; simp)) _ h5
  have hsv := ho s (call_mem hop (by rw [hargs]; simp)) _ h7
  obtain ⟨ld, db, dc, hde, hdsl⟩ := lenA_sound (P := P) (w := w) hdv h9
  obtain ⟨ls, sb, sc, hse, _⟩ := lenA_sound (P := P) (w := w) hsv h11
  rw [hse] at hsv
  obtain ⟨vs, g1, g2⟩ := cellsA_sound (P := P) hr hsv h13
  have hun := (hE.ty _ _ h1).run_und w
  rw [hu] at hun
  have hsz := (hE.ty _ _ h3).run_size w
  have hrun : ∀ w', stRun P db vs.toList w w' → (execOp ρ o).run P w = .ok (.value (goInt (Nat.min sn dn))) w' := by
    intro w' hst
    obtain ⟨callee, args, tys⟩ := c
    have e1 : args = #[d, s] := by rw [← Array.toArray_toList (xs := args), hargs]
    have e2 : tys = (t :: t2 :: tr).toArray := by rw [← Array.toArray_toList (xs := tys), htys]
    simp only at hcal
    subst e1 e2 hcal
    have hcp : (Builtin.copy_ (t :: t2 :: tr).toArray o.type #[ρ d, ρ s]).run P w = .ok (goInt (Nat.min sn dn)) w' := by
      unfold Builtin.copy_
      simp only [List.getElem?_toArray, List.getElem?_cons_zero, List.getElem?_cons_succ, Sem.run_bind, hun, Result.andThen_ok, Sem.run_pure, hsz, hde, hse]
      rw [hse] at ls
      simp only [ls, Result.andThen_ok]
      cases db with
      | none => have hst : w' = w := hst; rw [hst]; simp [hsz, g1]
      | some a => have hst : (storeCells a vs.toList).run P w = .ok () w' := hst; simp [hsz, g1, hst]
    simp [execOp, hop, resolve, invoke, builtin, hcp]
  have hnil : vs.toList = [] → stRun P db vs.toList w w := by
    intro he
    rw [he]
    cases db <;> simp [stRun, storeCells]
  cases cs with
  | nil =>
    injection h14 with h14; subst h14
    exact ⟨.value (goInt (Nat.min sn dn)), _, w, φ, hrun w (hnil g2), rfl, rfl, hr, Ext.refl _ _⟩
  | cons c0 cs =>
    cases dv <;> first | (cases h14; done) | skip
    rename_i b off dn' cap
    obtain ⟨ob, h15, h16⟩ := opt_some h14
    cases ob <;> first | (cases h16; done) | skip
    rename_i cc m e dd ex
    obtain ⟨h17, h18⟩ := ifB_some h16
    obtain ⟨h19, h20⟩ := ifB_some h18
    rw [stK_eq, putB_eq] at h20
    injection h20 with h20; subst h20
    obtain ⟨k, sz, c', hb, hx, _⟩ := hdv
    obtain ⟨w', s1, s2, s3⟩ := store_sound (P := P) hr hb h15 (o := off) g2 h17 (Nat.le_of_ble_eq_true h19)
    rw [hde] at hx
    injection hx with hx _ _
    exact ⟨.value (goInt (Nat.min sn dn)), _, w', φ, hrun w' (by rw [hx]; exact s1), rfl, rfl, s2, s3⟩

/-! ### delete -/
def merase : List (AV × AV × Nat) → Nat → List (AV × AV × Nat)
  | [], _ => []
  | _ :: es, 0 => es
  | e :: es, i + 1 => e :: merase es i
theorem merase_rel : ∀ {es : List (AV × AV × Nat)} {l : List MapEntry} (i : Nat), mrel φ es l → mrel φ (merase es i) (l.eraseIdx i)
  | [], l, i, h => by have h : l = [] := h; subst h; simp [merase, mrel]
  | e :: es, l, 0, ⟨k', v', l', e1, h1, h2, h3⟩ => by subst e1; exact h3
  | e :: es, l, i + 1, ⟨k', v', l', e1, h1, h2, h3⟩ => by subst e1; exact ⟨k', v', l'.eraseIdx i, by simp, h1, h2, merase_rel i h3⟩
def hdelete (E : Env) (tm : Tr AV) (h : H) (c : Call) : Option R1 := match c.args.toList with
  | [m, k] => (match c.argTypes.toList with
    | t :: _ => opt (E.ty.get t) fun ti => (match ti.und with
      | .map kt _ => opt (E.ty.get kt) fun tk => opt (aev tm m) fun mv => opt (aev tm k) fun key => ifB (keyTy tk.und key) (match mv with
        | .nilmap => some (.val .undef h)
        | .map b => opt (blk h b) fun ob => (match ob with
          | .map es clock => opt (mfind key es 0) fun r => match r with
            | none => some (.val .undef h)
            | some (i, _) => putB h b (.map (merase es i) clock) fun h' => some (.val .undef h')
          | _ => none)
        | _ => none) none
      | _ => none)
    | _ => none)
  | _ => none
theorem setSelf {w : World} {k : Nat} {o : Obj} (h : w.heap[k]? = some o) : { w with heap := w.heap.setIfInBounds k o } = w := by
  have hlt : k < w.heap.size := (Array.getElem?_eq_some_iff.1 h).1
  have hv : w.heap[k] = o := (Array.getElem?_eq_some_iff.1 h).2
  have : w.heap.setIfInBounds k o = w.heap := by
    apply Array.ext_getElem?
    intro i
    by_cases e : k = i
    · subst e; simp [hlt, hv]
    · rw [Array.getElem?_setIfInBounds_ne e]
  rw [this]
theorem hdelete_sound (hE : EnvOK P E) (hr : HR w0 φ h w) {c : Call} {r : R1} (ho : Ops φ tm ρ o.op.operands.toList) (hop : o.op = .call c) (hcal : c.callee = .builtin .delete) (hv : hdelete E tm h c = some r) : RS P w0 w φ h ρ o r := by
  unfold hdelete at hv
  split at hv <;> first | (cases hv; done) | skip
  rename_i m k hargs
  split at hv <;> first | (cases hv; done) | skip
  rename_i t tr htys
  obtain ⟨ti, h1, h2⟩ := opt_some hv
  split at h2 <;> first | (cases h2; done) | skip
  rename_i kt vt hu
  obtain ⟨tk, h3, h4⟩ := opt_some h2
  obtain ⟨mv, h5, h6⟩ := opt_some h4
  obtain ⟨key, h7, h8⟩ := opt_some h6
  obtain ⟨h9, h10⟩ := ifB_some h8
  have hmv := ho m (call_mem hop (by rw [hargs]; simp)) _ h5
  have hk := ho k (call_mem hop (by rw [hargs]; simp)) _ h7
  have htk := hE.ty _ _ h3
  have hck := fun b => checkKey_ok (φ := φ) htk h9 hk b w
  have hun := (hE.ty _ _ h1).run_und w
  rw [hu] at hun
  have hkun := htk.run_und w
  have fin : ∀ w', (Builtin.delete_ (t :: tr).toArray o.type #[ρ m, ρ k]).run P w = .ok (.tuple #[]) w' → (execOp ρ o).run P w = .ok (.value (.tuple #[])) w' := by
    intro w' hd
    obtain ⟨callee, args, tys⟩ := c
    have e1 : args = #[m, k] := by rw [← Array.toArray_toList (xs := args), hargs]
    have e2 : tys = (t :: tr).toArray := by rw [← Array.toArray_toList (xs := tys), htys]
    simp only at hcal
    subst e1 e2 hcal
    simp [execOp, hop, resolve, invoke, builtin, hd]
  cases mv <;> first | (cases h10; done) | skip
  · injection h10 with h10; subst h10
    have hmv : ρ m = .map none := hmv
    refine ⟨.value (.tuple #[]), _, w, φ, fin w ?_, rfl, vr_undef, hr, Ext.refl _ _⟩
    unfold Builtin.delete_
    simp only [List.getElem?_toArray, List.getElem?_cons_zero, List.getElem?_cons_succ, Sem.run_bind, hun, Result.andThen_ok, Sem.run_pure, hmv, hck]
  · rename_i b
    obtain ⟨ob, h11, h12⟩ := opt_some h10
    cases ob <;> first | (cases h12; done) | skip
    rename_i es clock
    obtain ⟨q, h13, h14⟩ := opt_some h12
    obtain ⟨kb, sz, hb, hmv⟩ := hmv
    obtain ⟨o', hkb, es', ho', hes⟩ := hr.obj _ _ kb sz h11 hb
    subst ho'
    have hlt : kb < w.heap.size := (hr.lt _ _ _ hb).1
    have hg : (getObj kb).run P w = .ok (.map es' clock) w := by simp [getObj, Sem.run, hkb]
    have hset : ∀ (es2' : Array MapEntry) (cl : Nat), (setObj kb (.map es2' cl)).run P w = .ok () { w with heap := w.heap.setIfInBounds kb (.map es2' cl) } := fun es2' cl => by simp [setObj, Sem.run, hkb]
    rcases mfind_sound h9 hk hes h13 with ⟨rfl, hf⟩ | ⟨j, y, y', rfl, hf, hy⟩
    · injection h14 with h14; subst h14
      have hfk : (Instr.findKey kt (ρ k) es'.toList).run P w = .ok none w := by unfold Instr.findKey; simp [hkun, hf]
      refine ⟨.value (.tuple #[]), _, w, φ, fin w ?_, rfl, vr_undef, hr, Ext.refl _ _⟩
      unfold Builtin.delete_
      simp only [List.getElem?_toArray, List.getElem?_cons_zero, List.getElem?_cons_succ, Sem.run_bind, hun, Result.andThen_ok, Sem.run_pure, hmv, hg, hck, hfk, hset, setSelf hkb]
    · simp only [putB_eq] at h14
      injection h14 with h14; subst h14
      have hfk : (Instr.findKey kt (ρ k) es'.toList).run P w = .ok (some (j, y')) w := by unfold Instr.findKey; simp [hkun, hf]
      have hput := hr.turn (w' := { w with heap := w.heap.setIfInBounds kb (.map (es'.eraseIdxIfInBounds j) clock) }) hb (by rw [show h.t.get b = _ from h11]; simp) (o := .map (merase es j) clock) (o' := .map (es'.eraseIdxIfInBounds j) clock) ⟨_, rfl, by
        have : (es'.eraseIdxIfInBounds j).toList = es'.toList.eraseIdx j := by
          unfold Array.eraseIdxIfInBounds
          split
          · simp
          · rw [List.eraseIdx_of_length_le (by simpa using (by omega : es'.size ≤ j))]
        rw [this]; exact merase_rel j hes⟩ rfl rfl rfl (by simp) (by simp [hlt]) (fun i hi => by simp [Array.getElem?_setIfInBounds_ne (Ne.symm hi)])
      refine ⟨.value (.tuple #[]), _, _, φ, fin _ ?_, rfl, vr_undef, hput.1, hput.2⟩
      unfold Builtin.delete_
      simp only [List.getElem?_toArray, List.getElem?_cons_zero, List.getElem?_cons_succ, Sem.run_bind, hun, Result.andThen_ok, Sem.run_pure, hmv, hg, hck, hfk, hset]
end

end
end Go.Proofs.Ytdhnacajgmjmlaa.Ev
