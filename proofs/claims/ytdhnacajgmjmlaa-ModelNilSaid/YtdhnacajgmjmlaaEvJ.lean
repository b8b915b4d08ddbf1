/- An abstract machine, part 10: operations that turn memory, and calls. Of no program. -/
import Derived.Room.Entries
import Derived.Laws.Append
import Derived.Test.YtdhnacajgmjmlaaEvI
namespace Go.Proofs.Ytdhnacajgmjmlaa.Ev
open Go.RowKit
noncomputable section
set_option linter.unusedVariables false
set_option linter.unusedSimpArgs false

inductive R1 where
  | val (v : AV) (h : H)
  | enter (f : Nat) (args : List AV)
  | round (l : Nat) (args : List AV)
  /-- a deferred call; a panic; the builtin recover -/
  | defr (f : Nat) (args : List AV)
  | pan (v : AV)
  | recov
  /-- a call of a function that is known to return true -/
  | known (f : Nat)
/-- a value, or nothing: what is put into the operation's slot -/
def valOf : Next → Option Value | .value v => some v | .skip => some Go.undef | _ => none

section
variable {P : Program} {E : Env} {w0 w : World} {φ : Phi} {h : H} {tm : Tr AV} {ρ : Operand → Value} {o : Oper}

/-- what the model does, where the abstract machine does r -/
def RS (P : Program) (w0 w : World) (φ : Phi) (h : H) (ρ : Operand → Value) (o : Oper) : R1 → Prop
  | .val v h' => ∃ n v' w' φ', (execOp ρ o).run P w = .ok n w' ∧ valOf n = some v' ∧ vr φ' v v' ∧ HR w0 φ' h' w' ∧ Ext φ h φ' h'
  | .enter f args => ∃ args', (execOp ρ o).run P w = .ok (.enter f args') w ∧ vrs φ args args'.toList
  | .round l args => ∃ k sz args', φ l = some (k, sz) ∧ vrs φ args args'.toList ∧ (execOp ρ o).run P w = (Instr.yield k args').run P w
  | .defr f args => (∃ c, o.op = .defer c) ∧ ∃ args' ca', (execOp ρ o).run P w = .ok (.defer { target := .fn (.func f) ca', args := args' }) w ∧ vrs φ args (args' ++ ca').toList
  | .pan v => ∃ v', (execOp ρ o).run P w = .halt (.panic v') w ∧ vr φ v v'
  | .recov => (execOp ρ o).run P w = .ok .recover w
  | .known f => (execOp ρ o).run P w = .ok (.enter f #[]) w ∧ ∀ w, Calls P f #[] w fun e w' => e = .returned (.bool true) ∧ Below w.heap.size w w'
def putB {β : Type} (h : H) (b : Nat) (o : AO) (k : H → β) : β := h.t.setT b (some o) fun t => k ⟨t, h.next⟩
theorem putB_eq {β : Type} (h : H) (b : Nat) (o : AO) (k : H → β) : putB h b o k = k (h.put b (some o)) := Tr.setT_eq _ _ _ _
def addB {β : Type} (h : H) (o : AO) (k : Nat → H → β) : β := h.t.setT h.next (some o) fun t => seqN (Nat.succ h.next) fun n => k h.next ⟨t, n⟩
theorem addB_eq {β : Type} (h : H) (o : AO) (k : Nat → H → β) : addB h o k = k h.next (h.add o) := by unfold addB; rw [Tr.setT_eq, seqN_eq]; rfl
def killB {β : Type} (h : H) (b : Nat) (k : H → β) : β := h.t.setT b none fun t => k ⟨t, h.next⟩
theorem killB_eq {β : Type} (h : H) (b : Nat) (k : H → β) : killB h b k = k (h.put b none) := Tr.setT_eq _ _ _ _

/-! store -/
def hstore (E : Env) (tm : Tr AV) (h : H) (t : TypeId) (a x : Operand) : Option R1 := opt (E.ty.get t) fun ti => opt (aev tm a) fun p => opt (aev tm x) fun v => match p with
  | .ptr b o => opt v.aggs fun cs => ifB (Nat.beq cs.length ti.size) (ifB (allOne cs) (opt (blk h b) fun ob => match ob with
    | .cells c n e d ex => ifB (Nat.ble (Nat.add o cs.length) n) (stK d cs c o fun c' => putB h b (.cells c' n e d ex) fun h' => some (.val .undef h')) none
    | _ => none) none) none
  | _ => none
theorem hstore_sound (hE : EnvOK P E) (hr : HR w0 φ h w) {t : TypeId} {a x : Operand} {r : R1} (ho : Ops φ tm ρ o.op.operands.toList) (hop : o.op = .store t a x) (hv : hstore E tm h t a x = some r) : RS P w0 w φ h ρ o r := by
  obtain ⟨ti, h1, h2⟩ := opt_some hv
  obtain ⟨p, h3, h4⟩ := opt_some h2
  obtain ⟨v, h5, h6⟩ := opt_some h4
  cases p <;> first | (cases h6; done) | skip
  rename_i b off
  obtain ⟨cs, h7, h8⟩ := opt_some h6
  obtain ⟨h9, h10⟩ := ifB_some h8
  obtain ⟨h11, h12⟩ := ifB_some h10
  obtain ⟨ob, h13, h14⟩ := opt_some h12
  cases ob <;> first | (cases h14; done) | skip
  rename_i c n e d ex
  obtain ⟨h15, h16⟩ := ifB_some h14
  rw [stK_eq, putB_eq] at h16
  injection h16 with h16; subst h16
  obtain ⟨hz1, hz2⟩ := aggs_some h7
  obtain ⟨k, sz, hb, hp⟩ := ho.at (x := a) (by simp [hop, Op.operands]) h3
  have hx := ho.at (x := x) (by simp [hop, Op.operands]) h5
  have hcs : vrs φ cs (ρ x).cells.toList := by rw [hz1]; exact vr_cells hx hz2
  obtain ⟨w', g1, g2, g3⟩ := store_sound (P := P) hr hb h13 hcs h11 (Nat.le_of_ble_eq_true h15)
  have hsz : (ρ x).cells.size = ti.size := by have := vrs_length hcs; rw [Nat.eq_of_beq_eq_true h9] at this; simpa using this.symm
  refine ⟨.skip, Go.undef, w', φ, ?_, rfl, vr_undef, g2, g3⟩
  simp [execOp, hop, Instr.storeAt, Instr.sureAddr, hp, storeVar, (hE.ty _ _ h1).run_size, hsz, g1]

/-! maps turned -/
def mset : List (AV × AV × Nat) → Nat → AV → AV → List (AV × AV × Nat)
  | [], _, _, _ => []
  | e :: es, 0, k, v => (k, v, e.2.2) :: es
  | e :: es, i + 1, k, v => e :: mset es i k v
def hmapUpdate (E : Env) (tm : Tr AV) (h : H) (t : TypeId) (m k x : Operand) : Option R1 := opt (E.ty.get t) fun ti => match ti.und with
  | .map kt _ => opt (E.ty.get kt) fun tk => opt (aev tm m) fun a => opt (aev tm k) fun key => opt (aev tm x) fun v => (match a with
    | .map b => opt (blk h b) fun ob => (match ob with
      | .map es clock => ifB (keyTy tk.und key) (opt (mfind key es 0) fun r => match r with
        | none => putB h b (.map (es ++ [(key, v, clock)]) (Nat.succ clock)) fun h' => some (.val .undef h')
        | some (i, _) => putB h b (.map (mset es i key v) clock) fun h' => some (.val .undef h')) none
      | _ => none)
    | _ => none)
  | _ => none
theorem mrel_append : ∀ {es fs : List (AV × AV × Nat)} {l m : List MapEntry}, mrel φ es l → mrel φ fs m → mrel φ (es ++ fs) (l ++ m)
  | [], _, _, _, h, k => by have h : _ = _ := h; subst h; exact k
  | e :: es, _, _, _, ⟨k', v', l', e1, h1, h2, h3⟩, k => ⟨k', v', _, by rw [e1]; rfl, h1, h2, mrel_append h3 k⟩
theorem keyEq_eq {a b : AV} (h : keyEq a b = some true) : a = b := by
  cases a <;> first | (cases h; done) | skip
  cases b <;> first | (cases h; done) | skip
  rename_i k m k' n
  obtain ⟨h1, h2⟩ := ifB_some h
  injection h2 with h2
  rw [ieq_eq] at h2
  rw [kidx_inj h1, beq_iff_eq.1 h2]
theorem mset_rel {key x : AV} {key' x' : Value} (hk : vr φ key key') (hx : vr φ x x') : ∀ {es : List (AV × AV × Nat)} {l : List MapEntry} (i : Nat), mrel φ es l → mrel φ (mset es i key x) (l.modify i fun e => { e with key := key', val := x' })
  | [], l, i, h => by have h : l = [] := h; subst h; simp [mset, mrel]
  | e :: es, l, 0, ⟨k', v', l', e1, h1, h2, h3⟩ => by subst e1; exact ⟨key', x', l', by simp, hk, hx, h3⟩
  | e :: es, l, i + 1, ⟨k', v', l', e1, h1, h2, h3⟩ => by subst e1; exact ⟨k', v', l'.modify i fun e => { e with key := key', val := x' }, by simp, h1, h2, mset_rel hk hx i h3⟩
theorem mfind_key {key : AV} {key' : Value} (hk : vr φ key key') {d : TypeDesc} (hd : keyTy d key = true) : ∀ {es : List (AV × AV × Nat)} {l : List MapEntry} {i j : Nat} {x : AV}, mrel φ es l → mfind key es i = some (some (j, x)) → i ≤ j ∧ ∃ e, l[j - i]? = some e ∧ e.key = key'
  | [], l, i, j, x, hm, h => by injection h with h; cases h
  | (k, y, b) :: es, l, i, j, x, hm, h => by
    obtain ⟨k', y', l', rfl, h1, h2, h3⟩ := hm
    obtain ⟨q, h4, h5⟩ := opt_some h
    cases q
    · obtain ⟨g1, e, g2, g3⟩ := mfind_key hk hd h3 h5
      refine ⟨by omega, e, ?_, g3⟩
      rw [show j - i = (j - (i + 1)) + 1 by omega, List.getElem?_cons_succ]; exact g2
    · injection h5 with h5; injection h5 with h5; injection h5 with h5 _; subst h5
      have := keyEq_eq h4
      subst this
      refine ⟨Nat.le_refl _, _, by simp; rfl, ?_⟩
      show k' = key'
      cases d <;> first | (cases hd; done) | skip
      all_goals (cases key <;> first | (cases hd; done) | skip)
      all_goals
        have h1 : k' = _ := h1
        have hk : key' = _ := hk
        rw [h1, hk]
theorem sameBits_self {key : AV} {key' : Value} {d : TypeDesc} (hd : keyTy d key = true) (hk : vr φ key key') : Instr.sameBits 10000 key' key' = true := by
  cases d <;> first | (cases hd; done) | skip
  all_goals (cases key <;> first | (cases hd; done) | skip)
  all_goals
    have hk : key' = _ := hk
    rw [hk]
    simp [Instr.sameBits]
theorem hmapUpdate_sound (hE : EnvOK P E) (hr : HR w0 φ h w) {t : TypeId} {m k x : Operand} {r : R1} (ho : Ops φ tm ρ o.op.operands.toList) (hop : o.op = .mapUpdate t m k x ∨ o.op = .insert t m k x) (hv : hmapUpdate E tm h t m k x = some r) : RS P w0 w φ h ρ o r := by
  obtain ⟨ti, h1, h2⟩ := opt_some hv
  have hun := (hE.ty _ _ h1).run_und w
  cases hu : ti.und <;> rw [hu] at h2 hun <;> first | (cases h2; done) | skip
  rename_i kt vt
  obtain ⟨tk, h3, h4⟩ := opt_some h2
  obtain ⟨a, h5, h6⟩ := opt_some h4
  obtain ⟨key, h7, h8⟩ := opt_some h6
  obtain ⟨v, h9, h10⟩ := opt_some h8
  cases a <;> first | (cases h10; done) | skip
  rename_i b
  obtain ⟨ob, h11, h12⟩ := opt_some h10
  cases ob <;> first | (cases h12; done) | skip
  rename_i es clock
  obtain ⟨h13, h14⟩ := ifB_some h12
  obtain ⟨q, h15, h16⟩ := opt_some h14
  have hmem : m ∈ o.op.operands.toList ∧ k ∈ o.op.operands.toList ∧ x ∈ o.op.operands.toList := by rcases hop with hop | hop <;> simp [hop, Op.operands]
  obtain ⟨kb, sz, hb, hm⟩ := ho m hmem.1 _ h5
  have hk := ho k hmem.2.1 _ h7
  have hx := ho x hmem.2.2 _ h9
  obtain ⟨o', hkb, es', ho', hes⟩ := hr.obj _ _ kb sz h11 hb
  subst ho'
  have htk := hE.ty _ _ h3
  have hck := checkKey_ok (φ := φ) htk h13 hk false w
  have hkun := htk.run_und w
  have hg : (getObj kb).run P w = .ok (.map es' clock) w := by simp [getObj, Sem.run, hkb]
  have hlt : kb < w.heap.size := (hr.lt _ _ _ hb).1
  have fin : ∀ (es2 : List (AV × AV × Nat)) (es2' : Array MapEntry) (cl : Nat), mrel φ es2 es2'.toList → (Instr.mapUpdate t (ρ m) (ρ k) (ρ x)).run P w = .ok () { w with heap := w.heap.setIfInBounds kb (.map es2' cl) } → RS P w0 w φ h ρ o (.val .undef (h.put b (some (.map es2 cl)))) := by
    intro es2 es2' cl hrel hrun
    have hput := hr.turn (w' := { w with heap := w.heap.setIfInBounds kb (.map es2' cl) }) hb (by rw [show h.t.get b = _ from h11]; simp) (o := .map es2 cl) (o' := .map es2' cl) ⟨es2', rfl, hrel⟩ rfl rfl rfl (by simp) (by simp [hlt]) (fun j hj => by simp [Array.getElem?_setIfInBounds_ne (Ne.symm hj)])
    refine ⟨.skip, Go.undef, _, φ, ?_, rfl, vr_undef, hput.1, hput.2⟩
    rcases hop with hop | hop <;> simp [execOp, hop, hrun]
  have hset : ∀ (es2' : Array MapEntry) (cl : Nat), (setObj kb (.map es2' cl)).run P w = .ok () { w with heap := w.heap.setIfInBounds kb (.map es2' cl) } := fun es2' cl => by simp [setObj, Sem.run, hkb]
  rcases mfind_sound h13 hk hes h15 with ⟨rfl, hf⟩ | ⟨j, y, y', rfl, hf, hy⟩
  · rw [putB_eq] at h16
    injection h16 with h16; subst h16
    refine fin _ (es'.push { key := ρ k, val := ρ x, born := clock }) _ (by rw [Array.toList_push]; exact mrel_append hes ⟨_, _, _, rfl, hk, hx, rfl⟩) ?_
    have hfk : (Instr.findKey kt (ρ k) es'.toList).run P w = .ok none w := by unfold Instr.findKey; simp [hkun, hf]
    unfold Instr.mapUpdate
    simp only [Sem.run_bind, hun, Result.andThen_ok, hm, hg, hck, hfk, hset]
  · simp only [putB_eq] at h16
    injection h16 with h16; subst h16
    obtain ⟨_, e, he1, he2⟩ := mfind_key hk h13 hes h15
    rw [Nat.sub_zero] at he1
    refine fin _ (es'.modify j fun e => { e with key := ρ k, val := ρ x }) _ (by rw [Array.toList_modify]; exact mset_rel hk hx j hes) ?_
    have hfk : (Instr.findKey kt (ρ k) es'.toList).run P w = .ok (some (j, y')) w := by unfold Instr.findKey; simp [hkun, hf]
    have hst : (Instr.keyThatStays (((es'[j]?).map (·.key)).getD (ρ k)) (ρ k)).run P w = .ok (ρ k) w := by
      have : es'[j]? = some e := by simpa using he1
      rw [this]
      simp only [Option.map_some, Option.getD_some, he2]
      unfold Instr.keyThatStays
      rw [if_pos (sameBits_self h13 hk)]
      rfl
    unfold Instr.mapUpdate
    simp only [Sem.run_bind, hun, Result.andThen_ok, hm, hg, hck, hfk, hst, hset]

/-! append -/
/-- the cells that are appended, and how many elements -/
def srcCells (h : H) (size : Nat) (x : AV) : Option (Nat × List AV) := match x with
  | .nilsl => some (0, [])
  | .slz _ => some (0, [])
  | .sl b o n _ => opt (blk h b) fun ob => (match ob with
    | .cells c m _ d _ => ifB (Nat.ble (Nat.add o (Nat.mul n size)) m) (some (n, ldN c d (Nat.mul n size) o)) none
    | _ => none)
  | _ => none
theorem srcCells_sound (hr : HR w0 φ h w) {size n : Nat} {x : AV} {u : Value} {cs : List AV} (hx : vr φ x u) (hs : srcCells h size x = some (n, cs)) :
    (Builtin.lenOf u).run P w = .ok n w ∧ ∃ vs : Array Value, (∀ q, (Builtin.firstCells size n u).run P { w with drawn := q } = .ok vs { w with drawn := q }) ∧ vrs φ cs vs.toList ∧ cs.length = n * size := by
  unfold srcCells at hs
  split at hs <;> first | (cases hs; done) | skip
  · injection hs with hs; injection hs with h1 h2; subst h1 h2
    have hx : u = .slice none 0 0 := hx
    subst hx
    exact ⟨by simp [Builtin.lenOf], #[], by simp [Builtin.firstCells], rfl, by simp⟩
  · injection hs with hs; injection hs with h1 h2; subst h1 h2
    obtain ⟨k, sz, o, c', hb, hx⟩ := hx
    subst hx
    exact ⟨by simp [Builtin.lenOf], #[], by simp [Builtin.firstCells, loadCells, loadCellsFrom], rfl, by simp⟩
  · rename_i b off m c
    obtain ⟨ob, h1, h2⟩ := opt_some hs
    cases ob <;> first | (cases h2; done) | skip
    rename_i cc mm e d ex
    obtain ⟨h3, h4⟩ := ifB_some h2
    injection h4 with h4; injection h4 with h4 h5; subst h4 h5
    obtain ⟨k, sz, c', hb, hx, _⟩ := hx
    subst hx
    obtain ⟨vs, g1, g2⟩ := load_sound_d (P := P) hr hb h1 off (m * size) (Nat.le_of_ble_eq_true h3)
    exact ⟨by simp [Builtin.lenOf], vs, by simp [Builtin.firstCells, g1], g2, ldN_length _ _ _ _⟩
/-- the least of the bounds -/
def smallB (need bytes : Nat) : Bool := ifB (Nat.ble need 1099511627776) (Nat.ble (Nat.mul (Nat.mul 2 need) bytes) 281474976710656) false
theorem smallB_le {need bytes : Nat} (h : smallB need bytes = true) : need ≤ 1099511627776 ∧ 2 * need * bytes ≤ 281474976710656 := by
  unfold smallB at h
  rw [ifB_eq] at h
  split at h
  · rename_i h1; exact ⟨Nat.le_of_ble_eq_true h1, Nat.le_of_ble_eq_true h⟩
  · cases h
def happend (E : Env) (tm : Tr AV) (h : H) (c : Call) : Option R1 := match c.args.toList with
  | [s, x] => (match c.argTypes.toList with
    | [t, t2] => opt (E.ty.get t) fun ti => (match ti.und with
      | .slice el => opt (E.ty.get t2) fun t2i => (match t2i.und with
        | .slice _ => opt (E.ty.get el) fun te => opt te.zero.aggs fun z => ifB (Nat.beq z.length te.size) (opt (aev tm s) fun sv => opt (aev tm x) fun xv => opt (srcCells h te.size xv) fun p => match p with
          | (n, cs) => match n with
            | 0 => (match sv with | .nilsl => some (.val sv h) | .sl _ _ _ _ => some (.val sv h) | _ => none)
            | n + 1 => match sv with
              | .nilsl => ifB (smallB (n + 1) te.bytes) (addB h (.cells (stF (dftOf z) cs .e 0) cs.length el (dftOf z) false) fun id h' => some (.val (.sl id 0 (n + 1) (.rest te.size)) h')) none
              | .sl b o len cap => seqN (Nat.add len (n + 1)) fun need => opt (blk h b) fun ob => (match ob with
                | .cells cc m e d ex => (match cap with
                  | .known k => ifB (Nat.ble need k)
                    (ifB (allOne cs) (ifB (Nat.ble (Nat.add (Nat.add o (Nat.mul len te.size)) cs.length) m) (stK d cs cc (Nat.add o (Nat.mul len te.size)) fun c' => putB h b (.cells c' m e d ex) fun h' => some (.val (.sl b o need (.known k)) h')) none) none)
                    (ifB (smallB need te.bytes) (ifB (Nat.ble (Nat.add o (Nat.mul len te.size)) m) (addB h (.cells (stF (dftOf z) (ldN cc d (Nat.mul len te.size) o ++ cs) .e 0) (Nat.add (Nat.mul len te.size) cs.length) el (dftOf z) false) fun id h' => some (.val (.sl id 0 need (.rest te.size)) h')) none) none)
                  | .rest sz => ifB (Nat.beq o 0) (ifB (Nat.beq sz te.size) (ifB (allOne cs) (ifB (Nat.blt 0 te.size) (ifB (Nat.ble (Nat.add (Nat.mul len te.size) cs.length) m)
                    (stK d cs cc (Nat.mul len te.size) fun c' => putB h b (.cells c' m e d ex) fun h' => some (.val (.sl b 0 need (.rest te.size)) h'))
                    (ifB (Nat.beq (Nat.mul len te.size) m) (ifB (smallB need te.bytes) (ifB (Nat.beq e el)
                    (stK d cs cc m fun c' => killB h b fun h1 => addB h1 (.cells c' (Nat.add m cs.length) e d false) fun id h' => some (.val (.sl id 0 need (.rest te.size)) h')) none) none) none)) none) none) none) none)
                | _ => none)
              | _ => none) none
        | _ => none)
      | _ => none)
    | _ => none)
  | _ => none
theorem run_cap (w : World) (need old : Nat) (el : TypeId) : ∃ nc, need ≤ nc ∧ (choose (.appendCap need old el)).run P w = .ok nc { w with drawn := w.drawn + 1 } :=
  ⟨Question.cut (.appendCap need old el) (w.tape w.drawn (.appendCap need old el)), by simp [Question.cut], by simp [choose, Sem.run, Question.forced]⟩
theorem run_room (n : Nat) (w : World) : (askRoom n).run P w = .ok () w := by unfold askRoom; split <;> simp [mark, Sem.run]
/-- the model's append, where there is no room: a new row -/
theorem append_new (hE : EnvOK P E) {t t2 ty el el2 : TypeId} {ti t2i te : TI} (h1 : E.ty.get t = some ti) (hu : ti.und = .slice el) (h2 : E.ty.get t2 = some t2i) (hu2 : t2i.und = .slice el2) (h3 : E.ty.get el = some te)
    {s x : Value} {base : Option Addr} {len cap n : Nat} (hs : s = .slice base len cap) (hlen : (Builtin.lenOf x).run P w = .ok (n + 1) w) (hnr : cap < len + (n + 1)) (hsm : smallB (len + (n + 1)) te.bytes = true)
    {old new : Array Value} (hold : ∀ m, (Builtin.firstCells te.size len s).run P { w with drawn := m } = .ok old { w with drawn := m }) (hnew : ∀ m, (Builtin.firstCells te.size (n + 1) x).run P { w with drawn := m } = .ok new { w with drawn := m })
    {z : Value} (hz : ∀ w, (zeroValue el).run P w = .ok z w) (hol : old.size = len * te.size) (hnl : new.size = (n + 1) * te.size) (hzl : z.cells.size = te.size) :
    ∃ (nc : Nat) (arr : Array Value), len + (n + 1) ≤ nc ∧ (Builtin.append_ #[t, t2] ty #[s, x]).run P w = .ok (.slice (some ⟨w.heap.size, 0, none⟩) (len + (n + 1)) nc) { w with heap := w.heap.push (.cells arr el), drawn := w.drawn + 1 } ∧ arr.size = nc * te.size ∧ ∃ tail, arr.toList = old.toList ++ new.toList ++ tail := by
  obtain ⟨nc, hnc, hch⟩ := run_cap (P := P) w (len + (n + 1)) cap el
  have hun := (hE.ty _ _ h1).run_und
  have hun2 := (hE.ty _ _ h2).run_und
  rw [hu] at hun
  rw [hu2] at hun2
  obtain ⟨i, i1, i2, i3⟩ := (hE.ty _ _ h3).run_info
  obtain ⟨hnd, hsm'⟩ := smallB_le hsm
  have hnx := nextslicecap_le hnr
  have hb : ¬ (Builtin.nextslicecap (len + (n + 1)) cap * i.bytes > 2 ^ 48) := by
    have h1 : Builtin.nextslicecap (len + (n + 1)) cap * i.bytes ≤ 2 * (len + (n + 1)) * te.bytes := by rw [i3]; exact Nat.mul_le_mul_right _ hnx
    have : (2 : Nat) ^ 48 = 281474976710656 := rfl
    omega
  have hroom : ¬ (len + (n + 1) ≤ cap) := by omega
  refine ⟨nc, old ++ new ++ Builtin.zeroCells z.cells (nc - (len + (n + 1))), hnc, ?_, ?_, Builtin.zeroCells z.cells (nc - (len + (n + 1))) |>.toList, by simp⟩
  · subst hs
    have h63 : ¬ (IntKind.i64.max < ((len + (n + 1) : Nat) : Int)) := by
      have : IntKind.i64.max = 9223372036854775807 := rfl
      rw [this]; omega
    have hold1 := hold (w.drawn + 1)
    have hnew1 := hnew (w.drawn + 1)
    unfold Builtin.append_
    simp only [List.getElem?_toArray, List.getElem?_cons_zero, List.getElem?_cons_succ, Sem.run_bind, hun, Result.andThen_ok, Sem.run_pure, (hE.ty _ _ h3).run_size, hun2, Bool.false_eq_true, if_false, hlen, hroom, gt_iff_lt, h63, false_and, i1, hb, hch, run_room, hold1, hnew1, Bool.not_false, if_true, hz]
    simp [newRow, newObj, Sem.run, i1, hb, hch, run_room, hold1, hnew1, hz]
    exact ⟨rfl, rfl, rfl⟩
  · simp [Builtin.zeroCells, hol, hnl, hzl]
    rw [← Nat.add_mul, ← Nat.add_mul]
    congr 1
    omega
theorem prefix_rel {cs : List AV} {vs : List Value} {arr : Array Value} {tail : List Value} (el : TypeId) (d : AV) (hc : vrs φ cs vs) (ha : arr.toList = vs ++ tail) : orel φ arr.size (.cells (stF d cs .e 0) cs.length el d false) (.cells arr el (0, 0)) := by
  have hl := vrs_length hc
  have hsz : arr.size = vs.length + tail.length := by have := congrArg List.length ha; simpa using this
  refine ⟨arr, rfl, rfl, by omega, fun h => (by cases h), fun i hi => ?_⟩
  rw [cellAt_st, if_pos (by omega)]
  obtain ⟨v, hv, hr⟩ := vrs_get hc (show cs[i]? = some cs[i] by simp [hi])
  refine ⟨v, ?_, by simpa [hi] using hr⟩
  rw [← Array.getElem?_toList, ha, List.getElem?_append_left (by omega)]; exact hv
theorem exec_append {c : Call} {s x : Operand} {t t2 : TypeId} (hop : o.op = .call c) (hc : c.callee = .builtin .append) (ha : c.args.toList = [s, x]) (ht : c.argTypes.toList = [t, t2]) (P : Program) (w : World) {v' : Value} {w' : World}
    (h : (Builtin.append_ #[t, t2] o.type #[ρ s, ρ x]).run P w = .ok v' w') : (execOp ρ o).run P w = .ok (.value v') w' := by
  obtain ⟨callee, args, tys⟩ := c
  have h1 : args = #[s, x] := by rw [← Array.toArray_toList (xs := args), ha]
  have h2 : tys = #[t, t2] := by rw [← Array.toArray_toList (xs := tys), ht]
  simp only at hc
  subst h1 h2 hc
  simp [execOp, hop, resolve, invoke, builtin, h]
theorem call_mem {c : Call} {x : Operand} (hop : o.op = .call c) (hx : x ∈ c.args.toList) : x ∈ o.op.operands.toList := by
  rw [hop]
  simp only [Op.operands, Call.operands, Array.toList_append, List.mem_append]
  exact Or.inr hx
theorem happend_sound (hE : EnvOK P E) (hr : HR w0 φ h w) {c : Call} {r : R1} (ho : Ops φ tm ρ o.op.operands.toList) (hop : o.op = .call c) (hcal : c.callee = .builtin .append) (hv : happend E tm h c = some r) : RS P w0 w φ h ρ o r := by
  unfold happend at hv
  split at hv <;> first | (cases hv; done) | skip
  rename_i s x hargs
  split at hv <;> first | (cases hv; done) | skip
  rename_i t t2 htys
  obtain ⟨ti, h1, h2⟩ := opt_some hv
  split at h2 <;> first | (cases h2; done) | skip
  rename_i el hu
  obtain ⟨t2i, h3, h4⟩ := opt_some h2
  split at h4 <;> first | (cases h4; done) | skip
  rename_i el2 hu2
  obtain ⟨te, h5, h6⟩ := opt_some h4
  obtain ⟨z, h7, h8⟩ := opt_some h6
  obtain ⟨h9, h10⟩ := ifB_some h8
  obtain ⟨sv, h11, h12⟩ := opt_some h10
  obtain ⟨xv, h13, h14⟩ := opt_some h12
  obtain ⟨⟨n, cs⟩, h15, h16⟩ := opt_some h14
  clear hv h2 h4 h6 h8 h10 h12 h14
  have hms : s ∈ o.op.operands.toList := call_mem hop (by rw [hargs]; simp)
  have hmx : x ∈ o.op.operands.toList := call_mem hop (by rw [hargs]; simp)
  have hsv := ho s hms _ h11
  have hxv := ho x hmx _ h13
  obtain ⟨hz1, hz2⟩ := aggs_some h7
  obtain ⟨zv, g1, g2⟩ := (hE.ty _ _ h5).run_zero
  have hcz : vrs φ z zv.cells.toList := by rw [hz1]; exact vr_cells (g2 φ) hz2
  have hzs : zv.cells.size = te.size := by have := vrs_length hcz; rw [Nat.eq_of_beq_eq_true h9] at this; simpa using this.symm
  obtain ⟨hlen, new, hnew, hncs, hnl⟩ := srcCells_sound (P := P) hr hxv h15
  have hnsz : new.size = n * te.size := by rw [← hnl, vrs_length hncs]; simp
  have hun := (hE.ty _ _ h1).run_und
  have hun2 := (hE.ty _ _ h3).run_und
  rw [hu] at hun
  rw [hu2] at hun2
  have hszr := (hE.ty _ _ h5).run_size
  have hnew0 : (Builtin.firstCells te.size n (ρ x)).run P w = .ok new w := hnew w.drawn
  -- where there is room
  have room : ∀ (base : Option Addr) (len cap : Nat) (w' : World), ρ s = .slice base len cap → len + n ≤ cap → (match base with | some a => (storeCells (a.add (len * te.size)) new.toList).run P w = .ok () w' | none => w' = w) →
      (Builtin.append_ #[t, t2] o.type #[ρ s, ρ x]).run P w = .ok (.slice base (len + n) cap) w' := by
    intro base len cap w' hs hle hst
    unfold Builtin.append_
    simp only [List.getElem?_toArray, List.getElem?_cons_zero, List.getElem?_cons_succ, Sem.run_bind, hun, Result.andThen_ok, Sem.run_pure, hszr, hun2, Bool.false_eq_true, if_false, hlen, hle, if_true, hs, hnew0, Bool.not_false]
    cases base with
    | none => simp at hst; subst hst; simp
    | some a => simp at hst; simp [hst]
  cases n with
  | zero =>
    have hcs0 : new.toList = [] := by have : new.size = 0 := by rw [hnsz]; simp
                                      simpa using this
    have key : ∀ (base : Option Addr) (len cap : Nat), ρ s = .slice base len cap → len ≤ cap → some (R1.val sv h) = some r → RS P w0 w φ h ρ o r := by
      intro base len cap hs hle he
      injection he with he; subst he
      have hh := room base len cap w hs hle (by cases base <;> simp [hcs0, storeCells])
      rw [Nat.add_zero, ← hs] at hh
      exact ⟨.value (ρ s), ρ s, w, φ, exec_append hop hcal hargs htys P w hh, rfl, hsv, hr, Ext.refl _ _⟩
    cases sv <;> first | (cases h16; done) | skip
    · exact key none 0 0 hsv (Nat.le_refl _) h16
    · obtain ⟨k, sz, c', _, hs, hle, _⟩ := id hsv
      exact key _ _ _ hs hle h16
  | succ n =>
    cases sv <;> first | (cases h16; done) | skip
    · -- nil
      obtain ⟨h17, h18⟩ := ifB_some h16
      rw [addB_eq] at h18
      injection h18 with h18; subst h18
      obtain ⟨nc, arr, hnc, hrun, hsz, tail, harr⟩ := append_new (ty := o.type) hE h1 hu h3 hu2 h5 (s := ρ s) (x := ρ x) (w := w) hsv hlen (by omega) (by simpa using h17) (old := #[]) (fun m => by rw [show ρ s = .slice none 0 0 from hsv]; simp [Builtin.firstCells]) hnew g1 (by simp) hnsz hzs
      have hrel := prefix_rel (φ := φ) (arr := arr) (tail := tail) el (dftOf z) hncs (by simpa using harr)
      have hadd := hr.add (o := .cells (stF (dftOf z) cs .e 0) cs.length el (dftOf z) false) (o' := .cells arr el) (sz := arr.size) (orel_mono (hr.sub _ _) _ _ hrel)
      refine ⟨.value _, _, _, _, exec_append hop hcal hargs htys P w hrun, rfl, ?_, hadd.1.drawn _, hadd.2⟩
      exact ⟨w.heap.size, arr.size, nc, Phi.more_same _ _ _ _, by rw [Nat.zero_add], by omega, by show nc * te.size + 0 = arr.size; omega⟩
    · rename_i b off len cap
      simp only [seqN_eq] at h16
      obtain ⟨ob, h17, h18⟩ := opt_some h16
      cases ob <;> first | (cases h18; done) | skip
      rename_i cc m e d ex
      obtain ⟨k, sz, c', hb, hs, hle, hcap⟩ := hsv
      cases cap with
      | known kc =>
        have hcap : c' = kc := hcap
        subst hcap
        have h18 : ifB (Nat.ble (len + (n + 1)) c') _ _ = some r := h18
        rw [ifB_eq] at h18
        split at h18
        · rename_i hrm
          have hrm := Nat.le_of_ble_eq_true hrm
          obtain ⟨h19, h20⟩ := ifB_some h18
          obtain ⟨h21, h22⟩ := ifB_some h20
          rw [stK_eq, putB_eq] at h22
          injection h22 with h22; subst h22
          obtain ⟨w', st1, st2, st3⟩ := store_sound (P := P) hr hb h17 (o := off + len * te.size) hncs h19 (Nat.le_of_ble_eq_true h21)
          have hh := room _ len c' w' hs hrm (by simp only [addr_add]; exact st1)
          exact ⟨.value _, _, w', φ, exec_append hop hcal hargs htys P w hh, rfl, ⟨k, sz, c', hb, rfl, hrm, rfl⟩, st2, st3⟩
        · rename_i hrm
          have hrm : ¬ (len + (n + 1) ≤ c') := fun hc => hrm (Nat.ble_eq_true_of_le hc)
          obtain ⟨h19, h20⟩ := ifB_some h18
          obtain ⟨h21, h22⟩ := ifB_some h20
          rw [addB_eq] at h22
          injection h22 with h22; subst h22
          obtain ⟨old, ho1, ho2⟩ := load_sound_d (P := P) hr hb h17 off (len * te.size) (Nat.le_of_ble_eq_true h21)
          have hol : old.size = len * te.size := by have := vrs_length ho2; rw [ldN_length] at this; simpa using this.symm
          obtain ⟨nc, arr, hnc, hrun, hsz, tail, harr⟩ := append_new (ty := o.type) hE h1 hu h3 hu2 h5 (s := ρ s) (x := ρ x) (w := w) hs hlen (by omega) h19 (old := old) (fun m => by rw [hs]; simp only [Builtin.firstCells]; exact ho1 m) hnew g1 hol hnsz hzs
          have hcat : vrs φ (ldN cc d (len * te.size) off ++ cs) (old.toList ++ new.toList) := vrs_append ho2 hncs
          have hrel := prefix_rel (φ := φ) (arr := arr) (tail := tail) el (dftOf z) hcat harr
          rw [List.length_append, ldN_length] at hrel
          have hadd := hr.add (o := .cells (stF (dftOf z) (ldN cc d (len * te.size) off ++ cs) .e 0) (len * te.size + cs.length) el (dftOf z) false) (o' := .cells arr el) (sz := arr.size) (orel_mono (hr.sub _ _) _ _ hrel)
          refine ⟨.value _, _, _, _, exec_append hop hcal hargs htys P w hrun, rfl, ?_, hadd.1.drawn _, hadd.2⟩
          exact ⟨w.heap.size, arr.size, nc, Phi.more_same _ _ _ _, rfl, hnc, by show nc * te.size + 0 = arr.size; omega⟩
      | rest s2 =>
        have hcap : c' * s2 + off = sz := hcap
        obtain ⟨q1, h19⟩ := ifB_some h18
        obtain ⟨q2, h20⟩ := ifB_some h19
        obtain ⟨q4, h21⟩ := ifB_some h20
        obtain ⟨q7, h22⟩ := ifB_some h21
        obtain rfl : off = 0 := Nat.eq_of_beq_eq_true q1
        obtain rfl : s2 = te.size := Nat.eq_of_beq_eq_true q2
        have q7 := blt_iff.1 q7
        rw [ifB_eq] at h22
        split at h22
        · rename_i hin
          have hin := Nat.le_of_ble_eq_true hin
          rw [stK_eq, putB_eq] at h22
          injection h22 with h22; subst h22
          have hmsz : m ≤ sz := by
            obtain ⟨o', hk, cur, _, _, hh, _⟩ := hr.obj _ _ k sz h17 hb
            exact hh
          have hncl : cs.length = (n + 1) * te.size := hnl
          have hrm : len + (n + 1) ≤ c' := by
            have h1 : (len + (n + 1)) * te.size ≤ c' * te.size := by rw [Nat.add_mul, ← hncl]; exact Nat.le_trans hin (by omega)
            exact Nat.le_of_mul_le_mul_right h1 q7
          obtain ⟨w', st1, st2, st3⟩ := store_sound (P := P) hr hb h17 (o := len * te.size) hncs q4 hin
          have hh := room _ len c' w' hs hrm (by simp only [addr_add, Nat.zero_add]; exact st1)
          exact ⟨.value _, _, w', φ, exec_append hop hcal hargs htys P w hh, rfl, ⟨k, sz, c', hb, rfl, hrm, hcap⟩, st2, st3⟩
        obtain ⟨q3, h23⟩ := ifB_some h22
        obtain ⟨q5, h24⟩ := ifB_some h23
        obtain ⟨q6, h25⟩ := ifB_some h24
        rw [stK_eq, killB_eq, addB_eq] at h25
        injection h25 with h25; subst h25
        have q3 : len * te.size = m := Nat.eq_of_beq_eq_true q3
        obtain rfl : e = el := Nat.eq_of_beq_eq_true q6
        obtain ⟨o', hk, horel⟩ := hr.obj _ _ k sz h17 hb
        obtain ⟨cur, hcur, hcsz, hmsz, hex, hcells⟩ := id horel
        subst hcur
        have hncl : cs.length = (n + 1) * te.size := hnl
        by_cases hrm : len + (n + 1) ≤ c'
        · -- there is room
          have hfit : m + cs.length ≤ sz := by
            rw [← hcap, ← q3, hncl, ← Nat.add_mul, Nat.add_zero]
            exact Nat.mul_le_mul_right _ hrm
          have hst := run_storeCells_at P k m e new.toList 0 cur w hk (by have := vrs_length hncs; simp at this ⊢; omega) (one_of_rel hncs q4)
          have hh := room _ len c' _ hs hrm (by simp only [addr_add, Nat.zero_add, q3]; exact hst)
          have hrel : orel φ sz (.cells (stF d cs cc m) (m + cs.length) e d false) (.cells (cur.toList.take m ++ new.toList ++ cur.toList.drop (m + new.toList.length)).toArray e (0, 0)) := by
            have hl := vrs_length hncs
            have htl : (cur.toList.take m).length = m := by simp; omega
            refine ⟨_, rfl, by simp; simp at hl; omega, hfit, fun hh => (by cases hh), fun i hi => ?_⟩
            rw [cellAt_st]
            by_cases hio : m ≤ i ∧ i < m + cs.length
            · rw [if_pos hio]
              obtain ⟨x1, hx1⟩ : ∃ x1, cs[i - m]? = some x1 := ⟨cs[i - m]'(by omega), by rw [List.getElem?_eq_getElem]⟩
              obtain ⟨v, hv1, hv2⟩ := vrs_get hncs hx1
              refine ⟨v, ?_, by rw [hx1]; exact hv2⟩
              rw [List.getElem?_toArray, List.append_assoc, List.getElem?_append_right (by omega), htl, List.getElem?_append_left (by omega)]
              exact hv1
            · rw [if_neg hio]
              obtain ⟨v, hv1, hv2⟩ := hcells i (by omega)
              refine ⟨v, ?_, hv2⟩
              rw [List.getElem?_toArray, List.append_assoc, List.getElem?_append_left (by omega), List.getElem?_take, if_pos (by omega)]
              simpa using hv1
          have hmove := hr.move (w' := w.setRow k (cur.toList.take m ++ new.toList ++ cur.toList.drop (m + new.toList.length)).toArray) hb (by rw [show h.t.get b = _ from h17]; simp) (orel_mono (hr.sub k sz) _ _ hrel) rfl rfl rfl (by simp) (setRow_heap w k cur _ e _ hk) (fun j hj => setRow_other w k j _ hj)
          refine ⟨.value _, _, _, φ.more h.next k sz, exec_append hop hcal hargs htys P w hh, rfl, ?_, ?_, ?_⟩
          · exact ⟨k, sz, c', Phi.more_same _ _ _ _, rfl, hrm, hcap⟩
          · simpa using hmove.1
          · exact hmove.2
        · -- there is none
          obtain ⟨old, ho1, ho2⟩ := load_sound_d (P := P) hr hb h17 0 (len * te.size) (by omega)
          have hol : old.size = len * te.size := by have := vrs_length ho2; rw [ldN_length] at this; simpa using this.symm
          obtain ⟨nc, arr, hnc, hrun, hsz, tail, harr⟩ := append_new (ty := o.type) hE h1 hu h3 hu2 h5 (s := ρ s) (x := ρ x) (w := w) hs hlen (by omega) q5 (old := old) (fun m => by rw [hs]; simp only [Builtin.firstCells]; exact ho1 m) hnew g1 hol hnsz hzs
          have hrel : orel φ arr.size (.cells (stF d cs cc m) (m + cs.length) e d false) (.cells arr e (0, 0)) := by
            have hl := vrs_length hncs
            have hl2 : old.toList.length = m := by simp; omega
            have hal : arr.size = old.toList.length + new.toList.length + tail.length := by have := congrArg List.length harr; simp at this ⊢; omega
            refine ⟨arr, rfl, rfl, by omega, fun hh => (by cases hh), fun i hi => ?_⟩
            rw [cellAt_st]
            by_cases hio : m ≤ i ∧ i < m + cs.length
            · rw [if_pos hio]
              obtain ⟨x1, hx1⟩ : ∃ x1, cs[i - m]? = some x1 := ⟨cs[i - m]'(by omega), by rw [List.getElem?_eq_getElem]⟩
              obtain ⟨v, hv1, hv2⟩ := vrs_get hncs hx1
              refine ⟨v, ?_, by rw [hx1]; exact hv2⟩
              rw [← Array.getElem?_toList, harr, List.append_assoc, List.getElem?_append_right (by omega), hl2, List.getElem?_append_left (by omega)]
              exact hv1
            · rw [if_neg hio]
              have hi2 : i < m := by omega
              have hget := ldN_get cc d (len * te.size) 0 i (by omega)
              rw [Nat.zero_add] at hget
              obtain ⟨v, hv1, hv2⟩ := vrs_get ho2 hget
              refine ⟨v, ?_, hv2⟩
              rw [← Array.getElem?_toList, harr, List.append_assoc, List.getElem?_append_left (by omega)]
              exact hv1
          have hkill := hr.kill hb
          have hadd := hkill.1.add (o := .cells (stF d cs cc m) (m + cs.length) e d false) (o' := .cells arr e) (sz := arr.size) (orel_mono (hkill.1.sub _ _) _ _ hrel)
          refine ⟨.value _, _, _, _, exec_append hop hcal hargs htys P w hrun, rfl, ?_, hadd.1.drawn _, hkill.2.trans hadd.2⟩
          exact ⟨w.heap.size, arr.size, nc, Phi.more_same _ _ _ _, rfl, hnc, by show nc * te.size + 0 = arr.size; omega⟩
end

end
end Go.Proofs.Ytdhnacajgmjmlaa.Ev
