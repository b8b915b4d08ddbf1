/- An abstract machine, part 8: structs built, maps looked up; new memory. Of no program. -/
import Derived.Test.YtdhnacajgmjmlaaEvG
namespace Go.Proofs.Ytdhnacajgmjmlaa.Ev
open Go.RowKit
noncomputable section
set_option linter.unusedVariables false

section
variable {P : Program} {E : Env} {w0 w : World} {φ : Phi} {h : H} {tm : Tr AV} {ρ : Operand → Value} {o : Oper} {v : AV}

/-! ### parts laid over cells -/
def overl (cs : List AV) (off : Nat) (vs : List AV) : List AV := cs.take off ++ vs ++ cs.drop (off + vs.length)
def fillA (place : Nat → Option (Nat × Nat)) : List AV → List (Nat × AV) → Option (List AV)
  | cells, [] => some cells
  | cells, (i, v) :: rest => opt (place i) fun p => match p with
    | (off, size) => ifB (Nat.beq v.cells.length size) (ifB (Nat.ble (Nat.add off size) cells.length) (fillA place (overl cells off v.cells) rest) none) none
theorem fold_put (off : Nat) : ∀ (l : List Value) (i : Nat) (cs : Array Value), off + i + l.length ≤ cs.size → ((l.zipIdx i).foldl (fun cs p => cs.setIfInBounds (off + p.2) p.1) cs).toList = cs.toList.take (off + i) ++ l ++ cs.toList.drop (off + i + l.length)
  | [], i, cs, _ => by simp
  | x :: l, i, cs, h => by
    rw [List.zipIdx_cons, List.foldl_cons, fold_put off l (i + 1) _ (by simp at h ⊢; omega)]
    simp only [Array.toList_setIfInBounds, List.length_cons]
    have hlt : off + i < cs.toList.length := by simp at h ⊢; omega
    rw [show off + (i + 1) = off + i + 1 by omega, List.take_succ_eq_append_getElem (by simpa using hlt), List.drop_set_of_lt (by omega)]
    rw [show off + i + 1 + l.length = off + i + (l.length + 1) by omega]
    simp [List.take_set_of_le (Nat.le_refl _)]
theorem fill_sound {place : Nat → Option (Nat × Nat)} {place' : Nat → Option (Nat × Nat)} (hp : ∀ i p, place i = some p → place' i = some p) : ∀ {parts : List (Nat × AV)} {parts' : List (Nat × Value)} {cells r : List AV} {cells' : Array Value},
    (parts.length = parts'.length ∧ ∀ (i : Nat) (p : Nat × AV) (p' : Nat × Value), parts[i]? = some p → parts'[i]? = some p' → p.1 = p'.1 ∧ vr φ p.2 p'.2 ∧ ∀ cs, p.2 ≠ .tup cs) → vrs φ cells cells'.toList → fillA place cells parts = some r → ∃ r', Instr.fill place' cells' parts' = some r' ∧ vrs φ r r'.toList
  | [], parts', cells, r, cells', hps, hc, hf => by
    have : parts' = [] := List.eq_nil_of_length_eq_zero hps.1.symm
    subst this
    injection hf with hf; subst hf
    exact ⟨cells', rfl, hc⟩
  | (i, x) :: parts, [], cells, r, cells', hps, hc, hf => by simp at hps
  | (i, x) :: parts, (i', x') :: parts', cells, r, cells', hps, hc, hf => by
    obtain ⟨h1, h2, h3⟩ := hps.2 0 (i, x) (i', x') rfl rfl
    obtain rfl : i = i' := h1
    obtain ⟨⟨off, size⟩, h4, h5⟩ := opt_some hf
    obtain ⟨h6, h7⟩ := ifB_some h5
    obtain ⟨h8, h9⟩ := ifB_some h7
    have h6 := Nat.eq_of_beq_eq_true h6
    have h8 : off + size ≤ cells.length := Nat.le_of_ble_eq_true h8
    have hx := vr_cells h2 h3
    have hlx := vrs_length hx
    have hlc := vrs_length hc
    have hx2 : x'.cells.size = size := by rw [← h6, hlx]; simp
    have hcs : off + x'.cells.size ≤ cells'.size := by rw [hx2]; have : cells'.toList.length = cells'.size := by simp
                                                       omega
    have hfold : (x'.cells.zipIdx.foldl (fun cs (p : Value × Nat) => cs.setIfInBounds (off + p.2) p.1) cells').toList = cells'.toList.take off ++ x'.cells.toList ++ cells'.toList.drop (off + x'.cells.toList.length) := by
      rw [← Array.foldl_toList, Array.toList_zipIdx]
      have := fold_put off x'.cells.toList 0 cells' (by simpa using hcs)
      simpa using this
    have hrel : vrs φ (overl cells off x.cells) (x'.cells.zipIdx.foldl (fun cs (p : Value × Nat) => cs.setIfInBounds (off + p.2) p.1) cells').toList := by
      rw [hfold]
      unfold overl
      rw [hlx]
      exact vrs_append (vrs_append (vrs_take off hc) hx) (vrs_drop _ hc)
    obtain ⟨r', h10, h11⟩ := fill_sound hp (parts := parts) (parts' := parts') ⟨by simpa using hps.1, fun j p p' hj hj' => hps.2 (j + 1) p p' (by simpa using hj) (by simpa using hj')⟩ hrel h9
    refine ⟨r', ?_, h11⟩
    unfold Instr.fill
    rw [hp i _ h4]
    simp only
    rw [if_neg (by rw [hx2]; simp; rw [← hx2]; exact hcs)]
    exact h10
/-- (place, operand) pairs -/
def evP (tm : Tr AV) (ps : Array (Nat × Operand)) : Option (List (Nat × AV)) := optMap (fun p => opt (aev tm p.2) fun a => match a with | .tup _ => none | a => some (p.1, a)) ps.toList
theorem evP_sound {ps : Array (Nat × Operand)} {r : List (Nat × AV)} {xs : List Operand} (ho : Ops φ tm ρ xs) (hx : ∀ p ∈ ps.toList, p.2 ∈ xs) (h : evP tm ps = some r) :
    r.length = (ps.map fun (i, x) => (i, ρ x)).toList.length ∧ ∀ (i : Nat) (p : Nat × AV) (p' : Nat × Value), r[i]? = some p → (ps.map fun (i, x) => (i, ρ x)).toList[i]? = some p' → p.1 = p'.1 ∧ vr φ p.2 p'.2 ∧ ∀ cs, p.2 ≠ .tup cs := by
  obtain ⟨g1, g2⟩ := optMap_get h
  refine ⟨by simp [← g1], fun i p p' hp hp' => ?_⟩
  rw [Array.toList_map, List.getElem?_map] at hp'
  cases hi : ps.toList[i]? with
  | none => rw [hi] at hp'; cases hp'
  | some q =>
    rw [hi] at hp'
    obtain ⟨y, h1, h2⟩ := g2 i q hi
    rw [hp] at h1; cases h1
    obtain ⟨a, h3, h4⟩ := opt_some h2
    have hq := ho q.2 (hx q (List.mem_of_getElem? hi)) a h3
    simp at hp'; subst hp'
    cases a <;> first | (cases h4; done) | (injection h4 with h4; subst h4; exact ⟨rfl, hq, fun _ h => (by cases h)⟩)
def AV.aggs : AV → Option (List AV) | .tup _ => none | a => some a.cells
theorem aggs_some {a : AV} {l : List AV} (h : a.aggs = some l) : l = a.cells ∧ ∀ cs, a ≠ .tup cs := by
  cases a <;> first | (cases h; done) | (injection h with h; exact ⟨h.symm, fun _ h => (by cases h)⟩)
def vbuild (E : Env) (tm : Tr AV) (t : TypeId) (ps : Array (Nat × Operand)) : Option AV := opt (E.ty.get t) fun ti => opt ti.zero.aggs fun z => opt (evP tm ps) fun parts => match ti.und with
  | .struct fs => opt (optMap (fun f : Field => opt (E.ty.get f.type) fun tf => some (f.offset, tf.size)) fs.toList) fun places => opt (fillA (lget places) z parts) fun l => some (.agg l)
  | .array _ el => opt (E.ty.get el) fun te => opt (fillA (fun i => some (i * te.size, te.size)) z parts) fun l => some (.agg l)
  | _ => none
theorem mapM_places (hE : EnvOK P E) : ∀ {fs : List Field} {places : List (Nat × Nat)}, optMap (fun f : Field => opt (E.ty.get f.type) fun tf => some (f.offset, tf.size)) fs = some places → fs.mapM (fun f => (P.info? f.type).map fun i => (f.offset, i.size)) = some places
  | [], places, h => by injection h with h; subst h; rfl
  | f :: fs, places, h => by
    obtain ⟨p, h1, h2⟩ := opt_some (show opt (opt (E.ty.get f.type) fun tf => some (f.offset, tf.size)) (fun y => opt (optMap _ fs) fun ys => some (y :: ys)) = some places from h)
    obtain ⟨ps, h3, h4⟩ := opt_some h2
    injection h4 with h4; subst h4
    obtain ⟨tf, h5, h6⟩ := opt_some h1
    injection h6 with h6; subst h6
    obtain ⟨i, g1, g2, _⟩ := (hE.ty _ _ h5).info
    rw [List.mapM_cons, mapM_places hE h3]
    simp [g1, g2]
theorem vbuild_sound (hE : EnvOK P E) {t : TypeId} {ps : Array (Nat × Operand)} (ho : Ops φ tm ρ o.op.operands.toList) (hop : o.op = .build t ps) (hv : vbuild E tm t ps = some v) : VS P w φ ρ o v := by
  obtain ⟨ti, h1, h2⟩ := opt_some hv
  obtain ⟨z, h3, h4⟩ := opt_some h2
  obtain ⟨parts, h5, h6⟩ := opt_some h4
  obtain ⟨hz1, hz2⟩ := aggs_some h3
  have hps := evP_sound (ps := ps) ho (fun p hp => by rw [hop]; simp [Op.operands]; exact ⟨p.1, by simpa using hp⟩) h5
  obtain ⟨it, g1, g2, g3, zv, g4, g5⟩ := (hE.ty _ _ h1).info
  have hund := (hE.ty _ _ h1).und
  have hcz : vrs φ z zv.cells.toList := by rw [hz1]; exact vr_cells (g5 φ) hz2
  cases hu : ti.und <;> rw [hu] at h6 hund <;> first | (cases h6; done) | skip
  · rename_i n el
    obtain ⟨te, h7, h8⟩ := opt_some h6
    obtain ⟨l, h9, h10⟩ := opt_some h8
    injection h10 with h10; subst h10
    obtain ⟨r', h11, h12⟩ := fill_sound (place' := fun i => some (i * te.size, te.size)) (fun i p hp => hp) hps hcz h9
    obtain ⟨ie, k1, k2, _⟩ := (hE.ty _ _ h7).info
    refine ⟨.agg r', ?_, ⟨r', rfl, h12⟩⟩
    have hb : P.built t (ps.map fun (i, x) => (i, ρ x)).toList = some r' := by
      unfold Program.built
      simp only [g1, hund, g4, k1, k2]
      exact h11
    simp [execOp, hop, run_build w t _ r' hb]
  · rename_i fs
    obtain ⟨places, h7, h8⟩ := opt_some h6
    obtain ⟨l, h9, h10⟩ := opt_some h8
    injection h10 with h10; subst h10
    obtain ⟨r', h11, h12⟩ := fill_sound (place' := (places.toArray[·]?)) (fun i p hp => by rw [lget_eq] at hp; simpa using hp) hps hcz h9
    refine ⟨.agg r', ?_, ⟨r', rfl, h12⟩⟩
    have hb : P.built t (ps.map fun (i, x) => (i, ρ x)).toList = some r' := by
      unfold Program.built
      simp only [g1, hund, g4, mapM_places hE h7]
      exact h11
    simp [execOp, hop, run_build w t _ r' hb]

/-! ### maps looked up -/
def keyEq (a b : AV) : Option Bool := match a with
  | .int k m => (match b with | .int k' n => ifB (Nat.beq (kidx k) (kidx k')) (some (ieq m n)) none | _ => none)
  | _ => none
def mfind (key : AV) : List (AV × AV × Nat) → Nat → Option (Option (Nat × AV))
  | [], _ => some none
  | e :: es, i => opt (keyEq key e.1) fun r => ifB r (some (some (i, e.2.1))) (mfind key es (Nat.succ i))
def keyTy (d : TypeDesc) (a : AV) : Bool := match d with
  | .int _ => (match a with | .int _ _ => true | _ => false)
  | _ => false
theorem keyEq_sound {d : TypeDesc} {a b : AV} {a' b' : Value} {r : Bool} (hd : keyTy d a = true) (ha : vr φ a a') (hb : vr φ b b') (h : keyEq a b = some r) : Instr.sameNow d a' b' = some r := by
  cases d <;> first | (cases hd; done) | skip
  cases a <;> first | (cases hd; done) | skip
  cases b <;> first | (cases h; done) | skip
  rename_i k m k' n
  obtain ⟨h1, h2⟩ := ifB_some h
  obtain rfl := kidx_inj h1
  injection h2 with h2
  have ha : a' = .int k m := ha
  have hb : b' = .int k n := hb
  rw [ieq_eq] at h2
  simp [Instr.sameNow, ha, hb, ← h2]
theorem mfind_sound {d : TypeDesc} {key : AV} {key' : Value} (hd : keyTy d key = true) (hk : vr φ key key') : ∀ {es : List (AV × AV × Nat)} {l : List MapEntry} {i : Nat} {r : Option (Nat × AV)}, mrel φ es l → mfind key es i = some r →
    (r = none ∧ Instr.findNow d key' l i = some none) ∨ ∃ j x x', r = some (j, x) ∧ Instr.findNow d key' l i = some (some (j, x')) ∧ vr φ x x'
  | [], l, i, r, hm, h => by
    have hm : l = [] := hm
    subst hm
    injection h with h
    exact Or.inl ⟨h.symm, rfl⟩
  | (k, x, b) :: es, l, i, r, hm, h => by
    obtain ⟨k', x', l', rfl, h1, h2, h3⟩ := hm
    obtain ⟨q, h4, h5⟩ := opt_some h
    have h6 := keyEq_sound hd hk h1 h4
    unfold Instr.findNow
    simp only [h6]
    cases q
    · exact mfind_sound hd hk h3 h5
    · injection h5 with h5
      exact Or.inr ⟨i, x, x', h5.symm, rfl, h2⟩
theorem checkKey_ok {t : TypeId} {ti : TI} (hti : TIOK P t ti) {key : AV} {key' : Value} (hd : keyTy ti.und key = true) (hk : vr φ key key') (b : Bool) (w : World) : (Instr.checkKey b 10000 t key').run P w = .ok () w := by
  unfold Instr.checkKey
  have hun := hti.run_und w
  cases hu : ti.und <;> rw [hu] at hd hun <;> first | (cases hd; done) | skip
  cases key <;> first | (cases hd; done) | skip
  have hk : key' = _ := hk
  simp [hun, hk]
def mapOf (h : H) (a : AV) : Option (List (AV × AV × Nat)) := match a with
  | .nilmap => some []
  | .map b => opt (blk h b) fun ob => match ob with | .map es _ => some es | _ => none
  | _ => none
def vlookup (E : Env) (tm : Tr AV) (h : H) (t : TypeId) (x ix : Operand) (ok : Bool) : Option AV := opt (E.ty.get t) fun ti => match ti.und with
  | .map kt vt => opt (E.ty.get kt) fun tk => opt (E.ty.get vt) fun tv => opt (aev tm x) fun a => opt (mapOf h a) fun es => opt (aev tm ix) fun key => ifB (keyTy tk.und key) (opt (mfind key es 0) fun r => match r with
    | some (_, x) => some (ifB ok (.tup [x, .bool true]) x)
    | none => some (ifB ok (.tup [tv.zero, .bool false]) tv.zero)) none
  | _ => none
theorem vlookup_sound (hE : EnvOK P E) (hr : HR w0 φ h w) {t : TypeId} {x ix : Operand} {ok : Bool} (ho : Ops φ tm ρ o.op.operands.toList) (hop : o.op = .lookup t x ix ok) (hv : vlookup E tm h t x ix ok = some v) : VS P w φ ρ o v := by
  obtain ⟨ti, h1, h2⟩ := opt_some hv
  have hun := (hE.ty _ _ h1).run_und w
  cases hu : ti.und <;> rw [hu] at h2 hun <;> first | (cases h2; done) | skip
  rename_i kt vt
  obtain ⟨tk, h3, h4⟩ := opt_some h2
  obtain ⟨tv, h5, h6⟩ := opt_some h4
  obtain ⟨a, h7, h8⟩ := opt_some h6
  obtain ⟨es, h9, h10⟩ := opt_some h8
  obtain ⟨key, h11, h12⟩ := opt_some h10
  obtain ⟨h13, h14⟩ := ifB_some h12
  obtain ⟨r, h15, h16⟩ := opt_some h14
  have hx := ho.at (x := x) (by simp [hop, Op.operands]) h7
  have hk := ho.at (x := ix) (by simp [hop, Op.operands]) h11
  obtain ⟨z, hz1, hz2⟩ := (hE.ty _ _ h5).run_zero
  have htk := hE.ty _ _ h3
  have hkun := htk.run_und w
  -- the entries
  obtain ⟨es', clock, hes, hrun⟩ : ∃ (es' : Array MapEntry) (clock : Nat), mrel φ es es'.toList ∧ (ρ x = .map none ∧ es' = #[] ∨ ∃ k, ρ x = .map (some k) ∧ (getObj k).run P w = .ok (.map es' clock) w) := by
    cases a <;> first | (cases h9; done) | skip
    · injection h9 with h9; subst h9
      exact ⟨#[], 0, rfl, Or.inl ⟨hx, rfl⟩⟩
    · obtain ⟨ob, g1, g2⟩ := opt_some h9
      cases ob <;> first | (cases g2; done) | skip
      injection g2 with g2; subst g2
      obtain ⟨k, sz, hb, hxx⟩ := hx
      obtain ⟨o', hkk, es', ho', hm⟩ := hr.obj _ _ k sz g1 hb
      subst ho'
      exact ⟨es', _, hm, Or.inr ⟨k, hxx, by simp [getObj, Sem.run, hkk]; rfl⟩⟩
  have hck := fun b => checkKey_ok (φ := φ) htk h13 hk b w
  have hres : ∀ (x1 : AV) (x1' : Value) (bb : Bool), vr φ x1 x1' → some (ifB ok (AV.tup [x1, .bool bb]) x1) = some v → vr φ v (if ok = true then Value.tuple #[x1', .bool bb] else x1') := by
    intro x1 x1' bb hh he
    injection he with he; subst he
    cases ok
    · exact hh
    · exact ⟨_, rfl, _, _, rfl, hh, _, _, rfl, rfl, rfl⟩
  have hlook : ∀ (r' : Option (Nat × Value)), Instr.findNow tk.und (ρ ix) es'.toList 0 = some r' → ∀ u, (match r' with | some (_, y) => (y, true) | none => (z, false)) = u →
      (Instr.lookup t (ρ x) (ρ ix) ok).run P w = .ok (if ok = true then .tuple #[u.1, .bool u.2] else u.1) w := by
    intro r' hr' u hu'
    have hfk : (Instr.findKey kt (ρ ix) es'.toList).run P w = .ok r' w := by
      unfold Instr.findKey
      simp [hkun, hr']
    unfold Instr.lookup
    rcases hrun with ⟨e1, e2⟩ | ⟨k, e1, e2⟩
    · subst e2
      simp only [Sem.run_bind, hun, Result.andThen_ok, e1, Sem.run_pure, hck, hfk]
      cases r' with
      | none => simp [hz1, ← hu']
      | some p => simp [← hu']
    · simp only [Sem.run_bind, hun, Result.andThen_ok, e1, e2, Sem.run_pure, hck, hfk]
      cases r' with
      | none => simp [hz1, ← hu']
      | some p => simp [← hu']
  rcases mfind_sound h13 hk hes h15 with ⟨rfl, hf⟩ | ⟨j, y, y', rfl, hf, hy⟩
  · refine ⟨_, ?_, hres tv.zero z false (hz2 φ) h16⟩
    have := hlook none hf (z, false) rfl
    simp [execOp, hop, this]
  · refine ⟨_, ?_, hres y y' true hy h16⟩
    have := hlook (some (j, y')) hf (y', true) rfl
    simp [execOp, hop, this]

end
end
end Go.Proofs.Ytdhnacajgmjmlaa.Ev
