/- An abstract machine, part 10e: structs and arrays compared. Of no program. -/
import Derived.Laws.StructEq
import Derived.Test.YtdhnacajgmjmlaaEvF
namespace Go.Proofs.Ytdhnacajgmjmlaa.Ev
open Go.RowKit
noncomputable section
set_option linter.unusedVariables false
set_option linter.unusedSimpArgs false

section
variable {P : Program} {E : Env} {w0 w : World} {φ : Phi} {h : H} {tm : Tr AV} {ρ : Operand → Value} {o : Oper} {v : AV}

def eqLeaf (d : TypeDesc) (a b : AV) : Option Bool := match d with
  | .int _ => (match a with | .int k m => (match b with | .int k' n => ifB (Nat.beq (kidx k) (kidx k')) (some (ieq m n)) none | _ => none) | _ => none)
  | .bool => (match a with | .bool p => (match b with | .bool q => some (ifB p q (not q)) | _ => none) | _ => none)
  | .string => (match a with | .str s => (match b with | .str s' => some (bytesEq s.data.toList s'.data.toList) | _ => none) | _ => none)
  | _ => none
def eqFs (E : Env) (rec : Nat → AV → AV → Option Bool) (xs ys : List AV) : List Field → Option Bool
  | [] => some true
  | f :: fs => opt (E.ty.get f.type) fun tf => opt (partOf tf xs f.offset) fun a => opt (partOf tf ys f.offset) fun b => opt (rec f.type a b) fun r => ifB r (eqFs E rec xs ys fs) (some false)
def eqEs (el : Nat) (te : TI) (rec : Nat → AV → AV → Option Bool) (xs ys : List AV) : Nat → Nat → Option Bool
  | 0, _ => some true
  | n + 1, i => opt (partOf te xs (Nat.mul i te.size)) fun a => opt (partOf te ys (Nat.mul i te.size)) fun b => opt (rec el a b) fun r => ifB r (eqEs el te rec xs ys n (Nat.succ i)) (some false)
def eqG (E : Env) : Nat → Nat → AV → AV → Option Bool
  | 0, _, _, _ => none
  | d + 1, t, a, b => opt (E.ty.get t) fun ti => match ti.und with
    | .struct fs => (match a with | .agg xs => (match b with | .agg ys => opt (E.plain.get t) fun _ => eqFs E (eqG E d) xs ys fs.toList | _ => none) | _ => none)
    | .array len el => (match a with | .agg xs => (match b with | .agg ys => opt (E.ty.get el) fun te => eqEs el te (eqG E d) xs ys len 0 | _ => none) | _ => none)
    | u => eqLeaf u a b
theorem eqLeaf_sound {t : TypeId} {u : TypeDesc} (hu : P.underlying t = some u) {a b : AV} {a' b' : Value} {r : Bool} (ha : vr φ a a') (hb : vr φ b b') (hv : eqLeaf u a b = some r) (d : Nat) : (Op.equalIn (d + 1) t a' b').run P w = .ok r w := by
  cases u <;> first | (cases hv; done) | skip
  · cases a <;> first | (cases hv; done) | skip
    cases b <;> first | (cases hv; done) | skip
    rename_i p q
    have ha : a' = .bool p := ha
    have hb : b' = .bool q := hb
    subst ha hb
    injection hv with hv; subst hv
    rw [run_equalIn_bool' w d t p q hu]
    cases p <;> cases q <;> rfl
  · cases a <;> first | (cases hv; done) | skip
    cases b <;> first | (cases hv; done) | skip
    rename_i k0 k m k' n
    have ha : a' = .int k m := ha
    have hb : b' = .int k' n := hb
    subst ha hb
    obtain ⟨h1, h2⟩ := ifB_some hv
    have h1 := kidx_inj h1
    subst h1
    injection h2 with h2; subst h2
    rw [run_equalIn_int w d t k k0 m n hu, ieq_eq]
  · cases a <;> first | (cases hv; done) | skip
    cases b <;> first | (cases hv; done) | skip
    rename_i s s'
    have ha : a' = .string s := ha
    have hb : b' = .string s' := hb
    subst ha hb
    injection hv with hv; subst hv
    rw [run_equalIn_string w d t s s' hu, ByteArray.toList_eq, ByteArray.toList_eq]
    rfl
theorem eqG_sound (hE : EnvOK P E) : ∀ (d d' : Nat) (t : Nat) (a b : AV) (a' b' : Value) (r : Bool), d ≤ d' → vr φ a a' → vr φ b b' → eqG E d t a b = some r → (Op.equalIn d' t a' b').run P w = .ok r w
  | 0, _, _, _, _, _, _, _, _, _, _, hv => by cases hv
  | d + 1, 0, _, _, _, _, _, _, hd, _, _, _ => by omega
  | d + 1, d' + 1, t, a, b, a', b', r, hd, ha, hb, hv => by
    obtain ⟨ti, h1, h2⟩ := opt_some hv
    have hti := hE.ty _ _ h1
    have und := hti.und
    have leaf : eqLeaf ti.und a b = some r → (Op.equalIn (d' + 1) t a' b').run P w = .ok r w := fun q => eqLeaf_sound und ha hb q d'
    cases hu : ti.und <;> rw [hu] at h2 und leaf <;> first | exact leaf h2 | skip
    case struct fs =>
      cases a <;> first | (cases h2; done) | skip
      cases b <;> first | (cases h2; done) | skip
      rename_i xs ys
      obtain ⟨xs', ha, hxs⟩ := ha
      obtain ⟨ys', hb, hys⟩ := hb
      subst ha hb
      obtain ⟨_, h3, h4⟩ := opt_some h2
      obtain ⟨p1, p2, p3⟩ := hE.plain _ _ h3
      have hf : P.fieldsOf t = fs := by simp [Program.fieldsOf, und]
      rw [run_equalIn_struct w d' t xs' ys' (by rw [hf]; exact und) p1, hf]
      have p3 := p3 fs und
      have : ∀ (l : List Field) (r : Bool), (∀ f ∈ l, f.name ≠ "_") → eqFs E (eqG E d) xs ys l = some r → (Op.eqFields d' xs' ys' l).run P w = .ok r w := by
        intro l
        induction l with
        | nil => intro r _ hq; injection hq with hq; subst hq; rfl
        | cons f l ih =>
          intro r hn hq
          obtain ⟨tf, g1, g2⟩ := opt_some hq
          obtain ⟨x, g3, g4⟩ := opt_some g2
          obtain ⟨y, g5, g6⟩ := opt_some g4
          obtain ⟨q, g7, g8⟩ := opt_some g6
          obtain ⟨x', k1, k2⟩ := partOf_sound (w := w) (hE.ty _ tf g1) hxs g3
          obtain ⟨y', k3, k4⟩ := partOf_sound (w := w) (hE.ty _ tf g1) hys g5
          have k5 := eqG_sound hE d d' _ _ _ _ _ _ (by omega) k2 k4 g7
          have hnm : f.name ≠ "_" := hn f (List.mem_cons_self ..)
          unfold Op.eqFields
          rw [if_pos hnm]
          simp only [Sem.run_bind, k1, k3, k5, Result.andThen_ok]
          cases q
          · injection g8 with g8; subst g8; simp
          · simp only [Bool.not_true, Bool.false_eq_true, if_false]
            exact ih r (fun f hf => hn f (List.mem_cons_of_mem _ hf)) g8
      exact this fs.toList r (fun f hf => p3 f (by simpa using hf)) h4
    case array len el =>
      cases a <;> first | (cases h2; done) | skip
      cases b <;> first | (cases h2; done) | skip
      rename_i xs ys
      obtain ⟨xs', ha, hxs⟩ := ha
      obtain ⟨ys', hb, hys⟩ := hb
      subst ha hb
      obtain ⟨te, h3, h4⟩ := opt_some h2
      have hte := hE.ty _ _ h3
      simp only [Op.equalIn, Sem.run_bind, run_underlying und, Result.andThen_ok, hte.run_size]
      rw [Std.Legacy.Range.forIn_eq_forIn_range']
      have : ∀ (n i : Nat) (r : Bool), eqEs el te (eqG E d) xs ys n i = some r → ((forIn (List.range' i n 1) (none, ()) fun i (_ : Option Bool × Unit) => (do
            let a ← part el xs' (i * te.size)
            let b ← part el ys' (i * te.size)
            let q ← Op.equalIn d' el a b
            if (!q) = true then pure (ForInStep.done (some false, ())) else pure (ForInStep.yield (none, ())) : Sem (ForInStep (Option Bool × Unit)))).run P w = .ok (if r = true then (none, ()) else (some false, ())) w) := by
        intro n
        induction n with
        | zero => intro i r hq; injection hq with hq; subst hq; simp
        | succ n ih =>
          intro i r hq
          obtain ⟨x, g3, g4⟩ := opt_some hq
          obtain ⟨y, g5, g6⟩ := opt_some g4
          obtain ⟨q, g7, g8⟩ := opt_some g6
          obtain ⟨x', k1, k2⟩ := partOf_sound (w := w) hte hxs g3
          obtain ⟨y', k3, k4⟩ := partOf_sound (w := w) hte hys g5
          have k1 : (part el xs' (i * te.size)).run P w = .ok x' w := k1
          have k3 : (part el ys' (i * te.size)).run P w = .ok y' w := k3
          have k5 := eqG_sound hE d d' _ _ _ _ _ _ (by omega) k2 k4 g7
          rw [List.range'_succ, List.forIn_cons]
          simp only [Sem.run_bind, k1, k3, k5, Result.andThen_ok]
          cases q
          · injection g8 with g8; subst g8; simp
          · simp only [Bool.not_true, Bool.false_eq_true, if_false, Sem.run_pure, Result.andThen_ok]
            exact ih (i + 1) r g8
      have h5 := this len 0 r h4
      simp at h5 ⊢
      cases r <;> simp [h5]
def veq (E : Env) (tm : Tr AV) (op : BinOp) (t : TypeId) (x y : Operand) : Option AV := opt (aev tm x) fun a => opt (aev tm y) fun b => match a with
  | .agg xs => (match b with
    | .agg ys => opt (E.plain.get t) fun _ => opt (eqG E 8 t (.agg xs) (.agg ys)) fun r => (match op with
      | .eql => some (.bool r)
      | .neq => retB (not r)
      | _ => none)
    | _ => none)
  | _ => none
theorem veq_sound (hE : EnvOK P E) {op : BinOp} {t yt : TypeId} {x y : Operand} (ho : Ops φ tm ρ o.op.operands.toList) (hop : o.op = .binOp op t x y yt) (hv : veq E tm op t x y = some v) : VS P w φ ρ o v := by
  obtain ⟨a, h1, h2⟩ := opt_some hv
  obtain ⟨b, h3, h4⟩ := opt_some h2
  have ha := ho.at (x := x) (by simp [hop, Op.operands]) h1
  have hb := ho.at (x := y) (by simp [hop, Op.operands]) h3
  cases a <;> first | (cases h4; done) | skip
  cases b <;> first | (cases h4; done) | skip
  rename_i xs ys
  obtain ⟨_, h5, h6⟩ := opt_some h4
  obtain ⟨r, h7, h8⟩ := opt_some h6
  obtain ⟨p1, p2, p3⟩ := hE.plain _ _ h5
  have he := fun (w : World) => eqG_sound (w := w) hE 8 10000 t _ _ _ _ r (by omega) ha hb h7
  obtain ⟨xs', ha, hxs⟩ := ha
  obtain ⟨ys', hb, hys⟩ := hb
  rw [ha, hb] at he
  have hg := run_eqGuard_agg (P := P) w op t x y xs' ys' p2
  cases op <;> first | (cases h8; done) | skip
  · injection h8 with h8; subst h8
    refine ⟨.bool r, ?_, rfl⟩
    have hbin := run_eql_struct (P := P) w t xs' ys'
    rw [he w] at hbin
    simp [execOp, hop, ha, hb, hg, hbin]
  · have h8 : retB (not r) = some v := h8
    rw [retB_eq] at h8
    injection h8 with h8; subst h8
    refine ⟨.bool (!r), ?_, rfl⟩
    have hbin := run_neq_struct (P := P) w t xs' ys'
    rw [he w] at hbin
    simp [execOp, hop, ha, hb, hg, hbin]
end

end
end Go.Proofs.Ytdhnacajgmjmlaa.Ev
