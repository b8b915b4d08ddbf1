/- An abstract machine, part 5: operators, conversions, slice expressions, lengths. Of no program. -/
import Derived.Laws.Bits
import Derived.Test.YtdhnacajgmjmlaaEvD
namespace Go.Proofs.Ytdhnacajgmjmlaa.Ev
open Go.RowKit
noncomputable section
set_option linter.unusedVariables false

section
variable {P : Program} {E : Env} {w0 w : World} {φ : Phi} {h : H} {tm : Tr AV} {ρ : Operand → Value} {o : Oper} {v : AV}

/-! ### operators on integers -/
def retI (k : IntKind) (n : Int) : Option AV := seqI (wrapI k n) fun r => some (.int k r)
def retB (b : Bool) : Option AV := seqB b fun b => some (.bool b)
theorem retI_eq (k : IntKind) (n : Int) : retI k n = some (.int k (k.wrap n)) := by unfold retI; rw [seqI_eq, wrapI_eq]
theorem retB_eq (b : Bool) : retB b = some (.bool b) := seqB_eq _ _
def shlI (k : IntKind) (m : Int) (j : Nat) : Option AV := match m with
  | .ofNat p => retI k (.ofNat (Nat.shiftLeft p (Nat.min j k.bits)))
  | m => retI k (m * 2 ^ (Nat.min j k.bits))
def shrI (k : IntKind) (m : Int) (j : Nat) : Option AV := match m with
  | .ofNat p => seqN (Nat.shiftRight p (Nat.min j k.bits)) fun r => some (.int k (.ofNat r))
  | m => seqI (m.fdiv (2 ^ (Nat.min j k.bits))) fun r => some (.int k r)
theorem shlI_eq (k : IntKind) (m : Int) (j : Nat) : shlI k m j = some (.int k (k.wrap (m * 2 ^ (min j k.bits)))) := by
  unfold shlI
  split
  · rename_i p
    rw [retI_eq]
    congr 3
    show Int.ofNat (p <<< min j k.bits) = _
    rw [Nat.shiftLeft_eq]
    simp [Int.natCast_pow]
  · rw [retI_eq]
theorem shrI_eq (k : IntKind) (m : Int) (j : Nat) : shrI k m j = some (.int k (m.fdiv (2 ^ (min j k.bits)))) := by
  unfold shrI
  split
  · rename_i p
    rw [seqN_eq]
    congr 2
    show Int.ofNat (p >>> min j k.bits) = _
    rw [Nat.shiftRight_eq_div_pow]
    have : ((2 : Int) ^ (min j k.bits)) = ((2 ^ (min j k.bits) : Nat) : Int) := by simp
    rw [this]
    exact (Int.ofNat_fdiv _ _)
  · rw [seqI_eq]
def intOp (op : BinOp) (k : IntKind) (a : Int) (k' : IntKind) (b : Int) : Option AV :=
  match op with
  | .shl => match b with | .ofNat j => shlI k a j | _ => none
  | .shr => match b with | .ofNat j => shrI k a j | _ => none
  | op => ifB (Nat.beq (kidx k) (kidx k')) (match op with
    | .add => retI k (Int.add a b)
    | .sub => retI k (Int.sub a b)
    | .mul => retI k (Int.mul a b)
    | .quo => ifB (ieq b 0) none (retI k (Int.tdiv a b))
    | .rem => ifB (ieq b 0) none (seqI (Int.tmod a b) fun r => some (.int k r))
    | .and => retI k (.ofNat (Nat.land (natOf k a) (natOf k b)))
    | .or => retI k (.ofNat (Nat.lor (natOf k a) (natOf k b)))
    | .xor => retI k (.ofNat (Nat.xor (natOf k a) (natOf k b)))
    | .andNot => retI k (.ofNat (Nat.land (natOf k a) (Nat.sub (Nat.sub (lim k) 1) (natOf k b))))
    | .eql => retB (ieq a b)
    | .neq => retB (not (ieq a b))
    | .lss => retB (ilt a b)
    | .leq => retB (not (ilt b a))
    | .gtr => retB (ilt b a)
    | .geq => retB (not (ilt a b))
    | _ => none) none
theorem intOp_sound {op : BinOp} {k k' : IntKind} {a b : Int} {t : TypeId} (hv : intOp op k a k' b = some v) :
    ∃ v', (binOp op t (.int k a) (.int k' b)).run P w = .ok v' w ∧ vr φ v v' := by
  have key : ∀ {u : AV} (u' : Value), some u = some v → vr φ u u' → (binOp op t (.int k a) (.int k' b)).run P w = .ok u' w →
      ∃ v', (binOp op t (.int k a) (.int k' b)).run P w = .ok v' w ∧ vr φ v v' := by
    intro u u' h1 h2 h4
    injection h1 with h1; subst h1
    exact ⟨u', h4, h2⟩
  have hz : ∀ {x : Option AV}, ifB (ieq b 0) none x = some v → b ≠ 0 ∧ x = some v := by
    intro x hx
    rw [ieq_eq] at hx
    cases hb : (b == 0)
    · rw [hb] at hx; exact ⟨by simpa using hb, hx⟩
    · rw [hb] at hx; cases hx
  cases op <;> simp only [intOp] at hv
  case shl =>
    cases b with
    | ofNat j => simp only [shlI_eq] at hv; exact key _ hv rfl (by simp [binOp, Op.shift]; exact fun hc => absurd hc (by omega))
    | negSucc j => cases hv
  case shr =>
    cases b with
    | ofNat j => simp only [shrI_eq] at hv; exact key _ hv rfl (by simp [binOp, Op.shift]; exact fun hc => absurd hc (by omega))
    | negSucc j => cases hv
  all_goals
    obtain ⟨hk, h3⟩ := ifB_some hv
    clear hv
    obtain rfl := kidx_inj hk
  case add => rw [retI_eq] at h3; exact key (.int k (k.wrap (a + b))) h3 rfl (by simp [binOp, Op.intArith])
  case sub => rw [retI_eq] at h3; exact key (.int k (k.wrap (a - b))) h3 rfl (by simp [binOp, Op.intArith])
  case mul => rw [retI_eq] at h3; exact key (.int k (k.wrap (a * b))) h3 rfl (by simp [binOp, Op.intArith])
  case quo => obtain ⟨h0, h3⟩ := hz h3; rw [retI_eq] at h3; exact key _ h3 rfl (by simp [binOp, Op.intDiv, h0])
  case rem => obtain ⟨h0, h3⟩ := hz h3; rw [seqI_eq] at h3; exact key _ h3 rfl (by simp [binOp, Op.intDiv, h0])
  case and => rw [retI_eq, natOf_eq, natOf_eq] at h3; exact key (.int k (k.wrap ((BitVec.ofInt k.bits a).toNat &&& (BitVec.ofInt k.bits b).toNat : Nat))) h3 rfl (by simp [binOp, Op.intBits])
  case or => rw [retI_eq, natOf_eq, natOf_eq] at h3; exact key (.int k (k.wrap ((BitVec.ofInt k.bits a).toNat ||| (BitVec.ofInt k.bits b).toNat : Nat))) h3 rfl (by simp [binOp, Op.intBits])
  case xor => rw [retI_eq, natOf_eq, natOf_eq] at h3; exact key (.int k (k.wrap ((BitVec.ofInt k.bits a).toNat ^^^ (BitVec.ofInt k.bits b).toNat : Nat))) h3 rfl (by simp [binOp, Op.intBits])
  case andNot => rw [retI_eq, natOf_eq, natOf_eq, lim_eq] at h3; exact key (.int k (k.wrap ((BitVec.ofInt k.bits a).toNat &&& (2 ^ k.bits - 1 - (BitVec.ofInt k.bits b).toNat) : Nat))) h3 rfl (by simp [binOp, Op.intBits])
  case eql => rw [retB_eq, ieq_eq] at h3; exact key _ h3 rfl (by simp [binOp, Op.intCmp])
  case neq => rw [retB_eq, ieq_eq] at h3; exact key _ h3 rfl (by simp [binOp, Op.intCmp, bne])
  case lss => rw [retB_eq, ilt_eq] at h3; exact key _ h3 rfl (by simp [binOp, Op.intCmp])
  case leq => rw [retB_eq, ilt_eq] at h3; exact key _ h3 rfl (by simp [binOp, Op.intCmp]; rw [Bool.eq_iff_iff]; simp)
  case gtr => rw [retB_eq, ilt_eq] at h3; exact key _ h3 rfl (by simp [binOp, Op.intCmp])
  case geq => rw [retB_eq, ilt_eq] at h3; exact key _ h3 rfl (by simp [binOp, Op.intCmp]; rw [Bool.eq_iff_iff]; simp)

/-! ### equality of what is no integer -/
def isConstO (x : Operand) : Bool := match x with | .const _ => true | _ => false
def isCells (h : H) (b : Nat) : Bool := match blk h b with | some (.cells ..) => true | _ => false
def eqA (E : Env) (h : H) (t : TypeId) (x y : Operand) (a b : AV) : Option Bool := opt (E.ty.get t) fun ti => match ti.und with
  | .bool => match a with | .bool p => (match b with | .bool q => some (ifB p q (not q)) | _ => none) | _ => none
  | .pointer el => match a with
    | .nilptr => (match b with | .nilptr => some true | .ptr _ _ => some false | _ => none)
    | .ptr p o => (match b with
      | .nilptr => some false
      | .ptr q o' => opt (E.ty.get el) fun te => ifB (Nat.beq te.size 0) none (ifB (Nat.beq p q) (some (Nat.beq o o')) (ifB (isCells h p) (ifB (isCells h q) (some false) none) none))
      | _ => none)
    | _ => none
  | .interface ms => match a with
    | .niliface => (match b with | .niliface => ifB (or (isConstO x) (isConstO y)) (some true) none | .iface _ _ => some false | _ => none)
    | .iface _ _ => (match b with | .niliface => some false | _ => none)
    | _ => none
  | .slice _ => match a with
    | .nilsl => (match b with | .nilsl => some true | .sl _ _ _ _ => some false | .slz _ => some false | _ => none)
    | .sl _ _ _ _ => (match b with | .nilsl => some false | _ => none)
    | .slz _ => (match b with | .nilsl => some false | _ => none)
    | _ => none
  | .map _ _ => match a with
    | .nilmap => (match b with | .nilmap => some true | .map _ => some false | _ => none)
    | .map _ => (match b with | .nilmap => some false | _ => none)
    | _ => none
  | .func _ _ _ => match a with
    | .nilfunc => (match b with | .nilfunc => some true | .func _ _ _ => some false | _ => none)
    | .func _ _ _ => (match b with | .nilfunc => some false | _ => none)
    | _ => none
  | _ => none
theorem sameAddr_far {w : World} {k k' oa ob e e' : Nat} {c c' : Array Value} (hk : w.heap[k]? = some (.cells c e (0, 0))) (hk' : w.heap[k']? = some (.cells c' e' (0, 0))) (hne : k ≠ k') :
    (sameAddr ⟨k, oa, none⟩ ⟨k', ob, none⟩).run P w = .ok false w := by
  have f1 : ∀ i, w.frozen? ⟨k, i, none⟩ = false := fun i => by simp [World.frozen?, hk]
  have f2 : ∀ i, w.frozen? ⟨k', i, none⟩ = false := fun i => by simp [World.frozen?, hk']
  have s1 : w.shape? k = some (e, c.size) := by simp [World.shape?, hk]
  have s2 : w.shape? k' = some (e', c'.size) := by simp [World.shape?, hk']
  simp [sameAddr, hne, frozen, Sem.run, f1, f2, noView, viewAt, shape, s1, s2, mayBeOne, stringish]
theorem equal_at {t : TypeId} {x y : Value} {b : Bool} (h : (Op.equalIn Op.maxDepth t x y).run P w = .ok b w) : (Op.equal t x y).run P w = .ok b w := h
theorem eqA_sound (hE : EnvOK P E) (hr : HR w0 φ h w) {t : TypeId} {x y : Operand} {a b : AV} {a' b' : Value} {r : Bool} (ha : vr φ a a') (hb : vr φ b b') (hv : eqA E h t x y a b = some r) :
    (Op.equal t a' b').run P w = .ok r w := by
  obtain ⟨ti, h1, h2⟩ := opt_some hv
  have hun := (hE.ty t ti h1).run_und w
  refine equal_at ?_
  show (Op.equalIn (9999 + 1) t a' b').run P w = .ok r w
  cases hu : ti.und <;> rw [hu] at h2 hun <;> first | (cases h2; done) | skip
  · -- bool
    cases a <;> first | (cases h2; done) | skip
    cases b <;> first | (cases h2; done) | skip
    rename_i p q
    have ha : a' = .bool p := ha
    have hb : b' = .bool q := hb
    injection h2 with h2
    subst ha hb
    unfold Op.equalIn
    simp [hun, ← h2]
    cases p <;> cases q <;> rfl
  · rename_i el
    cases a <;> first | (cases h2; done) | skip
    · have ha : a' = .pointer none := ha
      cases b <;> first | (cases h2; done) | skip
      · have hb : b' = .pointer none := hb
        subst ha hb
        unfold Op.equalIn
        simp [hun]
        injection h2 with h2; exact h2.symm
      · obtain ⟨k, sz, h5, hb⟩ := hb
        subst ha hb
        unfold Op.equalIn
        simp [hun]
        injection h2 with h2; exact h2.symm
    · obtain ⟨k, sz, h5, ha⟩ := ha
      rename_i p oa
      cases b <;> first | (cases h2; done) | skip
      · have hb : b' = .pointer none := hb
        subst ha hb
        unfold Op.equalIn
        simp [hun]
        injection h2 with h2; exact h2.symm
      · rename_i q ob
        obtain ⟨k', sz', h6, hb⟩ := hb
        obtain ⟨te, h7, h8⟩ := opt_some h2
        have hz : te.size ≠ 0 := by intro hz; rw [hz] at h8; cases h8
        have hz' : Nat.beq te.size 0 = false := by
          cases hh : te.size with
          | zero => exact absurd hh hz
          | succ n => rfl
        rw [hz'] at h8
        have hts := (hE.ty el te h7).run_size w
        subst ha hb
        unfold Op.equalIn
        simp only [Sem.run_bind, hun, Result.andThen_ok, hts, ne_eq, hz, not_false_eq_true, if_true]
        have h8' : ifB (Nat.beq p q) (some (Nat.beq oa ob)) (ifB (isCells h p) (ifB (isCells h q) (some false) none) none) = some r := h8
        rw [ifB_eq] at h8'
        split at h8'
        · rename_i hpq
          have hpq' : p = q := Nat.eq_of_beq_eq_true hpq
          subst hpq'
          rw [h5] at h6; injection h6 with h6; injection h6 with h6 _; subst h6
          injection h8' with h8'
          simp [sameAddr, ← h8']
          rw [Bool.eq_iff_iff]; simp
        · rename_i hpq
          obtain ⟨g1, g2⟩ := ifB_some h8'
          obtain ⟨g3, g4⟩ := ifB_some g2
          injection g4 with g4; subst g4
          unfold isCells at g1 g3
          split at g1 <;> first | cases g1 | skip
          split at g3 <;> first | cases g3 | skip
          rename_i c1 n1 e1 d1 x1 hq1 _ c2 n2 e2 d2 x2 hq2
          obtain ⟨o1, hh1, ar1, ho1, _⟩ := hr.obj p (.cells c1 n1 e1 d1 x1) k sz hq1 h5
          obtain ⟨o2, hh2, ar2, ho2, _⟩ := hr.obj q (.cells c2 n2 e2 d2 x2) k' sz' hq2 h6
          subst ho1 ho2
          have hkk : k ≠ k' := by
            rintro rfl
            have := hr.inj p q k sz sz' h5 h6 (by rw [show h.t.get p = _ from hq1]; simp) (by rw [show h.t.get q = _ from hq2]; simp)
            subst this
            exact hpq (Nat.beq_refl p)
          exact sameAddr_far hh1 hh2 hkk
  · cases a <;> first | (cases h2; done) | skip
    · rename_i u
      have ha : a' = .slice none 0 0 := ha
      cases b <;> first | (cases h2; done) | skip
      · have hb : b' = .slice none 0 0 := hb
        subst ha hb
        unfold Op.equalIn
        simp [hun]
        injection h2 with h2; exact h2.symm
      · obtain ⟨k, sz, c', h5, hb, _⟩ := hb
        subst ha hb
        unfold Op.equalIn
        simp [hun]
        injection h2 with h2; exact h2.symm
      · obtain ⟨k, sz, o, c', h5, hb⟩ := hb
        subst ha hb
        unfold Op.equalIn
        simp [hun]
        injection h2 with h2; exact h2.symm
    · obtain ⟨k, sz, c', h5, ha, _⟩ := ha
      cases b <;> first | (cases h2; done) | skip
      have hb : b' = .slice none 0 0 := hb
      subst ha hb
      unfold Op.equalIn
      simp [hun]
      injection h2 with h2; exact h2.symm
    · obtain ⟨k, sz, o, c', h5, ha⟩ := ha
      cases b <;> first | (cases h2; done) | skip
      have hb : b' = .slice none 0 0 := hb
      subst ha hb
      unfold Op.equalIn
      simp [hun]
      injection h2 with h2; exact h2.symm
  · cases a <;> first | (cases h2; done) | skip
    · have ha : a' = .map none := ha
      cases b <;> first | (cases h2; done) | skip
      · have hb : b' = .map none := hb
        subst ha hb
        unfold Op.equalIn
        simp [hun]
        injection h2 with h2; exact h2.symm
      · obtain ⟨k, sz, h5, hb⟩ := hb
        subst ha hb
        unfold Op.equalIn
        simp [hun]
        injection h2 with h2; exact h2.symm
    · obtain ⟨k, sz, h5, ha⟩ := ha
      cases b <;> first | (cases h2; done) | skip
      have hb : b' = .map none := hb
      subst ha hb
      unfold Op.equalIn
      simp [hun]
      injection h2 with h2; exact h2.symm
  · cases a <;> first | (cases h2; done) | skip
    · obtain ⟨fi, ca, ha, _⟩ := ha
      cases b <;> first | (cases h2; done) | skip
      have hb : b' = .nilFunc := hb
      subst ha hb
      unfold Op.equalIn
      simp [hun]
      injection h2 with h2; exact h2.symm
    · have ha : a' = .nilFunc := ha
      cases b <;> first | (cases h2; done) | skip
      · obtain ⟨fi, ca, hb, _⟩ := hb
        subst ha hb
        unfold Op.equalIn
        simp [hun]
        injection h2 with h2; exact h2.symm
      · have hb : b' = .nilFunc := hb
        subst ha hb
        unfold Op.equalIn
        simp [hun]
        injection h2 with h2; exact h2.symm
  · cases a <;> first | (cases h2; done) | skip
    · obtain ⟨x', ha, _⟩ := ha
      cases b <;> first | (cases h2; done) | skip
      have hb : b' = .nilIface := hb
      subst ha hb
      unfold Op.equalIn
      simp [hun]
      injection h2 with h2; exact h2.symm
    · have ha : a' = .nilIface := ha
      cases b <;> first | (cases h2; done) | skip
      · obtain ⟨x', hb, _⟩ := hb
        subst ha hb
        unfold Op.equalIn
        simp [hun]
        injection h2 with h2; exact h2.symm
      · have hb : b' = .nilIface := hb
        obtain ⟨_, h3⟩ := ifB_some h2
        subst ha hb
        unfold Op.equalIn
        injection h3 with h3
        simp [hun, ← h3]
end

end
end Go.Proofs.Ytdhnacajgmjmlaa.Ev
