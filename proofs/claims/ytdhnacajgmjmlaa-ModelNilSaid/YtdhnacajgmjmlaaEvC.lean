/- An abstract machine, part 3: numbers, the environment, operands. Of no program. -/
import Derived.Laws.Wrap64
import Derived.Laws.Slices
import Derived.Test.YtdhnacajgmjmlaaEvB
namespace Go.Proofs.Ytdhnacajgmjmlaa.Ev
open Go.RowKit
noncomputable section
set_option linter.unusedVariables false

/-! ### to a numeral -/
def seqN {β : Type} (n : Nat) (k : Nat → β) : β := Nat.rec (motive := fun _ => β) (k 0) (fun m _ => k (Nat.succ m)) n
theorem seqN_eq {β : Type} (n : Nat) (k : Nat → β) : seqN n k = k n := by cases n <;> rfl
def seqI {β : Type} (n : Int) (k : Int → β) : β := Int.rec (motive := fun _ => β) (fun m => seqN m fun x => k (.ofNat x)) (fun m => seqN m fun x => k (.negSucc x)) n
theorem seqI_eq {β : Type} (n : Int) (k : Int → β) : seqI n k = k n := by cases n <;> simp [seqI, seqN_eq]
def seqB {β : Type} (b : Bool) (k : Bool → β) : β := Bool.rec (motive := fun _ => β) (k false) (k true) b
theorem seqB_eq {β : Type} (b : Bool) (k : Bool → β) : seqB b k = k b := by cases b <;> rfl
def ifB {β : Type} (c : Bool) (a b : β) : β := Bool.rec (motive := fun _ => β) b a c
theorem ifB_eq {β : Type} (c : Bool) (a b : β) : ifB c a b = if c = true then a else b := by cases c <;> rfl
def opt {α β : Type} (x : Option α) (k : α → Option β) : Option β := Option.rec (motive := fun _ => Option β) none k x
theorem opt_some {α β : Type} {x : Option α} {k : α → Option β} {r : β} (h : opt x k = some r) : ∃ a, x = some a ∧ k a = some r := by
  cases x with
  | none => cases h
  | some a => exact ⟨a, rfl, h⟩
theorem ifB_some {α : Type} {c : Bool} {a : Option α} {r : α} (h : ifB c a none = some r) : c = true ∧ a = some r := by
  cases c
  · cases h
  · exact ⟨rfl, h⟩
def optMap {α β : Type} (f : α → Option β) (l : List α) : Option (List β) := List.rec (motive := fun _ => Option (List β)) (some []) (fun x _ ih => opt (f x) fun y => opt ih fun ys => some (y :: ys)) l
theorem optMap_get {α β : Type} {f : α → Option β} : ∀ {l : List α} {r : List β}, optMap f l = some r → l.length = r.length ∧ ∀ (i : Nat) x, l[i]? = some x → ∃ y, r[i]? = some y ∧ f x = some y
  | [], r, h => by injection h with h; subst h; exact ⟨rfl, fun i x hx => by simp at hx⟩
  | x :: xs, r, h => by
    obtain ⟨y, h1, h2⟩ := opt_some (show opt (f x) (fun y => opt (optMap f xs) fun ys => some (y :: ys)) = some r from h)
    obtain ⟨ys, h3, h4⟩ := opt_some h2
    injection h4 with h4; subst h4
    obtain ⟨g1, g2⟩ := optMap_get h3
    refine ⟨by simp [g1], fun i z hz => ?_⟩
    cases i with
    | zero => simp at hz; subst hz; exact ⟨y, rfl, h1⟩
    | succ i => simpa using g2 i z (by simpa using hz)

/-! ### numbers -/
def lim (k : IntKind) : Nat := match k with | .i8 | .u8 => 256 | .i16 | .u16 => 65536 | .i32 | .u32 => 4294967296 | .i64 | .u64 => 18446744073709551616
def half (k : IntKind) : Nat := match k with | .i8 | .u8 => 128 | .i16 | .u16 => 32768 | .i32 | .u32 => 2147483648 | .i64 | .u64 => 9223372036854775808
theorem lim_eq (k : IntKind) : lim k = 2 ^ k.bits := by cases k <;> rfl
theorem half_eq (k : IntKind) : half k = 2 ^ (k.bits - 1) := by cases k <;> rfl
theorem lim_half (k : IntKind) : lim k = 2 * half k := by cases k <;> rfl
def sgn : IntKind → Bool | .i8 | .i16 | .i32 | .i64 => true | _ => false
theorem sgn_eq (k : IntKind) : sgn k = k.signed := by cases k <;> rfl
def wrapI (k : IntKind) (n : Int) : Int :=
  match n with
  | .ofNat m => ifB (sgn k) (ifB (Nat.blt m (half k)) (.ofNat m) (k.wrap n)) (.ofNat (Nat.mod m (lim k)))
  | .negSucc m => ifB (sgn k) (ifB (Nat.blt m (half k)) (.negSucc m) (k.wrap n)) (k.wrap n)
theorem blt_iff {a b : Nat} : Nat.blt a b = true ↔ a < b := by simp [Nat.blt, Nat.ble_eq]; omega
theorem wrap_small (k : IntKind) (n : Int) (hs : k.signed = true) (h1 : -(half k : Int) ≤ n) (h2 : n < half k) : k.wrap n = n := by
  have e1 : ((2 : Int) ^ k.bits) = (lim k : Int) := by rw [lim_eq]; simp
  have e2 : ((2 : Int) ^ (k.bits - 1)) = (half k : Int) := by rw [half_eq]; simp
  have e3 := lim_half k
  unfold IntKind.wrap
  simp only [e1, e2, hs, Bool.true_and, decide_eq_true_eq]
  have hpos : 0 < (half k : Int) := by have : 0 < half k := by cases k <;> decide
                                       omega
  rcases Int.lt_or_le n 0 with hn | hn
  · have hm : n % (lim k : Int) = n + lim k := by
      rw [← Int.add_emod_right, Int.emod_eq_of_lt (by omega) (by omega)]
    rw [hm, if_pos (by omega)]; omega
  · have hm : n % (lim k : Int) = n := Int.emod_eq_of_lt hn (by omega)
    rw [hm, if_neg (by omega)]
theorem wrapI_eq (k : IntKind) (n : Int) : wrapI k n = k.wrap n := by
  have hpos : 0 < half k := by cases k <;> decide
  unfold wrapI
  cases n with
  | ofNat m =>
    simp only [ifB_eq, sgn_eq]
    split
    · rename_i hs
      split
      · rename_i hb
        rw [blt_iff] at hb
        exact (wrap_small k _ hs (by show -(half k : Int) ≤ (m : Int); omega) (by show (m : Int) < half k; omega)).symm
      · rfl
    · rename_i hs
      have e1 : ((2 : Int) ^ k.bits) = (lim k : Int) := by rw [lim_eq]; simp
      unfold IntKind.wrap
      simp only [Bool.not_eq_true] at hs
      simp only [e1, hs, Bool.false_and, Bool.false_eq_true, if_false]
      rfl
  | negSucc m =>
    simp only [ifB_eq, sgn_eq]
    split
    · rename_i hs
      split
      · rename_i hb
        rw [blt_iff] at hb
        exact (wrap_small k _ hs (by rw [Int.negSucc_eq]; omega) (by rw [Int.negSucc_eq]; omega)).symm
      · rfl
    · rfl
def ilt : Int → Int → Bool
  | .ofNat a, .ofNat b => Nat.blt a b
  | .ofNat _, .negSucc _ => false
  | .negSucc _, .ofNat _ => true
  | .negSucc a, .negSucc b => Nat.blt b a
theorem ilt_eq (a b : Int) : ilt a b = decide (a < b) := by
  rw [Bool.eq_iff_iff, decide_eq_true_iff]
  cases a <;> cases b <;> simp only [ilt, blt_iff]
  · show _ ↔ ((_ : Nat) : Int) < ((_ : Nat) : Int); omega
  · simp; rw [Int.negSucc_eq]; show _ ≤ ((_ : Nat) : Int); omega
  · simp; rw [Int.negSucc_eq]; show _ < ((_ : Nat) : Int); omega
  · rw [Int.negSucc_eq, Int.negSucc_eq]; omega
/-- the bits of a number -/
def natOf (k : IntKind) (n : Int) : Nat := match n with | .ofNat m => Nat.mod m (lim k) | .negSucc m => Nat.sub (Nat.sub (lim k) 1) (Nat.mod m (lim k))
theorem natOf_eq (k : IntKind) (n : Int) : natOf k n = (BitVec.ofInt k.bits n).toNat := by
  have hpos : 0 < lim k := by cases k <;> decide
  unfold natOf
  rw [BitVec.toNat_ofInt]
  have e1 : (((2 ^ k.bits : Nat)) : Int) = (lim k : Int) := by rw [lim_eq]
  cases n with
  | ofNat m => simp only; rw [e1]; show m % lim k = _; rw [show (Int.ofNat m) = (m : Int) from rfl, ← Int.natCast_emod, Int.toNat_natCast]
  | negSucc m =>
    simp only
    rw [e1]
    show lim k - 1 - m % lim k = _
    have hlt := Nat.mod_lt m hpos
    have hd := Nat.div_add_mod m (lim k)
    rw [Int.negSucc_eq]
    have : (-((m : Int) + 1)) = ((lim k - 1 - m % lim k : Nat) : Int) + (lim k : Int) * (-((m / lim k : Nat) : Int) - 1) := by
      have hz : ((lim k : Int)) * ((m / lim k : Nat) : Int) = ((lim k * (m / lim k) : Nat) : Int) := by simp
      rw [Int.mul_sub, Int.mul_neg, hz]
      omega
    rw [this, Int.add_mul_emod_self_left, Int.emod_eq_of_lt (by omega) (by omega)]
    simp

/-! ### the environment -/
structure TI where
  und : TypeDesc
  size : Nat
  bytes : Nat
  zero : AV
structure TIOK (P : Program) (t : TypeId) (ti : TI) : Prop where
  und : P.underlying t = some ti.und
  info : ∃ i, P.info? t = some i ∧ i.size = ti.size ∧ i.bytes = ti.bytes ∧ ∃ z, i.zero = some z ∧ ∀ φ, vr φ ti.zero z
structure Env where
  ty : Tr TI
  fn : Tr Func
  /-- of a type: its methods' names and functions; none: the receiver is the value itself; some t: what it points to, a t -/
  meth : Tr (List (String × Nat × Option Nat))
  /-- of an interface type: has this type its methods? -/
  impl : Tr (List (Nat × Bool))
  /-- functions of Go's library with no Go body: 1 is maps.clone -/
  ext : Tr Nat
  /-- structs and arrays that may be compared -/
  plain : Tr Unit
  /-- closed functions of which it is known by another road that they return true -/
  kt : Tr Unit
def PlainOK (P : Program) (t : Nat) : Prop := P.stoodInHeld t = false ∧ P.eqGuardType P.depth t = false ∧ ∀ fs, P.underlying t = some (.struct fs) → ∀ f ∈ fs, f.name ≠ "_"
def MethOK (P : Program) (t : Nat) (p : String × Nat × Option Nat) : Prop := match p.2.2 with
  | none => ∀ v w, (method (P.types.size + Made.depth) t v p.1).run P w = .ok (p.2.1, v) w
  | some e => ∀ a v w, (loadVar e a).run P w = .ok v w → (method (P.types.size + Made.depth) t (.pointer (some a)) p.1).run P w = .ok (p.2.1, v) w
structure EnvOK (P : Program) (E : Env) : Prop where
  ty : ∀ t ti, E.ty.get t = some ti → TIOK P t ti
  fn : ∀ f fn, E.fn.get f = some fn → P.funcs[f]? = some fn ∧ (fn.name == "runtime.NumGoroutine") = false ∧ fn.body.isSome = true
  mixed : P.follows .mixedOrders = true
  meth : ∀ t l, E.meth.get t = some l → ∀ p ∈ l, MethOK P t p
  impl : ∀ a l, E.impl.get a = some l → ∀ p ∈ l, ∃ want i, P.underlying a = some (.interface want) ∧ P.info? p.1 = some i ∧ (Instr.missingMethod want i.methods).isNone = p.2
  ext : ∀ f n, E.ext.get f = some n → n = 1 ∧ ∃ fn, P.funcs[f]? = some fn ∧ (fn.name == "runtime.NumGoroutine") = false ∧ fn.body = none ∧ Extern.findNext fn = none ∧ Extern.find fn = some Extern.MapsClone.clone
  plain : ∀ t u, E.plain.get t = some u → PlainOK P t
  kt : ∀ f u, E.kt.get f = some u → ∀ w, Calls P f #[] w fun e w' => e = .returned (.bool true) ∧ Below w.heap.size w w'
section
variable {P : Program} {t : TypeId} {ti : TI} {w : World}
theorem TIOK.run_und (h : TIOK P t ti) (w : World) : (underlying t).run P w = .ok ti.und w := run_underlying h.und w
theorem TIOK.run_size (h : TIOK P t ti) (w : World) : (sizeOf t).run P w = .ok ti.size w := by
  obtain ⟨i, h1, h2, h3, z, h4, h5⟩ := h.info
  simp [sizeOf, typeInfo, program, Sem.run, h1, h2]
theorem TIOK.run_zero (h : TIOK P t ti) : ∃ z, (∀ w, (zeroValue t).run P w = .ok z w) ∧ ∀ φ, vr φ ti.zero z := by
  obtain ⟨i, h1, h2, h3, z, h4, h5⟩ := h.info
  exact ⟨z, fun w => by simp [zeroValue, typeInfo, program, Sem.run, h1, h4], h5⟩
theorem TIOK.run_info (h : TIOK P t ti) : ∃ i, (∀ w, (typeInfo t).run P w = .ok i w) ∧ i.size = ti.size ∧ i.bytes = ti.bytes := by
  obtain ⟨i, h1, h2, h3, z, h4, h5⟩ := h.info
  exact ⟨i, fun w => by simp [typeInfo, program, Sem.run, h1], h2, h3⟩
def aggB (d : TypeDesc) : Bool := match d with | .struct _ | .array _ _ => true | _ => false
theorem TIOK.run_agg (h : TIOK P t ti) (w : World) : (isAgg t).run P w = .ok (aggB ti.und) w := by
  unfold isAgg
  simp only [Sem.run_bind, h.run_und, Result.andThen_ok]
  cases ti.und <;> rfl
end

/-! ### operands -/
def aconst : Nat → Value → Option AV
  | 0, _ => none
  | f + 1, v => match v with
    | .int k n => some (.int k n)
    | .bool b => some (.bool b)
    | .string s => some (.str s)
    | .pointer none => some .nilptr
    | .slice none 0 0 => some .nilsl
    | .map none => some .nilmap
    | .nilFunc => some .nilfunc
    | .nilIface => some .niliface
    | .agg cs => opt (optMap (aconst f) cs.toList) fun l => some (.agg l)
    | .tuple cs => opt (optMap (aconst f) cs.toList) fun l => some (.tup l)
    | .iface t v => opt (aconst f v) fun x => some (.iface t x)
    | _ => none
theorem aconst_vr : ∀ (f : Nat) (v : Value) (a : AV) (φ : Phi), aconst f v = some a → vr φ a v := by
  intro f
  induction f with
  | zero => intro v a φ h; cases h
  | succ f ih =>
    intro v a φ h
    unfold aconst at h
    split at h
    all_goals first
      | (cases h; done)
      | (injection h with h; subst h; rfl)
      | skip
    · obtain ⟨l, h1, h2⟩ := opt_some h
      injection h2 with h2; subst h2
      obtain ⟨g1, g2⟩ := optMap_get h1
      refine ⟨_, rfl, vrs_of_get g1.symm fun i x y hx hy => ?_⟩
      obtain ⟨x', h3, h4⟩ := g2 i y hy
      rw [hx] at h3; cases h3
      exact ih _ _ _ h4
    · obtain ⟨l, h1, h2⟩ := opt_some h
      injection h2 with h2; subst h2
      obtain ⟨g1, g2⟩ := optMap_get h1
      refine ⟨_, rfl, vrs_of_get g1.symm fun i x y hx hy => ?_⟩
      obtain ⟨x', h3, h4⟩ := g2 i y hy
      rw [hx] at h3; cases h3
      exact ih _ _ _ h4
    · obtain ⟨x, h1, h2⟩ := opt_some h
      injection h2 with h2; subst h2
      exact ⟨_, rfl, ih _ _ _ h1⟩
def aev (tm : Tr AV) (x : Operand) : Option AV :=
  match x with
  | .tmp t => some (cellAt tm .undef t)
  | .const v => aconst 6 v
  | .func f => some (.func f [] [])
  | .global _ => none
/-- the operands as the concrete frame has them -/
def Ops (φ : Phi) (tm : Tr AV) (ρ : Operand → Value) (xs : List Operand) : Prop := ∀ x ∈ xs, ∀ a, aev tm x = some a → vr φ a (ρ x)
theorem Ops.at {φ : Phi} {tm : Tr AV} {ρ : Operand → Value} {xs : List Operand} (h : Ops φ tm ρ xs) {x : Operand} (hx : x ∈ xs) {a : AV} (ha : aev tm x = some a) : vr φ a (ρ x) := h x hx a ha
theorem Ops.list {φ : Phi} {tm : Tr AV} {ρ : Operand → Value} {xs : List Operand} (h : Ops φ tm ρ xs) : ∀ {ys : List Operand} {as : List AV}, (∀ y ∈ ys, y ∈ xs) → optMap (aev tm) ys = some as → vrs φ as (ys.map ρ) := by
  intro ys as hy hm
  obtain ⟨g1, g2⟩ := optMap_get hm
  refine vrs_of_get (by simp [g1]) fun i a v ha hv => ?_
  rw [List.getElem?_map] at hv
  cases hyi : ys[i]? with
  | none => rw [hyi] at hv; cases hv
  | some y =>
    rw [hyi] at hv
    obtain ⟨a', h1, h2⟩ := g2 i y hyi
    rw [ha] at h1; cases h1
    simp at hv; subst hv
    exact h y (hy y (List.mem_of_getElem? hyi)) a h2

end
end Go.Proofs.Ytdhnacajgmjmlaa.Ev
