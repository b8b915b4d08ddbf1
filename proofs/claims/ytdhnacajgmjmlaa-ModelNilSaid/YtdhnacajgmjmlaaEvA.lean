/- An abstract machine, part 1: trees, abstract values, abstract objects, and how they stand to the model's. Of no program. -/
import Derived.Below
import Derived.Calls
namespace Go.Proofs.Ytdhnacajgmjmlaa.Ev
open Go.RowKit
noncomputable section
set_option linter.unusedVariables false

/-! ### trees: keys are numbers -/
inductive Tr (α : Type) where
  | e : Tr α
  | n (v : Option α) (l r : Tr α) : Tr α
namespace Tr
variable {α β : Type}
def get (t : Tr α) : Nat → Option α :=
  Tr.rec (motive := fun _ => Nat → Option α) (fun _ => none)
    (fun v _ _ gl gr i => Nat.rec (motive := fun _ => Option α) v (fun j _ => Nat.rec (motive := fun _ => Option α) (gl (Nat.div j 2)) (fun _ _ => gr (Nat.div j 2)) (Nat.mod j 2)) i) t
/-- what is behind a node, or nothing -/
def val : Tr α → Option α | .e => none | .n v _ _ => v
def left : Tr α → Tr α | .e => .e | .n _ l _ => l
def right : Tr α → Tr α | .e => .e | .n _ _ r => r
def setF : Nat → Tr α → Nat → Option α → Tr α
  | 0, t, _, _ => t
  | f + 1, t, i, x => match i with
    | 0 => .n x t.left t.right
    | j + 1 => if j % 2 = 0 then .n t.val (setF f t.left (j / 2) x) t.right else .n t.val t.left (setF f t.right (j / 2) x)
def set (t : Tr α) (i : Nat) (x : Option α) : Tr α := setF (i + 1) t i x
def setK (fuel : Nat) : Tr α → Nat → Option α → (Tr α → β) → β :=
  Nat.rec (motive := fun _ => Tr α → Nat → Option α → (Tr α → β) → β) (fun t _ _ k => k t)
    (fun _ go t i x k => Tr.rec (motive := fun _ => β)
      (Nat.rec (motive := fun _ => β) (k (.n x .e .e)) (fun j _ => Nat.rec (motive := fun _ => β) (go .e (Nat.div j 2) x fun l => k (.n none l .e)) (fun _ _ => go .e (Nat.div j 2) x fun r => k (.n none .e r)) (Nat.mod j 2)) i)
      (fun v l r _ _ => Nat.rec (motive := fun _ => β) (k (.n x l r)) (fun j _ => Nat.rec (motive := fun _ => β) (go l (Nat.div j 2) x fun l => k (.n v l r)) (fun _ _ => go r (Nat.div j 2) x fun r => k (.n v l r)) (Nat.mod j 2)) i)
      t) fuel
def setT (t : Tr α) (i : Nat) (x : Option α) (k : Tr α → β) : β := setK (Nat.succ i) t i x k

theorem mod2_rec {γ : Type} (j : Nat) (a b : γ) : Nat.rec (motive := fun _ => γ) a (fun _ _ => b) (Nat.mod j 2) = if j % 2 = 0 then a else b := by
  show Nat.rec (motive := fun _ => γ) a (fun _ _ => b) (j % 2) = _
  rcases Nat.mod_two_eq_zero_or_one j with h | h <;> rw [h] <;> rfl
theorem get_e (i : Nat) : (Tr.e : Tr α).get i = none := rfl
theorem get_zero (v : Option α) (l r : Tr α) : (Tr.n v l r).get 0 = v := rfl
theorem get_succ (v : Option α) (l r : Tr α) (j : Nat) : (Tr.n v l r).get (j + 1) = if j % 2 = 0 then l.get (j / 2) else r.get (j / 2) := by
  show Nat.rec (motive := fun _ => Option α) (l.get (j / 2)) (fun _ _ => r.get (j / 2)) (Nat.mod j 2) = _
  exact mod2_rec j _ _
theorem get_any (t : Tr α) (j : Nat) : t.get (j + 1) = if j % 2 = 0 then t.left.get (j / 2) else t.right.get (j / 2) := by
  cases t with
  | e => simp [get_e, left, right]
  | n v l r => exact get_succ v l r j
theorem get_any0 (t : Tr α) : t.get 0 = t.val := by cases t <;> rfl

theorem get_setF : ∀ (f : Nat) (t : Tr α) (i j : Nat) (x : Option α), i < f → (setF f t i x).get j = if j = i then x else t.get j := by
  intro f
  induction f with
  | zero => intro t i j x h; omega
  | succ f ih =>
    intro t i j x h
    cases i with
    | zero =>
      cases j with
      | zero => rfl
      | succ j => simp only [setF, get_succ, Nat.succ_ne_zero, if_false]; rw [get_any]
    | succ i =>
      have hi : i / 2 < f := by omega
      simp only [setF]
      split
      · cases j with
        | zero => rw [get_zero, if_neg (by omega), get_any0]
        | succ j =>
          rw [get_succ, get_any]
          split
          · rw [ih _ _ _ _ hi]
            by_cases e : j / 2 = i / 2
            · rw [if_pos e, if_pos (by omega)]
            · rw [if_neg e, if_neg (by omega)]
          · rw [if_neg (by omega)]
      · cases j with
        | zero => rw [get_zero, if_neg (by omega), get_any0]
        | succ j =>
          rw [get_succ, get_any]
          split
          · rw [if_neg (by omega)]
          · rw [ih _ _ _ _ hi]
            by_cases e : j / 2 = i / 2
            · rw [if_pos e, if_pos (by omega)]
            · rw [if_neg e, if_neg (by omega)]
theorem get_set (t : Tr α) (i j : Nat) (x : Option α) : (t.set i x).get j = if j = i then x else t.get j := get_setF _ t i j x (by omega)

theorem setK_eq : ∀ (f : Nat) (t : Tr α) (i : Nat) (x : Option α) (k : Tr α → β), setK f t i x k = k (setF f t i x) := by
  intro f
  induction f with
  | zero => intro t i x k; rfl
  | succ f ih =>
    intro t i x k
    cases t with
    | e =>
      cases i with
      | zero => rfl
      | succ j =>
        show Nat.rec (motive := fun _ => β) (setK f .e (j / 2) x fun l => k (.n none l .e)) (fun _ _ => setK f .e (j / 2) x fun r => k (.n none .e r)) (Nat.mod j 2) = _
        rw [mod2_rec, ih, ih]
        simp only [setF, left, right, val]
        split <;> rfl
    | n v l r =>
      cases i with
      | zero => rfl
      | succ j =>
        show Nat.rec (motive := fun _ => β) (setK f l (j / 2) x fun l => k (.n v l r)) (fun _ _ => setK f r (j / 2) x fun r => k (.n v l r)) (Nat.mod j 2) = _
        rw [mod2_rec, ih, ih]
        simp only [setF, left, right, val]
        split <;> rfl
theorem setT_eq (t : Tr α) (i : Nat) (x : Option α) (k : Tr α → β) : t.setT i x k = k (t.set i x) := setK_eq _ t i x k
end Tr

/-! ### values -/
inductive Cap where
  | known (c : Nat)
  /-- to the end of its block, whose size is not known; the element's cells -/
  | rest (size : Nat)
inductive AV where
  | int (k : IntKind) (n : Int)
  | bool (b : Bool)
  | str (s : ByteArray)
  | nilptr
  | ptr (b o : Nat)
  | nilsl
  | sl (b o n : Nat) (c : Cap)
  /-- no element, somewhere in its block; the capacity not known -/
  | slz (b : Nat)
  | nilmap
  | map (b : Nat)
  | func (f : Nat) (first captured : List AV)
  | yield (l : Nat)
  | nilfunc
  | iface (t : Nat) (v : AV)
  | niliface
  | agg (cs : List AV)
  | tup (vs : List AV)
def AV.undef : AV := .tup []

/-- where the abstract blocks lie: the block's number, and how many cells it has -/
abbrev Phi := Nat → Option (Nat × Nat)

mutual
def vr (φ : Phi) : AV → Value → Prop
  | .int k n, v => v = .int k n
  | .bool b, v => v = .bool b
  | .str s, v => v = .string s
  | .nilptr, v => v = .pointer none
  | .ptr b o, v => ∃ k sz, φ b = some (k, sz) ∧ v = .pointer (some ⟨k, o, none⟩)
  | .nilsl, v => v = .slice none 0 0
  | .sl b o n c, v => ∃ k sz c', φ b = some (k, sz) ∧ v = .slice (some ⟨k, o, none⟩) n c' ∧ n ≤ c' ∧ (match c with | .known x => c' = x | .rest s => c' * s + o = sz)
  | .slz b, v => ∃ k sz o c', φ b = some (k, sz) ∧ v = .slice (some ⟨k, o, none⟩) 0 c'
  | .nilmap, v => v = .map none
  | .map b, v => ∃ k sz, φ b = some (k, sz) ∧ v = .map (some k)
  | .func f fi ca, v => ∃ fi' ca', v = .func (.func f) fi' ca' ∧ vrs φ fi fi'.toList ∧ vrs φ ca ca'.toList
  | .yield l, v => ∃ k sz, φ l = some (k, sz) ∧ v = .func (.yield k) #[] #[]
  | .nilfunc, v => v = .nilFunc
  | .iface t x, v => ∃ x', v = .iface t x' ∧ vr φ x x'
  | .niliface, v => v = .nilIface
  | .agg cs, v => ∃ cs', v = .agg cs' ∧ vrs φ cs cs'.toList
  | .tup cs, v => ∃ cs', v = .tuple cs' ∧ vrs φ cs cs'.toList
def vrs (φ : Phi) : List AV → List Value → Prop
  | [], l => l = []
  | a :: as, l => ∃ v vs, l = v :: vs ∧ vr φ a v ∧ vrs φ as vs
end

section
variable {φ φ' : Phi}
def Sub (φ φ' : Phi) : Prop := ∀ b k, φ b = some k → φ' b = some k
theorem Sub.refl (φ : Phi) : Sub φ φ := fun _ _ h => h
theorem Sub.trans {φ'' : Phi} (h : Sub φ φ') (k : Sub φ' φ'') : Sub φ φ'' := fun b x hx => k b x (h b x hx)
mutual
theorem vr_mono (h : Sub φ φ') : ∀ (a : AV) (v : Value), vr φ a v → vr φ' a v
  | .int k n, v, hv => hv
  | .bool b, v, hv => hv
  | .str s, v, hv => hv
  | .nilptr, v, hv => hv
  | .ptr b o, v, hv => by obtain ⟨k, sz, h1, h2⟩ := hv; exact ⟨k, sz, h _ _ h1, h2⟩
  | .nilsl, v, hv => hv
  | .sl b o n c, v, hv => by obtain ⟨k, sz, c', h1, h2⟩ := hv; exact ⟨k, sz, c', h _ _ h1, h2⟩
  | .slz b, v, hv => by obtain ⟨k, sz, o, c', h1, h2⟩ := hv; exact ⟨k, sz, o, c', h _ _ h1, h2⟩
  | .nilmap, v, hv => hv
  | .map b, v, hv => by obtain ⟨k, sz, h1, h2⟩ := hv; exact ⟨k, sz, h _ _ h1, h2⟩
  | .func f fi ca, v, hv => by obtain ⟨fi', ca', h1, h2, h3⟩ := hv; exact ⟨fi', ca', h1, vrs_mono h fi _ h2, vrs_mono h ca _ h3⟩
  | .yield l, v, hv => by obtain ⟨k, sz, h1, h2⟩ := hv; exact ⟨k, sz, h _ _ h1, h2⟩
  | .nilfunc, v, hv => hv
  | .iface t x, v, hv => by obtain ⟨x', h1, h2⟩ := hv; exact ⟨x', h1, vr_mono h x _ h2⟩
  | .niliface, v, hv => hv
  | .agg cs, v, hv => by obtain ⟨cs', h1, h2⟩ := hv; exact ⟨cs', h1, vrs_mono h cs _ h2⟩
  | .tup cs, v, hv => by obtain ⟨cs', h1, h2⟩ := hv; exact ⟨cs', h1, vrs_mono h cs _ h2⟩
theorem vrs_mono (h : Sub φ φ') : ∀ (a : List AV) (v : List Value), vrs φ a v → vrs φ' a v
  | [], v, hv => hv
  | a :: as, v, hv => by obtain ⟨x, xs, h1, h2, h3⟩ := hv; exact ⟨x, xs, h1, vr_mono h a _ h2, vrs_mono h as _ h3⟩
end

theorem vr_undef : vr φ .undef Go.undef := ⟨#[], rfl, rfl⟩
theorem vrs_nil : vrs φ [] [] := rfl
theorem vrs_cons {a : AV} {as : List AV} {v : Value} {vs : List Value} (h : vr φ a v) (hs : vrs φ as vs) : vrs φ (a :: as) (v :: vs) := ⟨v, vs, rfl, h, hs⟩
theorem vrs_length : ∀ {as : List AV} {vs : List Value}, vrs φ as vs → as.length = vs.length
  | [], _, h => by subst h; rfl
  | a :: as, _, ⟨v, vs, rfl, _, hs⟩ => by simp [vrs_length hs]
theorem vrs_append : ∀ {as bs : List AV} {vs us : List Value}, vrs φ as vs → vrs φ bs us → vrs φ (as ++ bs) (vs ++ us)
  | [], _, _, _, h, k => by subst h; exact k
  | a :: as, _, _, _, ⟨v, vs, rfl, h1, hs⟩, k => ⟨v, _, rfl, h1, vrs_append hs k⟩
theorem vrs_get : ∀ {as : List AV} {vs : List Value} {i : Nat} {a : AV}, vrs φ as vs → as[i]? = some a → ∃ v, vs[i]? = some v ∧ vr φ a v
  | [], _, _, _, _, h => by simp at h
  | a :: as, _, 0, _, ⟨v, vs, rfl, h1, hs⟩, h => by simp at h; subst h; exact ⟨v, by simp, h1⟩
  | a :: as, _, i + 1, _, ⟨v, vs, rfl, h1, hs⟩, h => by simp at h; simpa using vrs_get hs h
theorem vrs_of_get : ∀ {as : List AV} {vs : List Value}, as.length = vs.length → (∀ (i : Nat) (a : AV) (v : Value), as[i]? = some a → vs[i]? = some v → vr φ a v) → vrs φ as vs
  | [], vs, h, _ => by cases vs with | nil => rfl | cons v vs => simp at h
  | a :: as, vs, h, hg => by
    cases vs with
    | nil => simp at h
    | cons v vs => exact ⟨v, vs, rfl, hg 0 a v rfl rfl, vrs_of_get (by simpa using h) fun i a v h1 h2 => hg (i + 1) a v (by simpa using h1) (by simpa using h2)⟩
theorem vrs_take {as : List AV} {vs : List Value} (n : Nat) (h : vrs φ as vs) : vrs φ (as.take n) (vs.take n) := by
  refine vrs_of_get (by simp [vrs_length h]) fun i a v ha hv => ?_
  rw [List.getElem?_take] at ha hv
  split at ha
  · rename_i hi
    rw [if_pos hi] at hv
    obtain ⟨v', h1, h2⟩ := vrs_get h ha
    rw [h1] at hv; cases hv; exact h2
  · cases ha
theorem vrs_drop {as : List AV} {vs : List Value} (n : Nat) (h : vrs φ as vs) : vrs φ (as.drop n) (vs.drop n) := by
  refine vrs_of_get (by simp [vrs_length h]) fun i a v ha hv => ?_
  rw [List.getElem?_drop] at ha hv
  obtain ⟨v', h1, h2⟩ := vrs_get h ha
  rw [h1] at hv; cases hv; exact h2
/-- the one cell's values -/
def AV.one : AV → Bool
  | .agg _ | .tup _ => false
  | _ => true
theorem one_of_vr : ∀ {a : AV} {v : Value}, a.one = true → vr φ a v → (∀ cs, v ≠ .agg cs) ∧ (∀ cs, v ≠ .tuple cs) := by
  intro a v h hv
  cases a <;> first | cases h | skip
  all_goals (simp only [vr] at hv)
  all_goals (first | (subst hv; exact ⟨fun _ h => (by cases h), fun _ h => (by cases h)⟩) | (obtain ⟨_, _, _, _, rfl, _⟩ := hv; exact ⟨fun _ h => (by cases h), fun _ h => (by cases h)⟩) | (obtain ⟨_, _, _, rfl⟩ := hv; exact ⟨fun _ h => (by cases h), fun _ h => (by cases h)⟩) | (obtain ⟨_, _, _, _, _, rfl⟩ := hv; exact ⟨fun _ h => (by cases h), fun _ h => (by cases h)⟩) | (obtain ⟨_, _, rfl, _⟩ := hv; exact ⟨fun _ h => (by cases h), fun _ h => (by cases h)⟩) | (obtain ⟨_, rfl, _⟩ := hv; exact ⟨fun _ h => (by cases h), fun _ h => (by cases h)⟩))
/-- a value's cells -/
def AV.cells : AV → List AV
  | .agg cs => cs
  | v => [v]
theorem vr_cells {a : AV} {v : Value} (h : vr φ a v) (ht : ∀ cs, a ≠ .tup cs) : vrs φ a.cells v.cells.toList := by
  by_cases hag : ∃ cs, a = .agg cs
  · obtain ⟨cs, rfl⟩ := hag
    obtain ⟨cs', rfl, h2⟩ := h
    exact h2
  · have h1 : a.one = true := by cases a <;> first | rfl | exact absurd ⟨_, rfl⟩ hag | exact absurd rfl (ht _)
    have h2 := (one_of_vr h1 h).1
    have e1 : a.cells = [a] := by cases a <;> first | rfl | exact absurd ⟨_, rfl⟩ hag
    have e2 : v.cells = #[v] := by cases v <;> first | rfl | exact absurd rfl (h2 _)
    rw [e1, e2]
    exact ⟨v, [], rfl, h, rfl⟩
end

/-! ### regions whose order is drawn: what they must be -/
def bindsA (e : Edge) : Bool := match e.ground with | .textOnly _ => false | .gcOnly _ => false | _ => true
def tmpsOf (xs : List Operand) : List Nat := xs.filterMap fun | .tmp t => some t | _ => none
def dstS (all : Array Oper) (i : Nat) : Option Nat := (all[i]?).bind (·.dst)
def looks (all : Array Oper) (o : Oper) : List Nat := tmpsOf o.op.operands.toList ++ (match o.guard with | some (g, _) => (dstS all g).toList | none => [])
/-- what waits for an operation that looks at the slot that it writes: it is never taken ahead -/
def waitsFor (all : Array Oper) (d j : Nat) : Bool := match all[j]? with | none => false | some oj => (looks all oj).contains d
def isAssign (o : Oper) : Bool := match o.op with | .assign _ => true | _ => false
def antiA (all : Array Oper) (o : Oper) : Bool := match o.op with
  | .assign _ => (match o.dst with
    | none => false
    | some d => o.after.toList.any fun e => bindsA e && waitsFor all d e.on)
  | _ => false
def regOK (all : Array Oper) : Bool :=
  (List.range all.size).all fun j => match all[j]? with
    | none => true
    | some oj => (oj.after.toList.all fun e => !bindsA e || Nat.blt e.on j) && (List.range all.size).all fun i => match all[i]? with
      | none => true
      | some oi => (match oi.dst with
        | none => true
        | some d => (i == j || oj.dst != some d) && (!(looks all oj).contains d || (oj.after.toList.any fun e => bindsA e && e.on == i) || (isAssign oi && oi.after.toList.any fun e => bindsA e && e.on == j)))
def codeOK : Code → Bool
  | .region _ ops draw => !draw || regOK ops
  | .seq a b => codeOK a && codeOK b
  | .cond _ a b => codeOK a && codeOK b
  | .block _ c => codeOK c
  | .loop c => codeOK c
  | .scope c => codeOK c
  | .rangeFunc _ _ a b => codeOK a && codeOK b
  | _ => true
def jumpOK : Option Code → Bool | none => true | some c => codeOK c

/-! ### objects, the heap -/
inductive AO where
  /-- cells: those of the tree, the others as given; so many of them; the element's type; are there no more of them? -/
  | cells (c : Tr AV) (n : Nat) (elem : Nat) (dft : AV) (exact : Bool)
  | map (es : List (AV × AV × Nat)) (clock : Nat)
  | loop (st : LoopState) (pend : Option Code) (fn : Nat) (tmps : Tr AV) (nt : Nat) (params : Array Tmp) (assign body : Code) (defs : Nat)
  | defr (taken : Bool)
  | iter (m : Option Nat) (since : Nat) (seen : List Nat) (stepped : Nat)
def cellAt (c : Tr AV) (dft : AV) (i : Nat) : AV := Option.rec (motive := fun _ => AV) dft (fun v => v) (c.get i)
def trel (φ : Phi) (t : Tr AV) (a : Array Value) : Prop := ∀ i, vr φ (cellAt t .undef i) (a.getD i Go.undef)
def mrel (φ : Phi) : List (AV × AV × Nat) → List MapEntry → Prop
  | [], l => l = []
  | (k, v, b) :: es, l => ∃ k' v' l', l = { key := k', val := v', born := b } :: l' ∧ vr φ k k' ∧ vr φ v v' ∧ mrel φ es l'
def orel (φ : Phi) (sz : Nat) : AO → Obj → Prop
  | .cells c n elem dft ex, o => ∃ a, o = .cells a elem (0, 0) ∧ a.size = sz ∧ n ≤ sz ∧ (ex = true → sz = n) ∧ ∀ i, i < n → ∃ v, a[i]? = some v ∧ vr φ (cellAt c dft i) v
  | .map es clock, o => ∃ es', o = .map es' clock ∧ mrel φ es es'.toList
  | .loop st pd fn t nt ps as bd df, o => ∃ a d sz', o = .loop { state := st, pending := pd, fn := fn, tmps := a, params := ps, assign := as, body := bd, defers := d } ∧ a.size = nt ∧ trel φ t a ∧ φ df = some (d, sz') ∧ codeOK as = true ∧ codeOK bd = true ∧ jumpOK pd = true
  | .defr taken, o => o = .deferred (if taken then none else some [])
  | .iter m since seen st, o => ∃ m', o = .mapIter m' since seen.toArray st ∧ (match m with | none => m' = none | some b => ∃ k sz', φ b = some (k, sz') ∧ m' = some k)

structure H where
  t : Tr AO
  next : Nat

/-- the heap's relation: the world's blocks behind the call's own -/
structure HR (w0 : World) (φ : Phi) (h : H) (w : World) : Prop where
  bel : Below w0.heap.size w0 w
  lt : ∀ b k sz, φ b = some (k, sz) → k < w.heap.size ∧ w0.heap.size ≤ k ∧ b < h.next
  obj : ∀ b o k sz, h.t.get b = some o → φ b = some (k, sz) → ∃ o', w.heap[k]? = some o' ∧ orel φ sz o o'
  inj : ∀ b b' k sz sz', φ b = some (k, sz) → φ b' = some (k, sz') → h.t.get b ≠ none → h.t.get b' ≠ none → b = b'
  old : ∀ b, h.next ≤ b → h.t.get b = none

/-- what a step does to places and heap: what is not there yet is let alone -/
structure Ext (φ : Phi) (h : H) (φ' : Phi) (h' : H) : Prop where
  sub : Sub φ φ'
  next : h.next ≤ h'.next
  far : ∀ b, b < h.next → φ b = none → φ' b = none ∧ h'.t.get b = h.t.get b
theorem Ext.refl (φ : Phi) (h : H) : Ext φ h φ h := ⟨Sub.refl _, Nat.le_refl _, fun _ _ h => ⟨h, rfl⟩⟩
theorem Ext.trans {φ φ' φ'' : Phi} {h h' h'' : H} (a : Ext φ h φ' h') (b : Ext φ' h' φ'' h'') : Ext φ h φ'' h'' :=
  ⟨a.sub.trans b.sub, Nat.le_trans a.next b.next, fun x hx hn => by
    obtain ⟨h1, h2⟩ := a.far x hx hn
    obtain ⟨h3, h4⟩ := b.far x (Nat.lt_of_lt_of_le hx a.next) h1
    exact ⟨h3, h4.trans h2⟩⟩

section
variable {φ φ' : Phi}
theorem mrel_mono (h : Sub φ φ') : ∀ (es : List (AV × AV × Nat)) (l : List MapEntry), mrel φ es l → mrel φ' es l
  | [], l, hm => hm
  | (k, v, b) :: es, l, hm => by obtain ⟨k', v', l', h1, h2, h3, h4⟩ := hm; exact ⟨k', v', l', h1, vr_mono h _ _ h2, vr_mono h _ _ h3, mrel_mono h es l' h4⟩
theorem trel_mono (h : Sub φ φ') {t : Tr AV} {a : Array Value} (ht : trel φ t a) : trel φ' t a := fun i => vr_mono h _ _ (ht i)
theorem orel_mono (h : Sub φ φ') {sz : Nat} : ∀ (o : AO) (o' : Obj), orel φ sz o o' → orel φ' sz o o'
  | .cells c n elem dft ex, o', ho => by
    obtain ⟨a, h1, h2, h3, h4, h5⟩ := ho
    exact ⟨a, h1, h2, h3, h4, fun i hi => by obtain ⟨v, h6, h7⟩ := h5 i hi; exact ⟨v, h6, vr_mono h _ _ h7⟩⟩
  | .map es clock, o', ho => by obtain ⟨es', h1, h2⟩ := ho; exact ⟨es', h1, mrel_mono h _ _ h2⟩
  | .loop .., o', ho => by obtain ⟨a, d, s, h1, h2, h3, h4, h5⟩ := ho; exact ⟨a, d, s, h1, h2, trel_mono h h3, h _ _ h4, h5⟩
  | .defr _, o', ho => ho
  | .iter m since seen st, o', ho => by
    obtain ⟨m', h1, h2⟩ := ho
    refine ⟨m', h1, ?_⟩
    cases m with
    | none => exact h2
    | some b => obtain ⟨k, s, h3, h4⟩ := h2; exact ⟨k, s, h _ _ h3, h4⟩
end

end
end Go.Proofs.Ytdhnacajgmjmlaa.Ev
