/- An abstract machine, part 21: runs in pieces; between two pieces dead names are forgotten. Of no program. -/
import Derived.Test.YtdhnacajgmjmlaaEvT
namespace Go.Proofs.Ytdhnacajgmjmlaa.Ev
open Go.RowKit
noncomputable section
set_option linter.unusedVariables false

section
variable {P : Program} {E : Env} {w0 w : World} {cs0 : List Frame} {φ : Phi} {h : H}

/-! ### pieces of code, by a road -/
def cAt : List Nat → Code → Code
  | [], c => c
  | i :: is, c => match c with
    | .seq a b => cAt is (ifB (Nat.beq i 0) a b)
    | .cond _ a b => cAt is (ifB (Nat.beq i 0) a b)
    | .block _ a => cAt is a
    | .loop a => cAt is a
    | .scope a => cAt is a
    | .rangeFunc _ _ a b => cAt is (ifB (Nat.beq i 0) a b)
    | c => c
def bd (f : Func) : Code := match f.body with | some c => c | none => .skip
def rgn (c : Code) : Array Oper := match c with | .region _ ops _ => ops | _ => #[]
def psOf (c : Code) : Array Tmp := match c with | .rangeFunc _ ps _ _ => ps | _ => #[]
def dropL {α : Type} : Nat → List α → List α
  | 0, l => l
  | n + 1, l => match l with | [] => [] | _ :: l => dropL n l

/-! ### what may be forgotten -/
/-- the first tree's places, with what the second has there -/
def prune2 {α : Type} : Tr α → Tr α → Tr α
  | .e, _ => .e
  | .n o l r, t => match t with
    | .e => .e
    | .n o' l' r' => .n (match o with | none => none | some _ => o') (prune2 l l') (prune2 r r')
theorem prune2_get {α : Type} : ∀ {a t : Tr α} {i : Nat} {x : α}, (prune2 a t).get i = some x → t.get i = some x
  | .e, t, i, x, h => by cases h
  | .n o l r, .e, i, x, h => by cases h
  | .n o l r, .n o' l' r', i, x, h => by
    rw [prune2.eq_def] at h; simp only at h
    cases i with
    | zero =>
      rw [Tr.get_zero] at h ⊢
      cases o with
      | none => cases h
      | some _ => exact h
    | succ i =>
      rw [Tr.get_succ] at h ⊢
      by_cases hi : i % 2 = 0
      · rw [if_pos hi] at h ⊢; exact prune2_get h
      · rw [if_neg hi] at h ⊢; exact prune2_get h
def noMemP : List PE → Bool
  | [] => true
  | p :: ps => match p with | .val _ => noMemP ps | .mem _ _ _ => false
def noMemT (t : List AI) : Bool := match t with
  | [] => true
  | x :: _ => match x with | .draw _ _ pend _ => noMemP pend | _ => true
def noMemC : List AF → Bool
  | [] => true
  | a :: as => ifB (noMemT a.todo) (noMemC as) false
def cutTo (lit : Tr AO) (s : S) : Option S := ifB (noMemT s.f.todo) (ifB (noMemC s.cs) (some ⟨s.f, s.cs, ⟨prune2 lit s.h.t, s.h.next⟩⟩) none) none
theorem noMemP_pend {h h' : H} {all : Array Oper} {tm : Tr AV} {lo hi : Nat} {cl : Nat → Bool} : ∀ {ps : List PE}, noMemP ps = true → ∀ p ∈ ps, pendOK E φ h' all tm lo hi cl p
  | [], _, p, hp => by cases hp
  | q :: ps, hn, p, hp => by
    cases q with
    | val i =>
      rcases List.mem_cons.1 hp with rfl | hp
      · trivial
      · exact noMemP_pend (h := h) (show noMemP ps = true from hn) p hp
    | mem i vals id => cases hn
theorem TB_cut {h h' : H} {lo hi : Nat} {tm : Tr AV} {ctm : Array Value} {todo : List AI} {todo' : List Item} (hn : noMemT todo = true) (t : TB E φ h lo hi tm ctm todo todo') : TB E φ h' lo hi tm ctm todo todo' := by
  cases t with
  | plain h1 h2 => exact .plain h1 h2
  | draw h1 h2 h3 => exact .draw h1 ⟨h2.ok, h2.d1, h2.d2, h2.d3, h2.d4, h2.d6, noMemP_pend (h := h) hn, h2.d8, h2.d10, h2.d11, h2.d12, h2.d13, h2.d14⟩ h3
  | wait h1 h2 h3 h4 h5 h6 => exact .wait h1 ⟨h2.ok, h2.d1, h2.d2, h2.d3, h2.d4, h2.d6, noMemP_pend (h := h) hn, h2.d8, h2.d10, h2.d11, h2.d12, h2.d13, h2.d14⟩ h3 h4 h5 h6
theorem FR_cut {h h' : H} {hi : Nat} {a : AF} {f : Frame} (hn : noMemT a.todo = true) (r : FR E φ h hi a f) : FR E φ h' hi a f :=
  ⟨r.fn, r.nt, r.mode, r.defs, r.rnd, TB_cut hn r.tb⟩
theorem FRs_cut {h h' : H} : ∀ {hi : Nat} {as : List AF} {fs : List Frame}, noMemC as = true → FRs E φ h hi as fs → FRs E φ h' hi as fs
  | _, [], _, _, hf => hf
  | hi, a :: as, _, hn, ⟨f, fs, h1, h2, h3, h4⟩ => by
    obtain ⟨n1, n2⟩ : noMemT a.todo = true ∧ noMemC as = true := by
      have hn : ifB (noMemT a.todo) (noMemC as) false = true := hn
      rw [ifB_eq] at hn
      split at hn
      · rename_i e; exact ⟨e, hn⟩
      · cases hn
    exact ⟨f, fs, h1, FR_cut n1 h2, h3, FRs_cut n2 h4⟩
theorem HR_cut {t : Tr AO} (ht : ∀ i x, t.get i = some x → h.t.get i = some x) (hr : HR w0 φ h w) : HR w0 φ ⟨t, h.next⟩ w :=
  ⟨hr.bel, hr.lt, fun b o k sz hb hp => hr.obj b o k sz (ht _ _ hb) hp, fun b b' k sz sz' h1 h2 h3 h4 => hr.inj b b' k sz sz' h1 h2 (fun hc => by
    cases hq : t.get b with
    | none => exact h3 hq
    | some x => rw [ht _ _ hq] at hc; cases hc) (fun hc => by
    cases hq : t.get b' with
    | none => exact h4 hq
    | some x => rw [ht _ _ hq] at hc; cases hc), fun b hb => by
    show t.get b = none
    cases hq : t.get b with
    | none => rfl
    | some x => have := hr.old b hb; rw [ht _ _ hq] at this; cases this⟩
theorem Rel_cut {s s' : S} {m : Machine} {lit : Tr AO} (hR : Rel E w0 cs0 s m) (hc : cutTo lit s = some s') : Rel E w0 cs0 s' m := by
  unfold cutTo at hc
  obtain ⟨h1, h2⟩ := ifB_some hc
  obtain ⟨h3, h4⟩ := ifB_some h2
  injection h4 with h4; subst h4
  obtain ⟨φ, f, fs, w, e, hr, R, hb, hfs⟩ := hR
  exact ⟨φ, f, fs, w, e, HR_cut (fun i x hx => prune2_get hx) hr, FR_cut h1 R, hb, FRs_cut h3 hfs⟩

/-! ### runs in pieces -/
def Same (a : Option S) (b : S) : Prop := match a with | some a => a = b | none => False
theorem same_of {a : Option S} {b : S} (h : Same a b = (b = b)) : Same a b := by rw [h]
/-! short names for states -/
def nn {α : Type} (l r : Tr α) : Tr α := .n none l r
def ns {α : Type} (x : α) (l r : Tr α) : Tr α := .n (some x) l r
def lf {α : Type} (x : α) : Tr α := .n (some x) .e .e
def iq (n : Nat) : AV := .int .i64 (.ofNat n)
def bq (n : Nat) : AV := .int .u8 (.ofNat n)
structure Piece (E : Env) (n : Nat) (lit : Tr AO) (s s' : S) : Prop where
  ok : Same (opt (runA E n s) (cutTo lit)) s'
theorem piece_of {E : Env} {n : Nat} {lit : Tr AO} {s s' : S} (h : Same (opt (runA E n s) (cutTo lit)) s' = (s' = s')) : Piece E n lit s s' := ⟨by rw [h]⟩
inductive Pieces (E : Env) : S → S → Prop where
  | one {s : S} : Pieces E s s
  | more {s s' s'' : S} {n : Nat} {lit : Tr AO} : Pieces E s s' → Piece E n lit s' s'' → Pieces E s s''
theorem Pieces.trans {s s' s'' : S} (a : Pieces E s s') (b : Pieces E s' s'') : Pieces E s s'' := by
  induction b with
  | one => exact a
  | more _ h ih => exact .more ih h
theorem Pieces.goes (hE : EnvOK P E) (hF : FnsOK P E) {s s' : S} (p : Pieces E s s') : ∀ {m : Machine}, Rel E w0 cs0 s m → Goes P E w0 cs0 m s' := by
  induction p with
  | one => intro m hR; exact ⟨m, Steps.refl _ _, hR⟩
  | more _ h ih =>
    rename_i s1 s2 n lit _
    intro m hR
    obtain ⟨m1, g1, g2⟩ := ih hR
    have h : Same (opt (runA E n s1) (cutTo lit)) s2 := h.ok
    cases hq : opt (runA E n s1) (cutTo lit) with
    | none => rw [hq] at h; cases h
    | some s3 =>
      rw [hq] at h
      have h : s3 = s2 := h
      subst h
      obtain ⟨s4, h1, h2⟩ := opt_some hq
      obtain ⟨m2, g3, g4⟩ := run_sound hE hF n g2 h1
      exact ⟨m2, g1.trans g3, Rel_cut g4 h2⟩
theorem calls_pieces {P : Program} {E : Env} (hEF : EnvOK P E ∧ FnsOK P E) {F : Nat} {s0 s1 : S} (h0 : Same (enterF E F [] [] ⟨.e, 0⟩) s0) (h1 : Pieces E s0 s1) {n : Nat} (h2 : isT (opt (runA E n s1) (fin E F)) = true) (w : World) : Calls P F #[] w fun e w' => e = .returned (.bool true) ∧ Below w.heap.size w w' := by
  obtain ⟨hE, hF⟩ := hEF
  cases hq0 : enterF E F [] [] ⟨.e, 0⟩ with
  | none => rw [hq0] at h0; cases h0
  | some s00 =>
  rw [hq0] at h0
  have h0 : s00 = s0 := h0
  subst h0
  cases hq : opt (runA E n s1) (fin E F) with
  | none => rw [hq] at h2; cases h2
  | some v =>
  rw [hq] at h2
  have hv : v = .bool true := by
    cases v <;> first | (cases h2; done) | (have h2 : _ = true := h2; simp only [isT] at h2; rw [h2])
  subst hv
  obtain ⟨s2, h3, h4⟩ := opt_some hq
  refine Calls.mono (calls_of_goes hE hF hq0 (fun cs m hR => by
    obtain ⟨m1, g1, g2⟩ := h1.goes hE hF hR
    obtain ⟨m2, g3, g4⟩ := run_sound hE hF n g2 h3
    exact ⟨m2, g1.trans g3, g4⟩) h4) ?_
  rintro e w' ⟨⟨v', φ, rfl, hv⟩, hb⟩
  have hv : v' = .bool true := hv
  exact ⟨by rw [hv], hb⟩
end

end
end Go.Proofs.Ytdhnacajgmjmlaa.Ev
