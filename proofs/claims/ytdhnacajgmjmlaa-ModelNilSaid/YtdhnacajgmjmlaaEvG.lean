/- An abstract machine, part 7: slice expressions, lengths, minima, structs, maps. Of no program. -/
import Derived.Test.YtdhnacajgmjmlaaEvF
namespace Go.Proofs.Ytdhnacajgmjmlaa.Ev
open Go.RowKit
noncomputable section
set_option linter.unusedVariables false

section
variable {P : Program} {E : Env} {w0 w : World} {φ : Phi} {h : H} {tm : Tr AV} {ρ : Operand → Value} {o : Oper} {v : AV}

/-! slice expressions -/
def evO (tm : Tr AV) (x : Option Operand) : Option (Option AV) := match x with
  | none => some none
  | some x => opt (aev tm x) fun a => some (some a)
def bnd (x : Option AV) (dft top : Nat) : Option Nat := match x with
  | none => some dft
  | some a => idx a (Nat.succ top)
theorem evO_sound {x : Option Operand} {r : Option AV} {xs : List Operand} (ho : Ops φ tm ρ xs) (hx : ∀ y, x = some y → y ∈ xs) (h : evO tm x = some r) : (x = none ∧ r = none) ∨ ∃ y a, x = some y ∧ r = some a ∧ vr φ a (ρ y) := by
  cases x with
  | none => injection h with h; exact Or.inl ⟨rfl, h.symm⟩
  | some y =>
    obtain ⟨a, h1, h2⟩ := opt_some h
    injection h2 with h2
    exact Or.inr ⟨y, a, rfl, h2.symm, ho y (hx y rfl) a h1⟩
theorem sliceBound_ok {a : AV} {u : Value} {top i : Nat} {c : BoundsCode} (h : idx a (top + 1) = some i) (hr : vr φ a u) (P : Program) (w : World) : (Instr.sliceBound u top c).run P w = .ok i w ∧ i ≤ top := by
  obtain ⟨hlt, k, rfl⟩ := idx_sound h hr
  have hle : i ≤ top := by omega
  refine ⟨?_, hle⟩
  simp [Instr.sliceBound, asIntOf, hle]
def hiB (n m : Nat) (hi mx : Option AV) : Option Nat := match hi with
  | none => (match mx with | none => some n | some _ => none)
  | some _ => bnd hi n m
/-- low, high, max: where the capacity is known -/
def bnds (n cap : Nat) (lo hi mx : Option AV) : Option (Nat × Nat × Nat) := opt (bnd mx cap cap) fun m => opt (hiB n m hi mx) fun hh => opt (bnd lo 0 hh) fun l => some (l, hh, m)
theorem bnds_sound {n cap l hh m : Nat} {lo hi mx : Option Operand} {lo' hi' mx' : Option AV} {xs : List Operand} {s : Bool} (ho : Ops φ tm ρ xs) (h1 : ∀ y, lo = some y → y ∈ xs) (h2 : ∀ y, hi = some y → y ∈ xs) (h3 : ∀ y, mx = some y → y ∈ xs)
    (e1 : evO tm lo = some lo') (e2 : evO tm hi = some hi') (e3 : evO tm mx = some mx') (hb : bnds n cap lo' hi' mx' = some (l, hh, m)) (P : Program) (w : World) (hn : n ≤ cap) :
    (Instr.sliceBounds s n cap (lo.map ρ) (hi.map ρ) (mx.map ρ)).run P w = .ok (l, hh, m) w ∧ l ≤ hh ∧ hh ≤ m ∧ m ≤ cap := by
  obtain ⟨m', g1, g2⟩ := opt_some hb
  obtain ⟨h', g3, g4⟩ := opt_some g2
  obtain ⟨l', g5, g6⟩ := opt_some g4
  injection g6 with g6; injection g6 with g6 g7; injection g7 with g7 g8; subst g6 g7 g8
  have s3 := evO_sound ho h3 e3
  have s2 := evO_sound ho h2 e2
  have s1 := evO_sound ho h1 e1
  unfold Instr.sliceBounds
  rcases s3 with ⟨rfl, rfl⟩ | ⟨y3, a3, rfl, rfl, r3⟩
  · injection g1 with g1; subst g1
    rcases s2 with ⟨rfl, rfl⟩ | ⟨y2, a2, rfl, rfl, r2⟩
    · injection g3 with g3; subst g3
      rcases s1 with ⟨rfl, rfl⟩ | ⟨y1, a1, rfl, rfl, r1⟩
      · injection g5 with g5; subst g5
        exact ⟨by simp, by omega, hn, Nat.le_refl _⟩
      · have q1 := sliceBound_ok (c := .sliceB) g5 r1 P w
        exact ⟨by simp [q1.1], q1.2, hn, Nat.le_refl _⟩
    · have q2 := fun c => sliceBound_ok (c := c) g3 r2 P w
      rcases s1 with ⟨rfl, rfl⟩ | ⟨y1, a1, rfl, rfl, r1⟩
      · injection g5 with g5; subst g5
        exact ⟨by simp [(q2 _).1], by omega, (q2 .sliceB).2, Nat.le_refl _⟩
      · have q1 := sliceBound_ok (c := .sliceB) g5 r1 P w
        exact ⟨by simp [(q2 _).1, q1.1], q1.2, (q2 .sliceB).2, Nat.le_refl _⟩
  · have q3 := fun c => sliceBound_ok (c := c) g1 r3 P w
    rcases s2 with ⟨rfl, rfl⟩ | ⟨y2, a2, rfl, rfl, r2⟩
    · cases g3
    · have q2 := fun c => sliceBound_ok (c := c) g3 r2 P w
      rcases s1 with ⟨rfl, rfl⟩ | ⟨y1, a1, rfl, rfl, r1⟩
      · injection g5 with g5; subst g5
        exact ⟨by simp [(q2 _).1, (q3 _).1], by omega, (q2 .sliceB).2, (q3 .sliceB).2⟩
      · have q1 := sliceBound_ok (c := .slice3C) g5 r1 P w
        exact ⟨by simp [(q2 _).1, (q3 _).1, q1.1], q1.2, (q2 .sliceB).2, (q3 .sliceB).2⟩
def mkSl (b o l hh m size : Nat) (c : Cap) : Option AV := seqN (Nat.sub hh l) fun n => ifB (Nat.beq m l) (some (.sl b o n c)) (seqN (Nat.add o (Nat.mul l size)) fun o' => some (.sl b o' n c))
def vslice (E : Env) (tm : Tr AV) (t : TypeId) (x : Operand) (lo hi mx : Option Operand) : Option AV := opt (E.ty.get t) fun ti => opt (aev tm x) fun a => opt (evO tm lo) fun lo => opt (evO tm hi) fun hi => opt (evO tm mx) fun mx => match ti.und with
  | .slice el => opt (E.ty.get el) fun te => (match a with
    | .nilsl => opt (bnds 0 0 lo hi mx) fun _ => some .nilsl
    | .sl b o n (.known c) => opt (bnds n c lo hi mx) fun r => match r with | (l, hh, m) => seqN (Nat.sub m l) fun c' => mkSl b o l hh m te.size (.known c')
    | .sl b o n (.rest s) => opt (bnds n n lo hi mx) fun r => match r with
      | (l, hh, m) => match mx with
        | some _ => seqN (Nat.sub m l) fun c' => mkSl b o l hh m te.size (.known c')
        | none => ifB (Nat.beq s te.size) (ifB (Nat.beq l 0) (some (.sl b o hh (.rest s))) (ifB (Nat.blt l n) (seqN (Nat.sub hh l) fun n' => seqN (Nat.add o (Nat.mul l te.size)) fun o' => some (.sl b o' n' (.rest s))) (some (.slz b)))) none
    | _ => none)
  | .array len el => opt (E.ty.get el) fun te => (match a with
    | .ptr b o => opt (bnds len len lo hi mx) fun r => match r with | (l, hh, m) => seqN (Nat.sub m l) fun c' => mkSl b o l hh m te.size (.known c')
    | _ => none)
  | .string => (match a with
    | .str s => (match mx with
      | none => opt (bnds s.size s.size lo hi none) fun r => match r with | (l, hh, _) => some (.str (s.extract l hh))
      | some _ => none)
    | _ => none)
  | _ => none
theorem mkSl_eq (b o l hh m size : Nat) (c : Cap) : mkSl b o l hh m size c = some (.sl b (if m = l then o else o + l * size) (hh - l) c) := by
  unfold mkSl
  rw [seqN_eq, ifB_eq]
  split
  · rename_i h; rw [if_pos (Nat.eq_of_beq_eq_true h)]; rfl
  · rename_i h; rw [if_neg (fun e => h (by rw [e]; exact Nat.beq_refl _)), seqN_eq]; rfl
theorem slice_mem {t : TypeId} {x : Operand} {lo hi mx : Option Operand} (hop : o.op = .slice t x lo hi mx) : x ∈ o.op.operands.toList ∧ (∀ y, lo = some y → y ∈ o.op.operands.toList) ∧ (∀ y, hi = some y → y ∈ o.op.operands.toList) ∧ (∀ y, mx = some y → y ∈ o.op.operands.toList) := by
  rw [hop]
  refine ⟨by simp [Op.operands], ?_, ?_, ?_⟩ <;> (rintro y rfl; simp [Op.operands])
theorem vslice_sound (hE : EnvOK P E) {t : TypeId} {x : Operand} {lo hi mx : Option Operand} (ho : Ops φ tm ρ o.op.operands.toList) (hop : o.op = .slice t x lo hi mx) (hv : vslice E tm t x lo hi mx = some v) : VS P w φ ρ o v := by
  obtain ⟨ti, h1, h2⟩ := opt_some hv
  obtain ⟨a, h3, h4⟩ := opt_some h2
  obtain ⟨lo', h5, h6⟩ := opt_some h4
  obtain ⟨hi', h7, h8⟩ := opt_some h6
  obtain ⟨mx', h9, h10⟩ := opt_some h8
  clear hv h2 h4 h6 h8
  obtain ⟨m1, m2, m3, m4⟩ := slice_mem hop
  have ha := ho x m1 a h3
  have hun := (hE.ty _ _ h1).run_und w
  cases hu : ti.und <;> rw [hu] at h10 hun <;> first | (cases h10; done) | skip
  · -- string
    cases a <;> first | (cases h10; done) | skip
    rename_i s
    cases mx' with
    | some y => cases h10
    | none =>
      obtain ⟨⟨l, hh, m⟩, h13, h14⟩ := opt_some h10
      have h14 : some (AV.str (s.extract l hh)) = some v := h14
      injection h14 with h14; subst h14
      have ha : ρ x = .string s := ha
      have hmx : mx = none := by
        rcases evO_sound ho m4 h9 with ⟨e, _⟩ | ⟨y, a, _, e, _⟩
        · exact e
        · cases e
      subst hmx
      have hb := bnds_sound (s := false) ho m2 m3 m4 h5 h7 h9 h13 P w (Nat.le_refl _)
      refine ⟨.string (s.extract l hh), ?_, rfl⟩
      have hb1 := hb.1
      simp only [Option.map_none] at hb1
      simp [execOp, hop, Instr.sliceAt, Instr.slice, hun, ha, hb1]
  · -- slice
    rename_i el
    obtain ⟨te, h11, h12⟩ := opt_some h10
    have hsz := (hE.ty _ _ h11).run_size
    cases a <;> first | (cases h12; done) | skip
    · obtain ⟨⟨l, hh, m⟩, h13, h14⟩ := opt_some h12
      injection h14 with h14; subst h14
      have ha : ρ x = .slice none 0 0 := ha
      have hb := bnds_sound (s := true) ho m2 m3 m4 h5 h7 h9 h13 P w (Nat.le_refl _)
      have e1 : l = 0 := by omega
      have e2 : hh = 0 := by omega
      have e3 : m = 0 := by omega
      subst e1 e2 e3
      refine ⟨.slice none 0 0, ?_, rfl⟩
      simp [execOp, hop, Instr.sliceAt, Instr.slice, hun, ha, hb.1, hsz]
    · rename_i b off n c
      obtain ⟨k, sz, c', hφ, ha, hnc, hcap⟩ := ha
      cases c with
      | known cc =>
        have hcap : c' = cc := hcap
        subst hcap
        obtain ⟨⟨l, hh, m⟩, h13, h14⟩ := opt_some h12
        simp only [seqN_eq, mkSl_eq] at h14
        injection h14 with h14; subst h14
        have hb := bnds_sound (s := true) ho m2 m3 m4 h5 h7 h9 h13 P w hnc
        refine ⟨.slice (some ⟨k, (if m = l then off else off + l * te.size), none⟩) (hh - l) (m - l), ?_, k, sz, m - l, hφ, rfl, by omega, rfl⟩
        simp [execOp, hop, Instr.sliceAt, Instr.slice, hun, ha, hb.1, hsz, addr_add]
        split <;> rfl
      | rest s =>
        have hcap : c' * s + off = sz := hcap
        obtain ⟨⟨l, hh, m⟩, h13, h14⟩ := opt_some h12
        cases mx' with
        | some y =>
          simp only [seqN_eq, mkSl_eq] at h14
          injection h14 with h14; subst h14
          rcases evO_sound ho m4 h9 with ⟨_, e⟩ | ⟨y4, a4, e4, e5, r4⟩
          · cases e
          cases e5
          subst e4
          have h13' : bnds n c' lo' hi' (some y) = some (l, hh, m) := by
            obtain ⟨m', g1, g2⟩ := opt_some h13
            have g1' : idx y (c' + 1) = some m' := by
              have g1 : idx y (n + 1) = some m' := g1
              obtain ⟨q1, q2, q3⟩ := idx_sound g1 r4
              unfold idx at g1 ⊢
              split at g1
              · obtain ⟨f1, f2⟩ := ifB_some g1
                rw [ifB_eq, if_pos (blt_iff.2 (by have := blt_iff.1 f1; omega))]; exact f2
              · cases g1
            show opt (idx y (c' + 1)) _ = _
            rw [g1']
            exact g2
          have hb := bnds_sound (s := true) ho m2 m3 m4 h5 h7 h9 h13' P w hnc
          refine ⟨.slice (some ⟨k, (if m = l then off else off + l * te.size), none⟩) (hh - l) (m - l), ?_, k, sz, m - l, hφ, rfl, by omega, rfl⟩
          simp [execOp, hop, Instr.sliceAt, Instr.slice, hun, ha]
          have hb1 := hb.1
          simp only [Option.map_some] at hb1
          simp [hb1, hsz, addr_add]
          split <;> rfl
        | none =>
          have hmx : mx = none := by
            rcases evO_sound ho m4 h9 with ⟨e, _⟩ | ⟨y, a, _, e, _⟩
            · exact e
            · cases e
          subst hmx
          obtain ⟨f1, f2⟩ := ifB_some (show ifB (Nat.beq s te.size) _ none = some v from h14)
          have hse : s = te.size := Nat.eq_of_beq_eq_true f1
          -- the bounds, to the capacity that is not known
          obtain ⟨m', g1, g2⟩ := opt_some h13
          obtain ⟨h', g3, g4⟩ := opt_some g2
          obtain ⟨l', g5, g6⟩ := opt_some g4
          injection g6 with g6; injection g6 with g6 g7; injection g7 with g7 g8; subst g6 g7 g8
          have g1 : some n = some m' := g1
          injection g1 with g1
          have hb' : bnds n c' lo' hi' none = some (l', h', c') := by
            have g3' : hiB n c' hi' none = some h' := by
              cases hi' with
              | none => exact g3
              | some y =>
                have g3 : idx y (m' + 1) = some h' := g3
                show idx y (c' + 1) = some h'
                unfold idx at g3 ⊢
                split at g3
                · obtain ⟨f1, f2⟩ := ifB_some g3
                  rw [ifB_eq, if_pos (blt_iff.2 (by have := blt_iff.1 f1; omega))]; exact f2
                · cases g3
            show opt (hiB n c' hi' none) _ = _
            rw [g3']
            show opt (bnd lo' 0 h') _ = _
            rw [g5]; rfl
          have hb := bnds_sound (s := true) ho m2 m3 m4 h5 h7 h9 hb' P w hnc
          have hb1 := hb.1
          simp only [Option.map_none] at hb1
          have hh'n : h' ≤ n := by
            cases hi' with
            | none =>
              have g3 : some n = some h' := g3
              injection g3 with g3; omega
            | some y =>
              rcases evO_sound ho m3 h7 with ⟨_, e⟩ | ⟨y3, a3, e3, e4, r3⟩
              · cases e
              cases e4
              have := (idx_sound (show idx y (m' + 1) = some h' from g3) r3).1
              omega
          rw [ifB_eq] at f2
          split at f2
          · rename_i hl0
            have hl0 : l' = 0 := Nat.eq_of_beq_eq_true hl0
            injection f2 with f2; subst f2 hl0
            refine ⟨.slice (some ⟨k, off, none⟩) h' c', ?_, k, sz, c', hφ, rfl, by omega, hcap⟩
            simp [execOp, hop, Instr.sliceAt, Instr.slice, hun, ha, hb1, hsz, addr_add]
          · rw [ifB_eq] at f2
            split at f2
            case isFalse f3 =>
              injection f2 with f2; subst f2
              refine ⟨.slice (if c' = l' then some ⟨k, off, none⟩ else some ⟨k, off + l' * te.size, none⟩) (h' - l') (c' - l'), ?_, ?_⟩
              · simp [execOp, hop, Instr.sliceAt, Instr.slice, hun, ha, hb1, hsz, addr_add]
              · have f3 : ¬ (l' < n) := fun hc => f3 (blt_iff.2 hc)
                have hz : h' - l' = 0 := by omega
                rw [hz]
                split
                · exact ⟨k, sz, _, _, hφ, rfl⟩
                · exact ⟨k, sz, _, _, hφ, rfl⟩
            rename_i f3
            have f4 := f2
            have f3 := blt_iff.1 f3
            simp only [seqN_eq] at f4
            injection f4 with f4; subst f4
            have hne : ¬ (c' = l') := by omega
            refine ⟨.slice (some ⟨k, off + l' * te.size, none⟩) (h' - l') (c' - l'), ?_, k, sz, c' - l', hφ, rfl, Nat.sub_le_sub_right (Nat.le_trans hh'n hnc) l', ?_⟩
            · simp [execOp, hop, Instr.sliceAt, Instr.slice, hun, ha, hb1, hsz, addr_add, hne]
            · show (c' - l') * s + (off + l' * te.size) = sz
              rw [← hcap, ← hse, Nat.sub_mul]
              have : l' * s ≤ c' * s := Nat.mul_le_mul_right s (by omega)
              omega
  · -- array
    rename_i len el
    obtain ⟨te, h11, h12⟩ := opt_some h10
    have hsz := (hE.ty _ _ h11).run_size
    cases a <;> first | (cases h12; done) | skip
    rename_i b off
    obtain ⟨⟨l, hh, m⟩, h13, h14⟩ := opt_some h12
    simp only [seqN_eq, mkSl_eq] at h14
    injection h14 with h14; subst h14
    obtain ⟨k, sz, hφ, ha⟩ := ha
    have hb := bnds_sound (s := false) ho m2 m3 m4 h5 h7 h9 h13 P w (Nat.le_refl _)
    refine ⟨.slice (some ⟨k, (if m = l then off else off + l * te.size), none⟩) (hh - l) (m - l), ?_, k, sz, m - l, hφ, rfl, by have := hb.2; omega, rfl⟩
    simp [execOp, hop, Instr.sliceAt, Instr.sureAddr, hun, ha, hb.1, hsz, addr_add]
    split <;> rfl

/-! lengths, minima -/
def mlen (h : H) (a : AV) : Option Nat := match a with
  | .nilmap => some 0
  | .map b => opt (blk h b) fun ob => match ob with | .map es _ => some es.length | _ => none
  | _ => none
def vlen (E : Env) (h : H) (t : TypeId) (a : AV) : Option AV := opt (E.ty.get t) fun ti => match ti.und with
  | .string => (match a with | .str s => seqN s.size fun n => some (.int .i64 (.ofNat n)) | _ => none)
  | .array n _ => some (.int .i64 (.ofNat n))
  | .slice _ => (match a with | .nilsl => some (.int .i64 (.ofNat 0)) | .sl _ _ n _ => some (.int .i64 (.ofNat n)) | .slz _ => some (.int .i64 (.ofNat 0)) | _ => none)
  | .map _ _ => opt (mlen h a) fun n => seqN n fun n => some (.int .i64 (.ofNat n))
  | _ => none
theorem mrel_length : ∀ {es : List (AV × AV × Nat)} {l : List MapEntry}, mrel φ es l → es.length = l.length
  | [], _, h => by have h : _ = _ := h; subst h; rfl
  | _ :: es, _, ⟨_, _, l', e, _, _, h⟩ => by subst e; simp [mrel_length h]
theorem vlen_sound (hE : EnvOK P E) (hr : HR w0 φ h w) {t : TypeId} {a : AV} {u : Value} {ty : TypeId} (ha : vr φ a u) (hv : vlen E h t a = some v) : ∃ v', (Builtin.len_ #[t] ty #[u]).run P w = .ok v' w ∧ vr φ v v' := by
  obtain ⟨ti, h1, h2⟩ := opt_some hv
  have hun := (hE.ty _ _ h1).run_und w
  cases hu : ti.und <;> rw [hu] at h2 hun <;> first | (cases h2; done) | skip
  · cases a <;> first | (cases h2; done) | skip
    rename_i s
    simp only [seqN_eq] at h2
    injection h2 with h2; subst h2
    have ha : u = .string s := ha
    exact ⟨goInt s.size, by simp [Builtin.len_, hun, ha], rfl⟩
  · cases a <;> first | (cases h2; done) | skip
    · injection h2 with h2; subst h2
      have ha : u = .slice none 0 0 := ha
      exact ⟨goInt 0, by simp [Builtin.len_, hun, ha], rfl⟩
    · injection h2 with h2; subst h2
      obtain ⟨k, sz, c', hb, ha, _⟩ := ha
      exact ⟨_, by simp [Builtin.len_, hun, ha]; rfl, rfl⟩
    · injection h2 with h2; subst h2
      obtain ⟨k, sz, o, c', hb, ha⟩ := ha
      exact ⟨_, by simp [Builtin.len_, hun, ha]; rfl, rfl⟩
  · rename_i n el
    injection h2 with h2; subst h2
    exact ⟨goInt n, by simp [Builtin.len_, hun], rfl⟩
  · obtain ⟨n, h3, h4⟩ := opt_some h2
    simp only [seqN_eq] at h4
    injection h4 with h4; subst h4
    cases a <;> first | (cases h3; done) | skip
    · injection h3 with h3; subst h3
      have ha : u = .map none := ha
      exact ⟨goInt 0, by simp [Builtin.len_, hun, ha], rfl⟩
    · obtain ⟨ob, h5, h6⟩ := opt_some h3
      cases ob <;> first | (cases h6; done) | skip
      rename_i es clock
      injection h6 with h6; subst h6
      obtain ⟨k, sz, hb, ha⟩ := ha
      obtain ⟨o', hk, es', ho', hm⟩ := hr.obj _ _ k sz h5 hb
      subst ho'
      have hg : (getObj k).run P w = .ok (.map es' clock) w := by simp [getObj, Sem.run, hk]
      refine ⟨goInt es'.size, by simp [Builtin.len_, hun, ha, hg], ?_⟩
      have := mrel_length hm
      show goInt es'.size = .int .i64 (Int.ofNat es.length)
      rw [this]; rfl
def foldM2 (less : Bool) : AV → List AV → Option AV := fun a as => List.rec (motive := fun _ => AV → Option AV) (fun a => some a) (fun b _ ih a => match a with
  | .int k x => (match b with | .int _ y => ih (.int k (ifB (ifB less (ilt y x) (ilt x y)) y x)) | _ => none)
  | _ => none) as a
theorem foldMin_sound : ∀ {as : List AV} {a : AV} {us : List Value} {u : Value}, vr φ a u → vrs φ as us → foldM2 true a as = some v → ∃ v', (us.foldlM Builtin.min2 u : Sem Value).run P w = .ok v' w ∧ vr φ v v'
  | [], a, us, u, ha, hs, hv => by
    have hs : us = [] := hs
    subst hs
    injection hv with hv; subst hv
    exact ⟨u, by simp, ha⟩
  | b :: as, a, _, u, ha, ⟨ub, us, rfl, hb, hs⟩, hv => by
    cases a <;> first | (cases hv; done) | skip
    cases b <;> first | (cases hv; done) | skip
    rename_i k x k' y
    have hv : foldM2 true (.int k (ifB (ilt y x) y x)) as = some v := hv
    have ha : u = .int k x := ha
    have hb : ub = .int k' y := hb
    subst ha hb
    obtain ⟨v', h1, h2⟩ := foldMin_sound (a := .int k (ifB (ilt y x) y x)) (u := .int k (ifB (ilt y x) y x)) rfl hs hv
    refine ⟨v', ?_, h2⟩
    rw [ifB_eq, ilt_eq] at h1
    simp only [decide_eq_true_eq] at h1
    simp [List.foldlM, Builtin.min2, h1]
theorem foldMax_sound : ∀ {as : List AV} {a : AV} {us : List Value} {u : Value}, vr φ a u → vrs φ as us → foldM2 false a as = some v → ∃ v', (us.foldlM Builtin.max2 u : Sem Value).run P w = .ok v' w ∧ vr φ v v'
  | [], a, us, u, ha, hs, hv => by
    have hs : us = [] := hs
    subst hs
    injection hv with hv; subst hv
    exact ⟨u, by simp, ha⟩
  | b :: as, a, _, u, ha, ⟨ub, us, rfl, hb, hs⟩, hv => by
    cases a <;> first | (cases hv; done) | skip
    cases b <;> first | (cases hv; done) | skip
    rename_i k x k' y
    have hv : foldM2 false (.int k (ifB (ilt x y) y x)) as = some v := hv
    have ha : u = .int k x := ha
    have hb : ub = .int k' y := hb
    subst ha hb
    obtain ⟨v', h1, h2⟩ := foldMax_sound (a := .int k (ifB (ilt x y) y x)) (u := .int k (ifB (ilt x y) y x)) rfl hs hv
    refine ⟨v', ?_, h2⟩
    rw [ifB_eq, ilt_eq] at h1
    simp only [decide_eq_true_eq] at h1
    simp [List.foldlM, Builtin.max2, h1]
end

end
end Go.Proofs.Ytdhnacajgmjmlaa.Ev
