/- An abstract machine, part 6: more operations that only look. Of no program. -/
import Derived.Laws.Tables
import Derived.Laws.Strings
import Derived.Laws.BytesString
import Derived.Test.YtdhnacajgmjmlaaEvE
namespace Go.Proofs.Ytdhnacajgmjmlaa.Ev
open Go.RowKit
noncomputable section
set_option linter.unusedVariables false

section
variable {P : Program} {E : Env} {w0 w : World} {φ : Phi} {h : H} {tm : Tr AV} {ρ : Operand → Value} {o : Oper} {v : AV}

/-! operators -/
def bytesEq (a b : List UInt8) : Bool := a == b
def strOp (op : BinOp) (a b : ByteArray) : Option AV := match op with
  | .eql => retB (bytesEq a.data.toList b.data.toList)
  | .neq => retB (not (bytesEq a.data.toList b.data.toList))
  | .add => ifB (Nat.ble (Nat.add a.size b.size) 1000000) (some (.str (a ++ b))) none
  | _ => none
theorem strOp_sound {op : BinOp} {t : TypeId} {a b : ByteArray} (hv : strOp op a b = some v) : ∃ v', (binOp op t (.string a) (.string b)).run P w = .ok v' w ∧ vr φ v v' := by
  cases op <;> first | (cases hv; done) | skip
  · obtain ⟨h1, h2⟩ := ifB_some (show ifB (Nat.ble (a.size + b.size) 1000000) (some (.str (a ++ b))) none = some v from hv)
    injection h2 with h2; subst h2
    have h1 := Nat.le_of_ble_eq_true h1
    have h3 : ¬ (((a.size + b.size : Nat) : Int) > IntKind.i64.max) := by
      have : IntKind.i64.max = 9223372036854775807 := rfl
      rw [this]; omega
    exact ⟨.string (a ++ b), by simp only [binOp, Op.stringOp, if_neg h3]; rfl, rfl⟩
  · have hv : retB (bytesEq a.data.toList b.data.toList) = some v := hv
    rw [retB_eq] at hv; injection hv with hv; subst hv
    exact ⟨_, by simp [binOp, Op.stringOp]; rfl, by rw [ByteArray.toList_eq, ByteArray.toList_eq]; rfl⟩
  · have hv : retB (not (bytesEq a.data.toList b.data.toList)) = some v := hv
    rw [retB_eq] at hv; injection hv with hv; subst hv
    exact ⟨_, by simp [binOp, Op.stringOp]; rfl, by rw [ByteArray.toList_eq, ByteArray.toList_eq]; rfl⟩
def eqOp (E : Env) (h : H) (op : BinOp) (t : TypeId) (x y : Operand) (a b : AV) : Option AV := match op with
  | .eql => opt (eqA E h t x y a b) fun r => some (.bool r)
  | .neq => opt (eqA E h t x y a b) fun r => retB (not r)
  | _ => none
def vbin (E : Env) (tm : Tr AV) (h : H) (op : BinOp) (t : TypeId) (x y : Operand) : Option AV := opt (aev tm x) fun a => opt (aev tm y) fun b => match a with
  | .int k m => (match b with | .int k' n => intOp op k m k' n | _ => none)
  | .str s => (match b with | .str s' => strOp op s s' | _ => none)
  | a => eqOp E h op t x y a b
theorem eqA_kind {t : TypeId} {x y : Operand} {a b : AV} {r : Bool} (hv : eqA E h t x y a b = some r) :
    (∀ cs, a ≠ .agg cs) ∧ (∀ k n, a ≠ .int k n) ∧ (∀ s, a ≠ .str s) ∧ (∀ s, b ≠ .str s) ∧ (∀ k n, b ≠ .int k n) ∧ (a = .niliface → b = .niliface → (isConstO x || isConstO y) = true) := by
  obtain ⟨ti, h1, h2⟩ := opt_some hv
  clear hv
  cases hu : ti.und <;> rw [hu] at h2 <;> first | (cases h2; done) | skip
  all_goals (cases a <;> first | (cases h2; done) | skip)
  all_goals (cases b <;> first | (cases h2; done) | skip)
  all_goals refine ⟨fun _ h => (by cases h), fun _ _ h => (by cases h), fun _ h => (by cases h), fun _ h => (by cases h), fun _ _ h => (by cases h), fun ha hb => ?_⟩
  all_goals first | (cases ha; done) | (cases hb; done) | exact (ifB_some h2).1
def shp : Value → Nat
  | .int .. => 0 | .bool .. => 1 | .string .. => 2 | .pointer .. => 3 | .slice .. => 4 | .map .. => 5 | .func .. => 6 | .nilFunc => 7 | .iface .. => 8 | .nilIface => 9 | .agg .. => 10 | .tuple .. => 11 | .float .. => 12 | .complex .. => 13 | .chan .. => 14
def ashp : AV → Nat
  | .int .. => 0 | .bool .. => 1 | .str .. => 2 | .nilptr => 3 | .ptr .. => 3 | .nilsl => 4 | .sl .. => 4 | .slz .. => 4 | .nilmap => 5 | .map .. => 5 | .func .. => 6 | .yield .. => 6 | .nilfunc => 7 | .iface .. => 8 | .niliface => 9 | .agg .. => 10 | .tup .. => 11
theorem shp_of : ∀ {a : AV} {v : Value}, vr φ a v → shp v = ashp a
  | .int .., _, hv => by have hv : _ = _ := hv; rw [hv]; rfl
  | .bool .., _, hv => by have hv : _ = _ := hv; rw [hv]; rfl
  | .str .., _, hv => by have hv : _ = _ := hv; rw [hv]; rfl
  | .nilptr, _, hv => by have hv : _ = _ := hv; rw [hv]; rfl
  | .ptr .., _, hv => by obtain ⟨_, _, _, hv⟩ := hv; rw [hv]; rfl
  | .nilsl, _, hv => by have hv : _ = _ := hv; rw [hv]; rfl
  | .sl .., _, hv => by obtain ⟨_, _, _, _, hv, _⟩ := hv; rw [hv]; rfl
  | .slz .., _, hv => by obtain ⟨_, _, _, _, _, hv⟩ := hv; rw [hv]; rfl
  | .nilmap, _, hv => by have hv : _ = _ := hv; rw [hv]; rfl
  | .map .., _, hv => by obtain ⟨_, _, _, hv⟩ := hv; rw [hv]; rfl
  | .func .., _, hv => by obtain ⟨_, _, hv, _, _⟩ := hv; rw [hv]; rfl
  | .yield .., _, hv => by obtain ⟨_, _, _, hv⟩ := hv; rw [hv]; rfl
  | .nilfunc, _, hv => by have hv : _ = _ := hv; rw [hv]; rfl
  | .iface .., _, hv => by obtain ⟨_, hv, _⟩ := hv; rw [hv]; rfl
  | .niliface, _, hv => by have hv : _ = _ := hv; rw [hv]; rfl
  | .agg .., _, hv => by obtain ⟨_, hv, _⟩ := hv; rw [hv]; rfl
  | .tup .., _, hv => by obtain ⟨_, hv, _⟩ := hv; rw [hv]; rfl
theorem eqGuard_ok {op : BinOp} {t : TypeId} {x y : Operand} {a b : AV} {a' b' : Value} {r : Bool} (hv : eqA E h t x y a b = some r) (ha : vr φ a a') (hb : vr φ b b') : (eqGuard op t x y a' b').run P w = .ok () w := by
  obtain ⟨k1, k2, k3, k4, k5, k6⟩ := eqA_kind hv
  have sa := shp_of ha
  have sb := shp_of hb
  have g1 : ∀ cs, a' ≠ .agg cs := by
    intro cs hc
    rw [hc] at sa
    cases a <;> first | (cases sa; done) | exact k1 _ rfl
  by_cases hn : a' = .nilIface ∧ b' = .nilIface
  · obtain ⟨rfl, rfl⟩ := hn
    have ea : a = .niliface := by cases a <;> first | rfl | (cases sa; done)
    have eb : b = .niliface := by cases b <;> first | rfl | (cases sb; done)
    have hc := k6 ea eb
    unfold eqGuard
    cases op <;> simp
    all_goals
      cases x <;> cases y <;> first | (cases hc; done) | simp
  · unfold eqGuard
    cases op <;> simp
    all_goals
      cases a' <;> first | rfl | exact absurd rfl (g1 _) | skip
      cases b' <;> first | rfl | exact absurd ⟨rfl, rfl⟩ hn
theorem binOp_eql {t : TypeId} {x y : Value} (h0 : shp x ≠ 0) (h2 : shp x ≠ 2) (h12 : shp x ≠ 12) (h13 : shp x ≠ 13) : binOp .eql t x y = (do pure (.bool (← Op.equal t x y))) := by
  cases x <;> first | exact absurd rfl h0 | exact absurd rfl h2 | exact absurd rfl h12 | exact absurd rfl h13 | (cases y <;> rfl)
theorem binOp_neq {t : TypeId} {x y : Value} (h0 : shp x ≠ 0) (h2 : shp x ≠ 2) (h12 : shp x ≠ 12) (h13 : shp x ≠ 13) : binOp .neq t x y = (do pure (.bool (!(← Op.equal t x y)))) := by
  cases x <;> first | exact absurd rfl h0 | exact absurd rfl h2 | exact absurd rfl h12 | exact absurd rfl h13 | (cases y <;> rfl)
theorem vbin_sound (hE : EnvOK P E) (hr : HR w0 φ h w) {op : BinOp} {t yt : TypeId} {x y : Operand} (ho : Ops φ tm ρ o.op.operands.toList) (hop : o.op = .binOp op t x y yt) (hv : vbin E tm h op t x y = some v) : VS P w φ ρ o v := by
  obtain ⟨a, h1, h2⟩ := opt_some hv
  obtain ⟨b, h3, h4⟩ := opt_some h2
  have ha := ho.at (x := x) (by simp [hop, Op.operands]) h1
  have hb := ho.at (x := y) (by simp [hop, Op.operands]) h3
  by_cases hi : ∃ k m, a = .int k m
  · obtain ⟨k, m, rfl⟩ := hi
    cases b <;> first | (cases h4; done) | skip
    rename_i k' n
    have ha : ρ x = .int k m := ha
    have hb : ρ y = .int k' n := hb
    obtain ⟨v', g1, g2⟩ := intOp_sound (P := P) (w := w) (φ := φ) (t := t) (show intOp op k m k' n = some v from h4)
    refine ⟨v', ?_, g2⟩
    have hg : (eqGuard op t x y (.int k m) (.int k' n)).run P w = .ok () w := by unfold eqGuard; cases op <;> simp
    simp [execOp, hop, ha, hb, hg, g1]
  · by_cases hs : ∃ s, a = .str s
    · obtain ⟨s, rfl⟩ := hs
      cases b <;> first | (cases h4; done) | skip
      rename_i s'
      have ha : ρ x = .string s := ha
      have hb : ρ y = .string s' := hb
      obtain ⟨v', g1, g2⟩ := strOp_sound (P := P) (w := w) (φ := φ) (t := t) (show strOp op s s' = some v from h4)
      refine ⟨v', ?_, g2⟩
      have hg : (eqGuard op t x y (.string s) (.string s')).run P w = .ok () w := by unfold eqGuard; cases op <;> simp
      simp [execOp, hop, ha, hb, hg, g1]
    · have h5 : eqOp E h op t x y a b = some v := by
        cases a <;> first | exact h4 | exact absurd ⟨_, _, rfl⟩ hi | exact absurd ⟨_, rfl⟩ hs
      clear h4 h2 hv
      cases op <;> first | (cases h5; done) | skip
      · obtain ⟨r, h6, h7⟩ := opt_some h5
        injection h7 with h7; subst h7
        have he := eqA_sound hE hr ha hb h6
        have hg := eqGuard_ok (P := P) (w := w) (op := .eql) h6 ha hb
        refine ⟨.bool r, ?_, rfl⟩
        have hbin : (binOp .eql t (ρ x) (ρ y)).run P w = .ok (.bool r) w := by
          have sa := shp_of ha
          obtain ⟨k1, k2, k3, k4, k5, k6⟩ := eqA_kind h6
          rw [binOp_eql (by rw [sa]; cases a <;> first | exact absurd rfl (k2 _ _) | (intro hh; cases hh)) (by rw [sa]; cases a <;> first | exact absurd rfl (k3 _) | (intro hh; cases hh)) (by rw [sa]; cases a <;> (intro hh; cases hh)) (by rw [sa]; cases a <;> (intro hh; cases hh))]
          simp [he]
        simp [execOp, hop, hg, hbin]
      · obtain ⟨r, h6, h7⟩ := opt_some h5
        rw [retB_eq] at h7
        injection h7 with h7; subst h7
        have he := eqA_sound hE hr ha hb h6
        have hg := eqGuard_ok (P := P) (w := w) (op := .neq) h6 ha hb
        refine ⟨.bool (!r), ?_, by cases r <;> rfl⟩
        have hbin : (binOp .neq t (ρ x) (ρ y)).run P w = .ok (.bool (!r)) w := by
          have sa := shp_of ha
          obtain ⟨k1, k2, k3, k4, k5, k6⟩ := eqA_kind h6
          rw [binOp_neq (by rw [sa]; cases a <;> first | exact absurd rfl (k2 _ _) | (intro hh; cases hh)) (by rw [sa]; cases a <;> first | exact absurd rfl (k3 _) | (intro hh; cases hh)) (by rw [sa]; cases a <;> (intro hh; cases hh)) (by rw [sa]; cases a <;> (intro hh; cases hh))]
          simp [he]
        simp [execOp, hop, hg, hbin]
def vun (tm : Tr AV) (op : UnOp) (x : Operand) : Option AV := opt (aev tm x) fun a => match op with
  | .neg => (match a with | .int k n => retI k (Int.neg n) | _ => none)
  | .not => (match a with | .bool b => retB (not b) | _ => none)
  | .xor => (match a with | .int k n => ifB (sgn k) none (retI k (.ofNat (Nat.xor (Nat.sub (lim k) 1) (natOf k n)))) | _ => none)
  | _ => none
theorem vun_sound {op : UnOp} {t : TypeId} {x : Operand} (ho : Ops φ tm ρ o.op.operands.toList) (hop : o.op = .unOp op t x) (hv : vun tm op x = some v) : VS P w φ ρ o v := by
  obtain ⟨a, h1, h2⟩ := opt_some hv
  have ha := ho.at (x := x) (by simp [hop, Op.operands]) h1
  cases op <;> first | (cases h2; done) | skip
  · cases a <;> first | (cases h2; done) | skip
    rename_i k n
    have h2 : retI k (Int.neg n) = some v := h2
    rw [retI_eq] at h2; injection h2 with h2; subst h2
    have ha : ρ x = .int k n := ha
    refine ⟨.int k (k.wrap (-n)), by simp [execOp, hop, Op.unary, ha, Op.intArith], rfl⟩
  · cases a <;> first | (cases h2; done) | skip
    rename_i k n
    have h2 : ifB (sgn k) none (retI k (.ofNat (Nat.xor (Nat.sub (lim k) 1) (natOf k n)))) = some v := h2
    rw [ifB_eq] at h2
    split at h2
    · cases h2
    · rename_i hs
      rw [retI_eq, natOf_eq] at h2; injection h2 with h2; subst h2
      have ha : ρ x = .int k n := ha
      have hs : k.signed = false := by rw [← sgn_eq]; simpa using hs
      have hm : (BitVec.ofInt k.bits k.max).toNat = lim k - 1 := by cases k <;> first | (cases hs; done) | rfl
      refine ⟨.int k (k.wrap ((lim k - 1) ^^^ (BitVec.ofInt k.bits n).toNat : Nat)), ?_, rfl⟩
      have : Op.unary .xor (.int k n) = Op.intBits .xor k (if k.signed then -1 else k.max) n := rfl
      simp only [execOp, hop, ha, this, hs, Bool.false_eq_true, if_false, Op.intBits, BitVec.toNat_xor, hm]
      rfl
  · cases a <;> first | (cases h2; done) | skip
    rename_i b
    have h2 : retB (not b) = some v := h2
    rw [retB_eq] at h2; injection h2 with h2; subst h2
    have ha : ρ x = .bool b := ha
    exact ⟨.bool (!b), by simp [execOp, hop, Op.unary, ha], rfl⟩

/-! conversions -/
def toBytes : List AV → Option (List Nat)
  | [] => some []
  | a :: as => match a with
    | .int k n => ifB (Nat.beq (kidx k) 4) (opt (toBytes as) fun l => some (n.toNat :: l)) none
    | _ => none
def mkStr (l : List Nat) : ByteArray := ⟨(l.map UInt8.ofNat).toArray⟩
def vconv (E : Env) (tm : Tr AV) (h : H) (src dst : TypeId) (x : Operand) : Option AV := opt (E.ty.get src) fun ts => opt (E.ty.get dst) fun td => opt (aev tm x) fun a => match td.und with
  | .int k => (match a with | .int _ n => retI k n | _ => none)
  | .string => (match a with
    | .str s => some (.str s)
    | .sl b o n _ => (match ts.und with
      | .slice e => opt (E.ty.get e) fun te => (match te.und with
        | .int k => ifB (Nat.beq (kidx k) 4) (opt (blk h b) fun ob => match ob with
          | .cells c m _ d _ => ifB (Nat.ble (Nat.add o n) m) (opt (toBytes (ldN c d n o)) fun l => some (.str (mkStr l))) none
          | _ => none) none
        | _ => none)
      | _ => none)
    | .nilsl => (match ts.und with
      | .slice e => opt (E.ty.get e) fun te => (match te.und with
        | .int k => ifB (Nat.beq (kidx k) 4) (some (.str .empty)) none
        | _ => none)
      | _ => none)
    | _ => none)
  | _ => none
theorem toBytes_sound : ∀ {as : List AV} {vs : List Value} {l : List Nat}, vrs φ as vs → toBytes as = some l → ∃ ns : List Int, vs = ns.map (Value.int .u8) ∧ l = ns.map Int.toNat
  | [], vs, l, hv, h => by
    have : vs = [] := hv
    subst this
    injection h with h; subst h
    exact ⟨[], rfl, rfl⟩
  | a :: as, _, l, ⟨v, vs, rfl, h1, h2⟩, h => by
    cases a <;> first | (cases h; done) | skip
    rename_i k n
    obtain ⟨h3, h4⟩ := ifB_some h
    obtain ⟨l', h5, h6⟩ := opt_some h4
    injection h6 with h6; subst h6
    obtain ⟨ns, h7, h8⟩ := toBytes_sound h2 h5
    have hk : k = .u8 := kidx_inj (b := .u8) h3
    subst hk
    exact ⟨n :: ns, by rw [h7]; simp; exact h1, by rw [h8]; rfl⟩
theorem fold_push (ns : List Int) : ∀ (r : ByteArray), ns.foldl (fun r n => r.push (UInt8.ofNat n.toNat)) r = ⟨(r.data.toList ++ (ns.map Int.toNat).map UInt8.ofNat).toArray⟩ := by
  induction ns with
  | nil => intro r; simp
  | cons n ns ih =>
    intro r
    rw [List.foldl_cons, ih]
    simp [ByteArray.push]
theorem vconv_sound (hE : EnvOK P E) (hr : HR w0 φ h w) {src dst : TypeId} {x : Operand} (ho : Ops φ tm ρ o.op.operands.toList) (hop : o.op = .convert src dst x) (hv : vconv E tm h src dst x = some v) : VS P w φ ρ o v := by
  obtain ⟨ts, h1, h2⟩ := opt_some hv
  obtain ⟨td, h3, h4⟩ := opt_some h2
  obtain ⟨a, h5, h6⟩ := opt_some h4
  have hs := (hE.ty _ _ h1).run_und w
  have hd := (hE.ty _ _ h3).run_und w
  have ha := ho.at (x := x) (by simp [hop, Op.operands]) h5
  clear hv h2 h4
  cases hud : td.und <;> rw [hud] at h6 hd <;> first | (cases h6; done) | skip
  · rename_i k
    cases a <;> first | (cases h6; done) | skip
    rename_i k' n
    have h6 : retI k n = some v := h6
    rw [retI_eq] at h6; injection h6 with h6; subst h6
    have ha : ρ x = .int k' n := ha
    refine ⟨.int k (k.wrap n), ?_, rfl⟩
    have : (convert src dst (.int k' n)).run P w = .ok (.int k (k.wrap n)) w := by
      unfold convert
      simp only [Sem.run_bind, hs, hd, Result.andThen_ok]
      cases ts.und <;> simp [Conv.intToInt]
    simp [execOp, hop, ha, this]
  · cases a <;> first | (cases h6; done) | skip
    · rename_i s
      have h6 : some (AV.str s) = some v := h6
      injection h6 with h6; subst h6
      have ha : ρ x = .string s := ha
      refine ⟨.string s, ?_, rfl⟩
      have : (convert src dst (.string s)).run P w = .ok (.string s) w := by
        unfold convert
        simp only [Sem.run_bind, hs, hd, Result.andThen_ok]
        cases ts.und <;> simp
      simp [execOp, hop, ha, this]
    · cases hus : ts.und <;> rw [hus] at h6 hs <;> first | (cases h6; done) | skip
      rename_i e
      obtain ⟨te, h7, h8⟩ := opt_some h6
      have hute := (hE.ty _ _ h7).und
      cases hue : te.und <;> rw [hue] at h8 hute <;> first | (cases h8; done) | skip
      rename_i k
      obtain ⟨h9, h10⟩ := ifB_some h8
      have hk : k = .u8 := kidx_inj (b := .u8) h9
      subst hk
      injection h10 with h10; subst h10
      have ha : ρ x = .slice none 0 0 := ha
      have hcv := run_convert_bytes_string (P := P) w src dst e none 0 0 (by have := (hE.ty _ _ h1).und; rw [hus] at this; exact this) hute (by have := (hE.ty _ _ h3).und; rw [hud] at this; exact this)
      refine ⟨.string .empty, ?_, rfl⟩
      simp [execOp, hop, ha, hcv, Conv.bytesToString]
    · rename_i b off n c
      cases hus : ts.und <;> rw [hus] at h6 hs <;> first | (cases h6; done) | skip
      rename_i e
      obtain ⟨te, h7, h8⟩ := opt_some h6
      have hute := (hE.ty _ _ h7).und
      cases hue : te.und <;> rw [hue] at h8 hute <;> first | (cases h8; done) | skip
      rename_i k
      obtain ⟨h9, h10⟩ := ifB_some h8
      have hk : k = .u8 := kidx_inj (b := .u8) h9
      subst hk
      obtain ⟨ob, h11, h12⟩ := opt_some h10
      cases ob <;> first | (cases h12; done) | skip
      rename_i cc m ee d ex
      obtain ⟨h13, h14⟩ := ifB_some h12
      obtain ⟨l, h15, h16⟩ := opt_some h14
      injection h16 with h16; subst h16
      obtain ⟨kb, sz, c', hb, ha, _⟩ := ha
      obtain ⟨vs, h17, h18⟩ := load_sound (P := P) hr hb h11 off n (Nat.le_of_ble_eq_true h13)
      obtain ⟨ns, h19, h20⟩ := toBytes_sound h18 h15
      have hvs : vs = (ns.map (Value.int .u8)).toArray := by rw [← h19]
      rw [hvs] at h17
      have hcv := run_convert_bytes_string (P := P) w src dst e (some ⟨kb, off, none⟩) n c' (by have := (hE.ty _ _ h1).und; rw [hus] at this; exact this) hute (by have := (hE.ty _ _ h3).und; rw [hud] at this; exact this)
      refine ⟨.string (mkStr l), ?_, rfl⟩
      have he : mkStr l = ns.foldl (fun r n => r.push (UInt8.ofNat n.toNat)) ByteArray.empty := by
        rw [fold_push, h20]
        rfl
      simp only [execOp, hop, ha, Sem.run_bind, hcv, run_bytesToString w _ n c' ns h17, Result.andThen_ok, he]
      rfl
end

end
end Go.Proofs.Ytdhnacajgmjmlaa.Ev
