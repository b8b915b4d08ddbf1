/- An abstract machine, part 9: all that only looks; new memory. Of no program. -/
import Derived.Test.YtdhnacajgmjmlaaEvH
namespace Go.Proofs.Ytdhnacajgmjmlaa.Ev
open Go.RowKit
noncomputable section
set_option linter.unusedVariables false
set_option linter.unusedSimpArgs false

section
variable {P : Program} {E : Env} {w0 w : World} {φ : Phi} {h : H} {tm : Tr AV} {ρ : Operand → Value} {o : Oper} {v : AV}

/-! ### what only looks -/
def vs2a (E : Env) (tm : Tr AV) (arr : TypeId) (x : Operand) : Option AV := opt (E.ty.get arr) fun ti => match ti.und with
  | .array n _ => opt (aev tm x) fun a => match a with
    | .sl b o m _ => ifB (Nat.ble n m) (some (.ptr b o)) none
    | _ => none
  | _ => none
theorem vs2a_sound (hE : EnvOK P E) {t : TypeId} {x : Operand} (ho : Ops φ tm ρ o.op.operands.toList) (hop : o.op = .sliceToArrayPointer t x) (hv : vs2a E tm t x = some v) : VS P w φ ρ o v := by
  obtain ⟨ti, h1, h2⟩ := opt_some hv
  have hun := (hE.ty _ _ h1).run_und w
  cases hu : ti.und <;> rw [hu] at h2 hun <;> first | (cases h2; done) | skip
  rename_i n el
  obtain ⟨a, h3, h4⟩ := opt_some h2
  cases a <;> first | (cases h4; done) | skip
  rename_i b off m c
  obtain ⟨h5, h6⟩ := ifB_some h4
  injection h6 with h6; subst h6
  have h5 : n ≤ m := Nat.le_of_ble_eq_true h5
  obtain ⟨k, sz, c', hb, hx, _⟩ := ho.at (x := x) (by simp [hop, Op.operands]) h3
  have h5' : ¬ (m < n) := by omega
  exact ⟨.pointer (some ⟨k, off, none⟩), by simp [execOp, hop, Instr.arrayAt, hun, hx, h5'], k, sz, hb, rfl⟩
def vbuiltin (E : Env) (tm : Tr AV) (h : H) (b : Builtin) (args : Array Operand) (tys : Array TypeId) : Option AV := match b with
  | .len => (match args.toList with
    | [x] => (match tys.toList with | [t] => opt (aev tm x) fun a => vlen E h t a | _ => none)
    | _ => none)
  | .min => opt (optMap (aev tm) args.toList) fun as => match as with | [] => none | a :: as => foldM2 true a as
  | .max => opt (optMap (aev tm) args.toList) fun as => match as with | [] => none | a :: as => foldM2 false a as
  | _ => none
def vop (E : Env) (tm : Tr AV) (h : H) (op : Op) : Option AV := match op with
  | .move x => aev tm x
  | .assign x => aev tm x
  | .pick c a b => vpick tm c a b
  | .build t ps => vbuild E tm t ps
  | .load t x => vload E tm h t x
  | .nilCheck x => vnil tm x
  | .binOp op t x y _ => vbin E tm h op t x y
  | .unOp op _ x => vun tm op x
  | .convert s d x => vconv E tm h s d x
  | .sliceToArrayPointer a x => vs2a E tm a x
  | .makeInterface t x => vmakeI E tm t x
  | .makeFunc f fi ca => vmakeF tm f fi ca
  | .slice t x lo hi mx => vslice E tm t x lo hi mx
  | .fieldAddr s x f => vfieldAddr E tm s x f
  | .field s x f => vfield E tm s x f
  | .indexAddr t x i => vindexAddr E tm t x i
  | .index t x i => vindex E tm t x i
  | .lookup t x i ok => vlookup E tm h t x i ok
  | .extract x i => vextract tm x i
  | .call c => (match c.callee with | .builtin b => vbuiltin E tm h b c.args c.argTypes | _ => none)
  | _ => none
theorem vop_sound (hE : EnvOK P E) (hr : HR w0 φ h w) (ho : Ops φ tm ρ o.op.operands.toList) (hv : vop E tm h o.op = some v) : VS P w φ ρ o v := by
  cases hop : o.op <;> rw [hop] at hv <;> first | (cases hv; done) | skip
  case move x => exact vmove_sound ho (Or.inl hop) hv
  case assign x => exact vmove_sound ho (Or.inr hop) hv
  case pick => exact vpick_sound ho hop hv
  case build => exact vbuild_sound hE ho hop hv
  case load => exact vload_sound hE hr ho hop hv
  case nilCheck => exact vnil_sound ho hop hv
  case binOp => exact vbin_sound hE hr ho hop hv
  case unOp => exact vun_sound ho hop hv
  case convert => exact vconv_sound hE hr ho hop hv
  case sliceToArrayPointer => exact vs2a_sound hE ho hop hv
  case makeInterface => exact vmakeI_sound hE ho hop hv
  case makeFunc => exact vmakeF_sound ho hop hv
  case slice => exact vslice_sound hE ho hop hv
  case fieldAddr => exact vfieldAddr_sound hE ho hop hv
  case field => exact vfield_sound hE ho hop hv
  case indexAddr => exact vindexAddr_sound hE ho hop hv
  case index => exact vindex_sound hE ho hop hv
  case lookup => exact vlookup_sound hE hr ho hop hv
  case extract => exact vextract_sound ho hop hv
  case call c =>
    obtain ⟨callee, args, tys⟩ := c
    cases callee <;> first | (cases hv; done) | skip
    rename_i b
    cases b <;> first | (cases hv; done) | skip
    · -- len
      have hv : (match args.toList with | [x] => (match tys.toList with | [t] => opt (aev tm x) fun a => vlen E h t a | _ => none) | _ => none) = some v := hv
      split at hv <;> first | (cases hv; done) | skip
      rename_i x hx
      split at hv <;> first | (cases hv; done) | skip
      rename_i t ht
      obtain ⟨a, h1, h2⟩ := opt_some hv
      have hargs : args = #[x] := by rw [← Array.toArray_toList (xs := args), hx]
      have htys : tys = #[t] := by rw [← Array.toArray_toList (xs := tys), ht]
      subst hargs htys
      obtain ⟨v', h3, h4⟩ := vlen_sound (P := P) (ty := o.type) hE hr (ho.at (x := x) (by simp [hop, Op.operands, Call.operands]) h1) h2
      exact ⟨v', by simp [execOp, hop, resolve, invoke, builtin, h3], h4⟩
    · -- max
      obtain ⟨as, h1, h2⟩ := opt_some (show opt (optMap (aev tm) args.toList) _ = some v from hv)
      cases as with
      | nil => cases h2
      | cons a as =>
        have hl := ho.list (ys := args.toList) (fun y hy => by simp [hop, Op.operands, Call.operands]; simpa using hy) h1
        obtain ⟨u, us, e, hu, hus⟩ := hl
        obtain ⟨v', h3, h4⟩ := foldMax_sound (P := P) (w := w) hu hus h2
        have e' : (args.map ρ).toList = u :: us := by rw [Array.toList_map]; exact e
        exact ⟨v', by simp [execOp, hop, resolve, invoke, builtin, Builtin.max_]; rw [show List.map ρ args.toList = u :: us from e]; simp [h3], h4⟩
    · -- min
      obtain ⟨as, h1, h2⟩ := opt_some (show opt (optMap (aev tm) args.toList) _ = some v from hv)
      cases as with
      | nil => cases h2
      | cons a as =>
        have hl := ho.list (ys := args.toList) (fun y hy => by simp [hop, Op.operands, Call.operands]; simpa using hy) h1
        obtain ⟨u, us, e, hu, hus⟩ := hl
        obtain ⟨v', h3, h4⟩ := foldMin_sound (P := P) (w := w) hu hus h2
        exact ⟨v', by simp [execOp, hop, resolve, invoke, builtin, Builtin.min_]; rw [show List.map ρ args.toList = u :: us from e]; simp [h3], h4⟩

/-! ### new memory -/
/-- a name in wait -/
theorem HR.reserve (hr : HR w0 φ h w) (O : AO) : HR w0 φ (h.add O) w ∧ Ext φ h φ (h.add O) := by
  refine ⟨⟨hr.bel, fun b k sz hb => ?_, ?_, ?_, ?_⟩, ⟨Sub.refl _, by simp [H.add], ?_⟩⟩
  · have := hr.lt b k sz hb
    exact ⟨this.1, this.2.1, by simp [H.add]; omega⟩
  · intro b x k s hx hb
    simp only [H.add, Tr.get_set] at hx
    rw [if_neg (by rintro rfl; rw [hr.fresh (Nat.le_refl _)] at hb; cases hb)] at hx
    exact hr.obj b x k s hx hb
  · intro b b' k s s' hb hb' hn hn'
    simp only [H.add, Tr.get_set] at hn hn'
    rw [if_neg (by rintro rfl; rw [hr.fresh (Nat.le_refl _)] at hb; cases hb)] at hn
    rw [if_neg (by rintro rfl; rw [hr.fresh (Nat.le_refl _)] at hb'; cases hb')] at hn'
    exact hr.inj b b' k s s' hb hb' hn hn'
  · intro b hb
    simp only [H.add] at hb ⊢
    rw [Tr.get_set, if_neg (by omega)]
    exact hr.old b (by omega)
  · intro b hb hn
    exact ⟨hn, by simp only [H.add]; rw [Tr.get_set, if_neg (by omega)]⟩
theorem Phi.sub_more {b k sz : Nat} (hb : φ b = none) : Sub φ (φ.more b k sz) := by
  intro x y hx
  have : x ≠ b := by rintro rfl; rw [hb] at hx; cases hx
  simp [Phi.more, this, hx]
/-- the block comes to be that the name waits for -/
theorem HR.bind (hr : HR w0 φ h w) {b sz : Nat} {O : AO} {o' : Obj} (hb : φ b = none) (hlt : b < h.next) (hO : h.t.get b = some O) (ho : orel (φ.more b w.heap.size sz) sz O o') (n : Nat) :
    HR w0 (φ.more b w.heap.size sz) h { w with heap := w.heap.push o', drawn := n } := by
  have hsub := Phi.sub_more (k := w.heap.size) (sz := sz) hb
  refine ⟨?_, ?_, ?_, ?_, hr.old⟩
  · exact ⟨hr.bel.os, hr.bel.tape, hr.bel.output, by simp; have := hr.bel.size; omega, fun k hk => by
      have := hr.bel.size
      show (w.heap.push o')[k]? = _
      rw [Array.getElem?_push, if_neg (by omega)]; exact hr.bel.block k hk⟩
  · intro x k s hx
    unfold Phi.more at hx
    split at hx
    · rename_i e
      injection hx with hx; injection hx with h1 h2; subst h1 e
      exact ⟨by simp, hr.bel.size, hlt⟩
    · have := hr.lt x k s hx
      exact ⟨by simp; omega, this.2⟩
  · intro x y k s hx hb2
    unfold Phi.more at hb2
    split at hb2
    · rename_i e
      injection hb2 with hb2; injection hb2 with h1 h2; subst h1 h2 e
      rw [hO] at hx; injection hx with hx; subst hx
      exact ⟨o', by simp, ho⟩
    · obtain ⟨y', h1, h2⟩ := hr.obj x y k s hx hb2
      have hk := (hr.lt x k s hb2).1
      exact ⟨y', by show (w.heap.push o')[k]? = _; rw [Array.getElem?_push, if_neg (by omega)]; exact h1, orel_mono hsub _ _ h2⟩
  · intro x y k s s' hx hy hn hn'
    unfold Phi.more at hx hy
    split at hx
    · split at hy
      · simp_all
      · injection hx with hx; injection hx with h1 h2; subst h1
        have := (hr.lt y _ s' hy).1; omega
    · split at hy
      · injection hy with hy; injection hy with h1 h2; subst h1
        have := (hr.lt x _ s hx).1; omega
      · exact hr.inj x y k s s' hx hy hn hn'

def dftOf (cs : List AV) : AV := match cs with | [] => .undef | z :: _ => z
def rowOf (cs : List AV) (elem : Nat) : AO := .cells (stF (dftOf cs) cs .e 0) cs.length elem (dftOf cs) true
theorem rowOf_rel {cs : List AV} {arr : Array Value} (elem : Nat) (hc : vrs φ cs arr.toList) : orel φ cs.length (rowOf cs elem) (.cells arr elem (0, 0)) := by
  have hl := vrs_length hc
  refine ⟨arr, rfl, by simp [hl], Nat.le_refl _, fun _ => rfl, fun i hi => ?_⟩
  rw [cellAt_st, if_pos (by omega)]
  obtain ⟨v, hv, hr⟩ := vrs_get hc (show cs[i]? = some cs[i] by simp [hi])
  refine ⟨v, by simpa using hv, ?_⟩
  simpa [hi] using hr
def rep (cs : List AV) : Nat → List AV := fun n => Nat.rec (motive := fun _ => List AV) [] (fun _ ih => cs ++ ih) n
theorem rep_sound {cs : List AV} {z : Array Value} (hz : vrs φ cs z.toList) : ∀ n, vrs φ (rep cs n) ((Array.range (n * z.size)).map (fun i => z[i % z.size]!)).toList
  | 0 => by simp [rep]; exact vrs_nil
  | n + 1 => by
    show vrs φ (cs ++ rep cs n) _
    have hl := vrs_length hz
    refine vrs_of_get ?_ fun i a v ha hv => ?_
    · have := vrs_length (rep_sound hz n)
      simp at this ⊢
      rw [this, hl, Nat.succ_mul]; simp; omega
    · have hsz : z.size = cs.length := by simpa using hl.symm
      rw [List.getElem?_append] at ha
      have hv' : i < (n + 1) * z.size ∧ z[i % z.size]! = v := by
        rw [Array.toList_map, List.getElem?_map, Array.toList_range] at hv
        cases hq : (List.range ((n + 1) * z.size))[i]? with
        | none => rw [hq] at hv; cases hv
        | some q =>
          rw [hq] at hv
          have hlt := (List.getElem?_eq_some_iff.1 hq).1
          have he := (List.getElem?_eq_some_iff.1 hq).2
          simp at hlt he
          simp at hv
          exact ⟨hlt, by rw [he]; exact hv⟩
      obtain ⟨hlt, hv'⟩ := hv'
      split at ha
      · rename_i hi
        obtain ⟨u, hu, hru⟩ := vrs_get hz ha
        have : i % z.size = i := Nat.mod_eq_of_lt (by omega)
        rw [this] at hv'
        have hu' : z[i]? = some u := by simpa using hu
        rw [← hv']
        simpa [getElem!_def, hu'] using hru
      · rename_i hi
        have hge : z.size ≤ i := by omega
        have hmod : i % z.size = (i - z.size) % z.size := by
          conv => lhs; rw [show i = (i - z.size) + z.size by omega, Nat.add_mod_right]
        have hv2 : ((Array.range (n * z.size)).map (fun i => z[i % z.size]!)).toList[i - z.size]? = some v := by
          have hlt2 : i - z.size < n * z.size := by rw [Nat.succ_mul] at hlt; omega
          rw [Array.toList_map, List.getElem?_map, Array.toList_range, List.getElem?_range hlt2]
          simp [← hmod, hv']
        obtain ⟨u, hu, hru⟩ := vrs_get (rep_sound hz n) (by rw [← hsz] at ha; exact ha)
        rw [hv2] at hu; cases hu; exact hru
/-- what an operation makes, out of its operands' values; and its value, of the name -/
def zipP (ps : List (Nat × Operand)) (vals : List AV) : Option (List (Nat × AV)) := match ps with
  | [] => (match vals with | [] => some [] | _ => none)
  | p :: ps => match vals with
    | [] => none
    | a :: as => (match a with | .tup _ => none | a => opt (zipP ps as) fun r => some ((p.1, a) :: r))
def mop (E : Env) (op : Op) (vals : List AV) : Option (AO × (Nat → AV)) := match op with
  | .alloc el => opt (E.ty.get el) fun ti => opt ti.zero.aggs fun z => some (rowOf z el, fun b => .ptr b 0)
  | .box el _ => (match vals with | [a] => opt a.aggs fun z => some (rowOf z el, fun b => .ptr b 0) | _ => none)
  | .buildSlice t len ps => opt (E.ty.get t) fun ti => match ti.und with
    | .slice el => opt (E.ty.get el) fun te => opt te.zero.aggs fun z => opt (zipP ps.toList vals) fun parts => ifB (Nat.beq z.length te.size) (ifB (Nat.ble (Nat.mul len te.size) 16777216) (opt (fillA (fun i => some (Nat.mul i te.size, te.size)) (rep z len) parts) fun l => some (rowOf l el, fun b => .sl b 0 len (.known len))) none) none
    | _ => none
  | .makeMap _ none => some (.map [] 0, fun b => .map b)
  | .makeSlice t _ _ => opt (E.ty.get t) fun ti => match ti.und with
    | .slice el => opt (E.ty.get el) fun te => opt te.zero.aggs fun z => (match vals with
      | [.int _ (.ofNat l), .int _ (.ofNat c)] => ifB (Nat.beq z.length te.size) (ifB (Nat.ble l c) (ifB (Nat.ble (Nat.mul te.bytes c) 281474976710656) (ifB (Nat.ble c 1048576) (some ((match z with
        | [d] => .cells .e c el d true
        | z => rowOf (rep z c) el), fun b => .sl b 0 l (.known c))) none) none) none) none
      | _ => none)
    | _ => none
  | _ => none
theorem zipP_sound : ∀ {ps : List (Nat × Operand)} {vals : List AV} {r : List (Nat × AV)}, vrs φ vals (ps.map fun p => ρ p.2) → zipP ps vals = some r →
    r.length = (ps.map fun p => (p.1, ρ p.2)).length ∧ ∀ (i : Nat) (p : Nat × AV) (p' : Nat × Value), r[i]? = some p → (ps.map fun p => (p.1, ρ p.2))[i]? = some p' → p.1 = p'.1 ∧ vr φ p.2 p'.2 ∧ ∀ cs, p.2 ≠ .tup cs
  | [], vals, r, hv, h => by
    cases vals with
    | nil => injection h with h; subst h; exact ⟨rfl, fun i p p' hp => by simp at hp⟩
    | cons a as => cases h
  | q :: ps, [], r, hv, h => by cases h
  | q :: ps, a :: as, r, hv, h => by
    obtain ⟨u, us, e, h1, h2⟩ := hv
    injection e with e1 e2
    subst e1 e2
    have key : ∃ r', zipP ps as = some r' ∧ (q.1, a) :: r' = r ∧ ∀ cs, a ≠ .tup cs := by
      cases a <;> first
        | (cases h; done)
        | (obtain ⟨r', h3, h4⟩ := opt_some h; injection h4 with h4; exact ⟨r', h3, h4, fun _ hh => (by cases hh)⟩)
    obtain ⟨r', h3, rfl, ht⟩ := key
    obtain ⟨g1, g2⟩ := zipP_sound h2 h3
    refine ⟨by simp [g1], fun i p p' hp hp' => ?_⟩
    cases i with
    | zero => simp at hp hp'; subst hp hp'; exact ⟨rfl, h1, ht⟩
    | succ i => exact g2 i p p' (by simpa using hp) (by simpa using hp')
theorem mop_sound (hE : EnvOK P E) {vals : List AV} (hvals : vrs φ vals (o.op.operands.toList.map ρ)) {O : AO} {mk : Nat → AV} (hm : mop E o.op vals = some (O, mk)) (w : World) :
    ∃ o' v' sz, (execOp ρ o).run P w = .ok (.value v') { w with heap := w.heap.push o' } ∧ ∀ b, φ b = none → orel (φ.more b w.heap.size sz) sz O o' ∧ vr (φ.more b w.heap.size sz) (mk b) v' := by
  cases hop : o.op <;> rw [hop] at hm hvals <;> first | (cases hm; done) | skip
  case alloc el =>
    obtain ⟨ti, h1, h2⟩ := opt_some hm
    obtain ⟨z, h3, h4⟩ := opt_some h2
    injection h4 with h4; injection h4 with h4 h5; subst h4 h5
    obtain ⟨hz1, hz2⟩ := aggs_some h3
    obtain ⟨zv, g1, g2⟩ := (hE.ty _ _ h1).run_zero
    refine ⟨.cells zv.cells el, .pointer (some ⟨w.heap.size, 0, none⟩), z.length, ?_, fun b hb => ⟨?_, w.heap.size, z.length, Phi.more_same _ _ _ _, rfl⟩⟩
    · simp [execOp, hop, Instr.alloc, g1, newVar, newRow, newObj, Sem.run]
    · exact orel_mono (Phi.sub_more hb) _ _ (rowOf_rel el (by rw [hz1]; exact vr_cells (g2 φ) hz2))
  case box el x =>
    rcases vals with _ | ⟨a, _ | ⟨a2, vals⟩⟩ <;> first | (cases hm; done) | skip
    obtain ⟨z, h3, h4⟩ := opt_some hm
    injection h4 with h4; injection h4 with h4 h5; subst h4 h5
    obtain ⟨hz1, hz2⟩ := aggs_some h3
    have hx : vr φ a (ρ x) := by
      have hvals : vrs φ [a] [ρ x] := by simpa [Op.operands] using hvals
      obtain ⟨_, _, e, h6, _⟩ := hvals
      injection e with e1 e2; subst e1; exact h6
    refine ⟨.cells (ρ x).cells el, .pointer (some ⟨w.heap.size, 0, none⟩), z.length, ?_, fun b hb => ⟨?_, w.heap.size, z.length, Phi.more_same _ _ _ _, rfl⟩⟩
    · simp [execOp, hop, Instr.box, newVar, newRow, newObj, Sem.run]
    · exact orel_mono (Phi.sub_more hb) _ _ (rowOf_rel el (by rw [hz1]; exact vr_cells hx hz2))
  case buildSlice t len ps =>
    obtain ⟨ti, h1, h2⟩ := opt_some hm
    have hun := (hE.ty _ _ h1).run_und w
    cases hu : ti.und <;> rw [hu] at h2 hun <;> first | (cases h2; done) | skip
    rename_i el
    obtain ⟨te, h3, h4⟩ := opt_some h2
    obtain ⟨z, h5, h6⟩ := opt_some h4
    obtain ⟨parts, h7, h8⟩ := opt_some h6
    obtain ⟨h9, h10⟩ := ifB_some h8
    obtain ⟨h11, h12⟩ := ifB_some h10
    obtain ⟨l, h13, h14⟩ := opt_some h12
    injection h14 with h14; injection h14 with h14 h15; subst h14 h15
    obtain ⟨hz1, hz2⟩ := aggs_some h5
    obtain ⟨zv, g1, g2⟩ := (hE.ty _ _ h3).run_zero
    have hcz : vrs φ z zv.cells.toList := by rw [hz1]; exact vr_cells (g2 φ) hz2
    have hzs : zv.cells.size = te.size := by have := vrs_length hcz; rw [Nat.eq_of_beq_eq_true h9] at this; simpa using this.symm
    have hps := zipP_sound (ρ := ρ) (ps := ps.toList) (by simpa [Op.operands, List.map_map, Function.comp_def] using hvals) h7
    obtain ⟨r', h16, h17⟩ := fill_sound (place' := fun i => some (i * te.size, te.size)) (fun i p hp => hp) hps (rep_sound hcz len) h13
    have h11 : len * te.size ≤ 16777216 := Nat.le_of_ble_eq_true h11
    have hll : l.length = r'.size := by simpa using vrs_length h17
    refine ⟨.cells r' el, .slice (some ⟨w.heap.size, 0, none⟩) len len, l.length, ?_, fun b hb => ⟨?_, w.heap.size, l.length, len, Phi.more_same _ _ _ _, rfl, Nat.le_refl _, rfl⟩⟩
    · have hparts : (ps.map fun (i, x) => (i, ρ x)).toList = ps.toList.map fun p => (p.1, ρ p.2) := by simp
      simp only [execOp, hop, Instr.buildSlice, Sem.run_bind, hun, Result.andThen_ok, (hE.ty _ _ h3).run_size]
      rw [if_neg (by omega)]
      by_cases hz : len * te.size = 0
      · have hr0 : (rep z len) = [] := by
          have := vrs_length (rep_sound hcz len)
          rw [hzs] at this
          simp [hz] at this
          exact this
        have h16' : Instr.fill (fun i => some (i * te.size, te.size)) ((Array.range (len * te.size)).map (fun i => (#[] : Array Value)[i % (#[] : Array Value).size]!)) (ps.map fun (i, x) => (i, ρ x)).toList = some r' := by
          rw [hparts, hz]
          rw [hzs, hz] at h16
          rw [show Array.range 0 = #[] from rfl, Array.map_empty] at h16 ⊢
          exact h16
        simp only [hz, if_true, Sem.run_pure, Sem.run_bind, Result.andThen_ok]
        rw [hz] at h16'
        simp only [Array.toList_map] at h16' ⊢
        rw [h16']
        simp [newRow, newObj, Sem.run]
      · have h16' : Instr.fill (fun i => some (i * te.size, te.size)) ((Array.range (len * te.size)).map (fun i => zv.cells[i % zv.cells.size]!)) (ps.map fun (i, x) => (i, ρ x)).toList = some r' := by
          rw [hparts]
          rw [hzs] at h16
          rw [hzs]
          exact h16
        simp only [hz, if_false, Sem.run_pure, Sem.run_bind, Result.andThen_ok, g1]
        rw [h16']
        simp [newRow, newObj, Sem.run]
    · exact orel_mono (Phi.sub_more hb) _ _ (rowOf_rel el h17)
  case makeMap t r =>
    cases r with
    | some x => cases hm
    | none =>
      injection hm with hm; injection hm with h4 h5; subst h4 h5
      refine ⟨.map #[] 0, .map (some w.heap.size), 0, ?_, fun b hb => ⟨⟨#[], rfl, rfl⟩, w.heap.size, 0, Phi.more_same _ _ _ _, rfl⟩⟩
      simp [execOp, hop, Instr.makeMap, newObj, Sem.run]
  case makeSlice t lx cx =>
    obtain ⟨ti, h1, h2⟩ := opt_some hm
    have hun := (hE.ty _ _ h1).run_und w
    cases hu : ti.und <;> rw [hu] at h2 hun <;> first | (cases h2; done) | skip
    rename_i el
    obtain ⟨te, h3, h4⟩ := opt_some h2
    obtain ⟨z, h5, h6⟩ := opt_some h4
    split at h6 <;> first | (cases h6; done) | skip
    rename_i k1 l k2 c
    obtain ⟨h9, h10⟩ := ifB_some h6
    obtain ⟨h11, h12⟩ := ifB_some h10
    obtain ⟨h13, h14⟩ := ifB_some h12
    obtain ⟨h15, h16⟩ := ifB_some h14
    injection h16 with h16; injection h16 with h16 h17
    obtain ⟨hz1, hz2⟩ := aggs_some h5
    obtain ⟨zv, g1, g2⟩ := (hE.ty _ _ h3).run_zero
    obtain ⟨i, i1, i2, i3⟩ := (hE.ty _ _ h3).run_info
    have hcz : vrs φ z zv.cells.toList := by rw [hz1]; exact vr_cells (g2 φ) hz2
    have hzs : zv.cells.size = te.size := by have := vrs_length hcz; rw [Nat.eq_of_beq_eq_true h9] at this; simpa using this.symm
    have hl : ρ lx = .int k1 (l : Int) ∧ ρ cx = .int k2 (c : Int) := by
      have hvals : vrs φ [.int k1 (.ofNat l), .int k2 (.ofNat c)] [ρ lx, ρ cx] := by simpa [Op.operands] using hvals
      obtain ⟨_, _, e, h6, _, _, e', h7, _⟩ := hvals
      injection e with e1 e2; subst e1 e2
      injection e' with e1 e2; subst e1
      exact ⟨h6, h7⟩
    have h11 : l ≤ c := Nat.le_of_ble_eq_true h11
    have h13 : te.bytes * c ≤ 281474976710656 := Nat.le_of_ble_eq_true h13
    have h15 : c ≤ 1048576 := Nat.le_of_ble_eq_true h15
    have wl : IntKind.i64.wrap (l : Int) = l := wrap_small .i64 _ rfl (by show -(9223372036854775808 : Int) ≤ _; omega) (by show _ < (9223372036854775808 : Int); omega)
    have wc : IntKind.i64.wrap (c : Int) = c := wrap_small .i64 _ rfl (by show -(9223372036854775808 : Int) ≤ _; omega) (by show _ < (9223372036854775808 : Int); omega)
    have hrow : vrs φ (rep z c) ((Array.range (c * te.size)).map (fun i => zv.cells[i % zv.cells.size]!)).toList := by have := rep_sound hcz c; rwa [hzs] at this ⊢
    have hlen : (rep z c).length = c * te.size := by simpa using vrs_length hrow
    have b0 : ¬ ((281474976710656 : Int) < (i.bytes : Int) * (c : Int)) := by rw [i3]; rw [← Int.natCast_mul]; omega
    have n0 : ¬ ((c : Int) < 0) := by omega
    have n1 : ¬ ((l : Int) < 0) := by omega
    have n2 : ¬ ((c : Int) < (l : Int)) := by omega
    have hexec : (execOp ρ o).run P w = .ok (.value (.slice (some ⟨w.heap.size, 0, none⟩) l c)) { w with heap := w.heap.push (.cells ((Array.range (c * te.size)).map (fun i => zv.cells[i % zv.cells.size]!)) el) } := by
      have hmark : ∀ n w, (askRoom n).run P w = .ok () w := fun n w => by unfold askRoom; split <;> simp [mark, Sem.run]
      simp only [execOp, hop, Instr.makeSlice, Sem.run_bind, hun, Result.andThen_ok, hl.1, hl.2, asInt, asIntOf, Sem.run_pure, i1, wl, wc]
      simp only [n0, n1, n2, b0, gt_iff_lt, decide_false, Bool.or_false, Bool.false_or, Bool.false_eq_true, if_false, Sem.run_bind, Sem.run_pure, Result.andThen_ok, hmark, Int.toNat_natCast, (hE.ty _ _ h3).run_size]
      have b1 : ¬ ((2 : Int) ^ 48 < (i.bytes : Int) * (c : Int)) := by rw [show (2 : Int) ^ 48 = 281474976710656 from rfl]; exact b0
      simp only [b1, decide_false, Bool.false_eq_true, if_false, Sem.run_bind, Sem.run_pure, Result.andThen_ok, hmark, (hE.ty _ _ h3).run_size]
      by_cases hz : c * te.size = 0
      · simp only [hz, if_true, Sem.run_pure, Sem.run_bind, Result.andThen_ok]
        rw [show Array.range 0 = #[] from rfl, Array.map_empty, Array.map_empty]
        simp [newRow, newObj, Sem.run]
      · simp [hz, g1, newRow, newObj, Sem.run]
    refine ⟨_, _, c * te.size, hexec, fun b hb => ⟨?_, ?_⟩⟩
    · refine orel_mono (Phi.sub_more hb) _ _ ?_
      rw [← h16]
      have gen : orel φ (c * te.size) (rowOf (rep z c) el) (.cells ((Array.range (c * te.size)).map (fun i => zv.cells[i % zv.cells.size]!)) el (0, 0)) := by
        have := rowOf_rel el hrow
        rwa [hlen] at this
      split
      · rename_i d
        have hs1 : te.size = 1 := (Nat.eq_of_beq_eq_true h9).symm
        refine ⟨_, rfl, by simp, by rw [hs1]; omega, fun _ => by rw [hs1]; omega, fun j hj => ?_⟩
        have hrep : (rep [d] c)[j]? = some d := by
          have : ∀ (n j : Nat), j < n → (rep [d] n)[j]? = some d := by
            intro n
            induction n with
            | zero => intro j hj; omega
            | succ n ih =>
              intro j hj
              show ([d] ++ rep [d] n)[j]? = _
              cases j with
              | zero => rfl
              | succ j => simpa using ih j (by omega)
          exact this c j hj
        obtain ⟨u, hu, hru⟩ := vrs_get hrow hrep
        exact ⟨u, by rw [← Array.getElem?_toList]; exact hu, hru⟩
      · exact gen
    · rw [← h17]
      exact ⟨w.heap.size, c * te.size, c, Phi.more_same _ _ _ _, rfl, h11, rfl⟩

end
end
end Go.Proofs.Ytdhnacajgmjmlaa.Ev
