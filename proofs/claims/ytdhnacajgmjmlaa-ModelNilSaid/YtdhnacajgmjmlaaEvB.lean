/- An abstract machine, part 2: what a new block, a load, a store do to the heap's relation. Of no program. -/
import Derived.Laws.Cells
import Derived.Laws.CopyRow
import Derived.Laws.Entries
import Derived.Test.YtdhnacajgmjmlaaEvA
namespace Go.Proofs.Ytdhnacajgmjmlaa.Ev
open Go.RowKit
noncomputable section
set_option linter.unusedVariables false

section
variable {w0 w w' : World} {φ φ' : Phi} {h : H} {P : Program}

theorem HR.drawn (hr : HR w0 φ h w) (n : Nat) : HR w0 φ h { w with drawn := n } := ⟨⟨hr.bel.os, hr.bel.tape, hr.bel.output, hr.bel.size, hr.bel.block⟩, hr.lt, hr.obj, hr.inj, hr.old⟩

/-- behind what turned nothing that there was -/
theorem HR.behind {w' : World} (hr : HR w0 φ h w) (hb : Below w.heap.size w w') : HR w0 φ h w' :=
  ⟨hr.bel.trans (hb.mono hr.bel.size), fun b k sz hp => by obtain ⟨h1, h2, h3⟩ := hr.lt b k sz hp; exact ⟨Nat.lt_of_lt_of_le h1 hb.size, h2, h3⟩, fun b o k sz ho hp => by
    obtain ⟨o', h1, h2⟩ := hr.obj b o k sz ho hp
    exact ⟨o', (hb.block k (hr.lt b k sz hp).1).trans h1, h2⟩, hr.inj, hr.old⟩
/-- a place for the next block -/
def Phi.more (φ : Phi) (b k sz : Nat) : Phi := fun x => if x = b then some (k, sz) else φ x
def H.add (h : H) (o : AO) : H := ⟨h.t.set h.next (some o), h.next + 1⟩
def H.put (h : H) (b : Nat) (o : Option AO) : H := ⟨h.t.set b o, h.next⟩
theorem Phi.more_same (φ : Phi) (b k sz : Nat) : φ.more b k sz b = some (k, sz) := by simp [Phi.more]
theorem HR.fresh (hr : HR w0 φ h w) {b : Nat} (hb : h.next ≤ b) : φ b = none := by
  cases he : φ b with
  | none => rfl
  | some x => have := (hr.lt b x.1 x.2 he).2.2; omega
theorem HR.sub (hr : HR w0 φ h w) (k sz : Nat) : Sub φ (φ.more h.next k sz) := by
  intro b x hb
  have : b ≠ h.next := by rintro rfl; have := (hr.lt _ x.1 x.2 hb).2.2; omega
  simp [Phi.more, this, hb]
theorem HR.add (hr : HR w0 φ h w) {o : AO} {o' : Obj} {sz : Nat} (ho : orel (φ.more h.next w.heap.size sz) sz o o') :
    HR w0 (φ.more h.next w.heap.size sz) (h.add o) { w with heap := w.heap.push o' } ∧ Ext φ h (φ.more h.next w.heap.size sz) (h.add o) := by
  have hsub := hr.sub w.heap.size sz
  refine ⟨⟨?_, ?_, ?_, ?_, ?_⟩, ⟨hsub, by simp [H.add], ?_⟩⟩
  · exact ⟨hr.bel.os, hr.bel.tape, hr.bel.output, by simp; have := hr.bel.size; omega, fun k hk => by
      have := hr.bel.size
      show (w.heap.push o')[k]? = _
      rw [Array.getElem?_push, if_neg (by omega)]; exact hr.bel.block k hk⟩
  · intro b k s hb
    unfold Phi.more at hb
    split at hb
    · injection hb with hb; injection hb with h1 h2; subst h1; rename_i e; subst e
      exact ⟨by simp, hr.bel.size, by simp [H.add]⟩
    · have := hr.lt b k s hb
      exact ⟨by simp; omega, this.2.1, by simp [H.add]; omega⟩
  · intro b x k s hx hb
    simp only [H.add, Tr.get_set] at hx
    unfold Phi.more at hb
    split at hx
    · rename_i e
      subst e
      rw [if_pos rfl] at hb
      injection hb with hb; injection hb with h1 h2; subst h1 h2
      injection hx with hx; subst hx
      exact ⟨o', by simp, ho⟩
    · rename_i e
      rw [if_neg e] at hb
      obtain ⟨x', h1, h2⟩ := hr.obj b x k s hx hb
      have hk := (hr.lt b k s hb).1
      exact ⟨x', by show (w.heap.push o')[k]? = _; rw [Array.getElem?_push, if_neg (by omega)]; exact h1, orel_mono hsub _ _ h2⟩
  · intro b b' k s s' hb hb' hn hn'
    simp only [H.add, Tr.get_set] at hn hn'
    unfold Phi.more at hb hb'
    split at hb
    · split at hb'
      · simp_all
      · injection hb with hb; injection hb with h1 h2; subst h1
        have := (hr.lt b' _ s' hb').1; omega
    · split at hb'
      · injection hb' with hb'; injection hb' with h1 h2; subst h1
        have := (hr.lt b _ s hb).1; omega
      · rename_i e1 e2
        rw [if_neg e1] at hn
        rw [if_neg e2] at hn'
        exact hr.inj b b' k s s' hb hb' hn hn'
  · intro b hb
    simp only [H.add] at hb ⊢
    rw [Tr.get_set, if_neg (by omega)]
    exact hr.old b (by omega)
  · intro b hb hn
    have e : b ≠ h.next := by omega
    exact ⟨by simp [Phi.more, e, hn], by simp only [H.add]; rw [Tr.get_set, if_neg e]⟩

/-- one object is turned -/
theorem HR.turn (hr : HR w0 φ h w) {b k sz : Nat} {o : AO} {o' : Obj} (hb : φ b = some (k, sz)) (hl : h.t.get b ≠ none) (ho : orel φ sz o o')
    (hos : w'.os = w.os) (htape : w'.tape = w.tape) (hout : w'.output = w.output) (hsz : w'.heap.size = w.heap.size) (hk : w'.heap[k]? = some o') (hne : ∀ j, j ≠ k → w'.heap[j]? = w.heap[j]?) :
    HR w0 φ (h.put b (some o)) w' ∧ Ext φ h φ (h.put b (some o)) := by
  refine ⟨⟨⟨hos.trans hr.bel.os, htape.trans hr.bel.tape, hout.trans hr.bel.output, by rw [hsz]; exact hr.bel.size, fun j hj => ?_⟩, ?_, ?_, ?_, ?_⟩, ⟨Sub.refl _, Nat.le_refl _, ?_⟩⟩
  · have := (hr.lt b k sz hb).2.1
    rw [hne j (by omega)]; exact hr.bel.block j hj
  · intro x y z hx
    have := hr.lt x y z hx
    rw [hsz]; exact this
  · intro x y k2 s hx hb2
    simp only [H.put, Tr.get_set] at hx
    split at hx
    · rename_i e
      subst e
      rw [hb] at hb2; injection hb2 with hb2; injection hb2 with h1 h2; subst h1 h2
      injection hx with hx; subst hx
      exact ⟨o', hk, ho⟩
    · rename_i e
      obtain ⟨y', h1, h2⟩ := hr.obj x y k2 s hx hb2
      have : k2 ≠ k := by
        rintro rfl
        exact e (hr.inj x b k2 s sz hb2 hb (by rw [hx]; simp) hl)
      exact ⟨y', (hne k2 this).trans h1, h2⟩
  · intro x y k2 s s' hx hy hn hn'
    simp only [H.put, Tr.get_set] at hn hn'
    refine hr.inj x y k2 s s' hx hy ?_ ?_
    · split at hn
      · rename_i e; subst e; exact hl
      · exact hn
    · split at hn'
      · rename_i e; subst e; exact hl
      · exact hn'
  · intro x hx
    simp only [H.put] at hx ⊢
    have := (hr.lt b k sz hb).2.2
    rw [Tr.get_set, if_neg (by omega)]
    exact hr.old x hx
  · intro x hx hn
    refine ⟨hn, ?_⟩
    simp only [H.put]
    rw [Tr.get_set, if_neg (by rintro rfl; rw [hb] at hn; cases hn)]

/-- an object is let go -/
theorem HR.kill (hr : HR w0 φ h w) {b k sz : Nat} (hb : φ b = some (k, sz)) : HR w0 φ (h.put b none) w ∧ Ext φ h φ (h.put b none) := by
  refine ⟨⟨hr.bel, hr.lt, ?_, ?_, ?_⟩, ⟨Sub.refl _, Nat.le_refl _, ?_⟩⟩
  · intro x y k2 s hx hb2
    simp only [H.put, Tr.get_set] at hx
    split at hx
    · cases hx
    · exact hr.obj x y k2 s hx hb2
  · intro x y k2 s s' hx hy hn hn'
    simp only [H.put, Tr.get_set] at hn hn'
    refine hr.inj x y k2 s s' hx hy ?_ ?_
    · split at hn
      · exact absurd rfl hn
      · exact hn
    · split at hn'
      · exact absurd rfl hn'
      · exact hn'
  · intro x hx
    simp only [H.put] at hx ⊢
    rw [Tr.get_set]
    split
    · rfl
    · exact hr.old x hx
  · intro x hx hn
    refine ⟨hn, ?_⟩
    simp only [H.put]
    rw [Tr.get_set, if_neg (by rintro rfl; rw [hb] at hn; cases hn)]

/-- an object gets a name of its own: the elder name is let go; its block has been turned -/
theorem HR.move (hr : HR w0 φ h w) {b k sz : Nat} {o : AO} {o' : Obj} (hb : φ b = some (k, sz)) (hl : h.t.get b ≠ none) (ho : orel (φ.more h.next k sz) sz o o')
    (hos : w'.os = w.os) (htape : w'.tape = w.tape) (hout : w'.output = w.output) (hsz : w'.heap.size = w.heap.size) (hk : w'.heap[k]? = some o') (hne : ∀ j, j ≠ k → w'.heap[j]? = w.heap[j]?) :
    HR w0 (φ.more h.next k sz) ((h.put b none).add o) w' ∧ Ext φ h (φ.more h.next k sz) ((h.put b none).add o) := by
  have hsub := hr.sub k sz
  have hbn : b < h.next := (hr.lt b k sz hb).2.2
  refine ⟨⟨⟨hos.trans hr.bel.os, htape.trans hr.bel.tape, hout.trans hr.bel.output, by rw [hsz]; exact hr.bel.size, fun j hj => ?_⟩, ?_, ?_, ?_, ?_⟩, ⟨hsub, by simp [H.add, H.put], ?_⟩⟩
  · have := (hr.lt b k sz hb).2.1
    rw [hne j (by omega)]; exact hr.bel.block j hj
  · intro x y z hx
    unfold Phi.more at hx
    split at hx
    · rename_i e
      injection hx with hx; injection hx with h1 h2; subst h1
      have := hr.lt b _ sz hb
      exact ⟨by rw [hsz]; exact this.1, this.2.1, by simp [H.add, H.put]; omega⟩
    · have := hr.lt x y z hx
      exact ⟨by rw [hsz]; exact this.1, this.2.1, by simp [H.add, H.put]; omega⟩
  · intro x y k2 s hx hb2
    simp only [H.add, H.put, Tr.get_set] at hx
    unfold Phi.more at hb2
    split at hx
    · rename_i e
      rw [if_pos e] at hb2
      injection hb2 with hb2; injection hb2 with h1 h2; subst h1 h2
      injection hx with hx; subst hx
      exact ⟨o', hk, ho⟩
    · rename_i e
      rw [if_neg e] at hb2
      split at hx
      · cases hx
      · rename_i e2
        obtain ⟨y', h1, h2⟩ := hr.obj x y k2 s hx hb2
        have : k2 ≠ k := by
          rintro rfl
          exact e2 (hr.inj x b k2 s sz hb2 hb (by rw [hx]; simp) hl)
        exact ⟨y', (hne k2 this).trans h1, orel_mono hsub _ _ h2⟩
  · intro x y k2 s s' hx hy hn hn'
    simp only [H.add, H.put, Tr.get_set] at hn hn'
    unfold Phi.more at hx hy
    by_cases ex : x = h.next
    · by_cases ey : y = h.next
      · rw [ex, ey]
      · rw [if_pos ex] at hx
        rw [if_neg ey] at hy hn'
        injection hx with hx; injection hx with h1 h2; subst h1
        by_cases eb : y = b
        · rw [if_pos eb] at hn'; exact absurd rfl hn'
        · rw [if_neg eb] at hn'
          exact absurd (hr.inj y b _ s' sz hy hb hn' hl) eb
    · by_cases ey : y = h.next
      · rw [if_neg ex] at hx hn
        rw [if_pos ey] at hy
        injection hy with hy; injection hy with h1 h2; subst h1
        by_cases eb : x = b
        · rw [if_pos eb] at hn; exact absurd rfl hn
        · rw [if_neg eb] at hn
          exact absurd (hr.inj x b _ s sz hx hb hn hl) eb
      · rw [if_neg ex] at hx hn
        rw [if_neg ey] at hy hn'
        refine hr.inj x y k2 s s' hx hy ?_ ?_
        · split at hn
          · exact absurd rfl hn
          · exact hn
        · split at hn'
          · exact absurd rfl hn'
          · exact hn'
  · intro x hx
    simp only [H.add, H.put] at hx ⊢
    rw [Tr.get_set, if_neg (by omega), Tr.get_set, if_neg (by omega)]
    exact hr.old x (by omega)
  · intro x hx hn
    have e : x ≠ h.next := by omega
    refine ⟨by simp [Phi.more, e, hn], ?_⟩
    simp only [H.add, H.put]
    rw [Tr.get_set, if_neg e, Tr.get_set, if_neg (by rintro rfl; rw [hb] at hn; cases hn)]

/-! ### loads -/
def ldN (c : Tr AV) (d : AV) (n : Nat) : Nat → List AV := Nat.rec (motive := fun _ => Nat → List AV) (fun _ => []) (fun _ ih o => cellAt c d o :: ih (Nat.succ o)) n
theorem ldN_length (c : Tr AV) (d : AV) : ∀ n o, (ldN c d n o).length = n
  | 0, o => rfl
  | n + 1, o => by show (cellAt c d o :: ldN c d n (o + 1)).length = _; simp [ldN_length c d n]
theorem ldN_get (c : Tr AV) (d : AV) : ∀ (n o i : Nat), i < n → (ldN c d n o)[i]? = some (cellAt c d (o + i))
  | 0, o, i, h => by omega
  | n + 1, o, 0, h => rfl
  | n + 1, o, i + 1, h => by
    show (cellAt c d o :: ldN c d n (o + 1))[i + 1]? = _
    rw [List.getElem?_cons_succ, ldN_get c d n (o + 1) i (by omega), Nat.add_right_comm]; rfl
theorem cell_at (a : Array Value) (w : World) (k e : Nat) (fz : Nat × Nat) (hk : w.heap[k]? = some (.cells a e fz)) (i : Nat) : w.cell? ⟨k, i, none⟩ = a[i]? := by simp [World.cell?, hk]
theorem addr_add (k o i : Nat) : (⟨k, o, none⟩ : Addr).add i = ⟨k, o + i, none⟩ := by unfold Addr.add; split <;> simp_all
theorem load_sound_d (hr : HR w0 φ h w) {b k sz : Nat} {c : Tr AV} {m e : Nat} {d : AV} {ex : Bool} (hb : φ b = some (k, sz)) (hl : h.t.get b = some (.cells c m e d ex)) (o n : Nat) (hn : o + n ≤ m) :
    ∃ vs : Array Value, (∀ q, (loadCells ⟨k, o, none⟩ n).run P { w with drawn := q } = .ok vs { w with drawn := q }) ∧ vrs φ (ldN c d n o) vs.toList := by
  obtain ⟨o', h1, a, rfl, h2, h3, h4, h5⟩ := hr.obj b _ k sz hl hb
  have hcell : ∀ j, j < n → w.cell? ((⟨k, o, none⟩ : Addr).add j) = some (a.getD (o + j) Go.undef) := fun j hj => by
    obtain ⟨v, hv, _⟩ := h5 (o + j) (by omega)
    rw [addr_add, cell_at a w k e _ h1, hv]
    simp [Array.getD_eq_getD_getElem?, hv]
  refine ⟨_, fun q => run_loadCells (P := P) { w with drawn := q } ⟨k, o, none⟩ n (fun j => a.getD (o + j) Go.undef) hcell, ?_⟩
  refine vrs_of_get (by simp [ldN_length]) fun i x v hx hv => ?_
  have hi : i < n := by
    have := (List.getElem?_eq_some_iff.1 hx).1
    rw [ldN_length] at this; exact this
  rw [ldN_get c d n o i hi] at hx
  injection hx with hx
  obtain ⟨u, hu, hru⟩ := h5 (o + i) (by omega)
  simp [hi] at hv
  rw [← hx, ← hv]
  simpa [hu] using hru
theorem load_sound (hr : HR w0 φ h w) {b k sz : Nat} {c : Tr AV} {m e : Nat} {d : AV} {ex : Bool} (hb : φ b = some (k, sz)) (hl : h.t.get b = some (.cells c m e d ex)) (o n : Nat) (hn : o + n ≤ m) :
    ∃ vs : Array Value, (loadCells ⟨k, o, none⟩ n).run P w = .ok vs w ∧ vrs φ (ldN c d n o) vs.toList := by
  obtain ⟨vs, h1, h2⟩ := load_sound_d (P := P) hr hb hl o n hn
  exact ⟨vs, h1 w.drawn, h2⟩
theorem cell_sound (hr : HR w0 φ h w) {b k sz : Nat} {c : Tr AV} {m e : Nat} {d : AV} {ex : Bool} (hb : φ b = some (k, sz)) (hl : h.t.get b = some (.cells c m e d ex)) (o : Nat) (hn : o < m) :
    ∃ v, w.cell? ⟨k, o, none⟩ = some v ∧ vr φ (cellAt c d o) v := by
  obtain ⟨o', h1, a, rfl, h2, h3, h4, h5⟩ := hr.obj b _ k sz hl hb
  obtain ⟨v, hv, hr'⟩ := h5 o hn
  exact ⟨v, by rw [cell_at a w k e _ h1, hv], hr'⟩

/-! ### stores -/
def kidx : IntKind → Nat
  | .i8 => 0 | .i16 => 1 | .i32 => 2 | .i64 => 3 | .u8 => 4 | .u16 => 5 | .u32 => 6 | .u64 => 7
theorem kidx_inj {a b : IntKind} (h : Nat.beq (kidx a) (kidx b) = true) : a = b := by cases a <;> cases b <;> first | rfl | cases h
def ieq : Int → Int → Bool
  | .ofNat a, .ofNat b => Nat.beq a b
  | .negSucc a, .negSucc b => Nat.beq a b
  | _, _ => false
theorem ieq_eq (a b : Int) : ieq a b = (a == b) := by
  cases a <;> cases b <;> simp [ieq] <;> first | rfl | (rw [Bool.eq_iff_iff]; simp; done) | (rw [Bool.eq_iff_iff]; simp; omega)
/-- the same number -/
def isInt : AV → AV → Bool
  | .int k n, .int k' n' => ieq n n' && Nat.beq (kidx k) (kidx k')
  | _, _ => false
theorem isInt_eq {a b : AV} (h : isInt a b = true) : a = b := by
  cases a <;> cases b <;> first | cases h | skip
  rename_i k n k' n'
  simp only [isInt, Bool.and_eq_true, ieq_eq, beq_iff_eq] at h
  obtain ⟨rfl, h2⟩ := h
  rw [kidx_inj h2]
def setCellF (c : Tr AV) (d : AV) (o : Nat) (v : AV) : Tr AV := c.set o (if isInt d v then none else some v)
def setCellK {β : Type} (c : Tr AV) (d : AV) (o : Nat) (v : AV) (k : Tr AV → β) : β := Bool.rec (motive := fun _ => β) (c.setT o (some v) k) (c.setT o none k) (isInt d v)
theorem setCellK_eq {β : Type} (c : Tr AV) (d : AV) (o : Nat) (v : AV) (k : Tr AV → β) : setCellK c d o v k = k (setCellF c d o v) := by
  unfold setCellK setCellF
  cases isInt d v <;> simp [Tr.setT_eq]
theorem cellAt_set (c : Tr AV) (d : AV) (o : Nat) (v : AV) (i : Nat) : cellAt (setCellF c d o v) d i = if i = o then v else cellAt c d i := by
  unfold cellAt setCellF
  rw [Tr.get_set]
  by_cases e : i = o
  · rw [if_pos e, if_pos e]
    cases h : isInt d v
    · rfl
    · have := isInt_eq h; subst this; rfl
  · rw [if_neg e, if_neg e]
def stF (d : AV) : List AV → Tr AV → Nat → Tr AV
  | [], c, _ => c
  | v :: vs, c, o => stF d vs (setCellF c d o v) (o + 1)
def stK {β : Type} (d : AV) (vs : List AV) : Tr AV → Nat → (Tr AV → β) → β :=
  List.rec (motive := fun _ => Tr AV → Nat → (Tr AV → β) → β) (fun c _ k => k c) (fun v _ ih c o k => setCellK c d o v fun c' => ih c' (Nat.succ o) k) vs
theorem stK_eq {β : Type} (d : AV) : ∀ (vs : List AV) (c : Tr AV) (o : Nat) (k : Tr AV → β), stK d vs c o k = k (stF d vs c o)
  | [], c, o, k => rfl
  | v :: vs, c, o, k => by
    show setCellK c d o v (fun c' => stK d vs c' (o + 1) k) = _
    rw [setCellK_eq, stK_eq d vs]; rfl
theorem cellAt_st (d : AV) : ∀ (vs : List AV) (c : Tr AV) (o i : Nat), cellAt (stF d vs c o) d i = if o ≤ i ∧ i < o + vs.length then (vs[i - o]?).getD .undef else cellAt c d i
  | [], c, o, i => by simp [stF]; intro h1 h2; omega
  | v :: vs, c, o, i => by
    rw [stF, cellAt_st d vs, cellAt_set]
    by_cases h1 : o + 1 ≤ i ∧ i < o + 1 + vs.length
    · rw [if_pos h1, if_pos (by simp; omega)]
      obtain ⟨j, rfl⟩ : ∃ j, i = o + 1 + j := ⟨i - (o + 1), by omega⟩
      rw [show o + 1 + j - (o + 1) = j by omega, show o + 1 + j - o = j + 1 by omega, List.getElem?_cons_succ]
    · rw [if_neg h1]
      by_cases h2 : i = o
      · subst h2; rw [if_pos rfl, if_pos (by simp)]; simp
      · rw [if_neg h2, if_neg (by simp; omega)]
def allOne : List AV → Bool := List.rec (motive := fun _ => Bool) true (fun v _ ih => v.one && ih)
theorem allOne_one : ∀ {as : List AV}, allOne as = true → ∀ a ∈ as, a.one = true
  | [], _, a, h => by cases h
  | x :: xs, hx, a, h => by
    have hx' : (x.one && allOne xs) = true := hx
    rw [Bool.and_eq_true] at hx'
    rcases List.mem_cons.1 h with rfl | h
    · exact hx'.1
    · exact allOne_one hx'.2 a h
theorem one_of_rel {as : List AV} {vs : List Value} (h : vrs φ as vs) (h1 : allOne as = true) : ∀ v ∈ vs, v.oneCell' = true := by
  intro v hv
  obtain ⟨i, hi⟩ := List.getElem?_of_mem hv
  have hlt := (List.getElem?_eq_some_iff.1 hi).1
  have hlen := vrs_length h
  obtain ⟨a, ha⟩ : ∃ a, as[i]? = some a := ⟨as[i]'(by omega), by simp [hlen, hlt]⟩
  obtain ⟨v', h2, h3⟩ := vrs_get h ha
  rw [hi] at h2; cases h2
  have := one_of_vr (allOne_one h1 a (List.mem_of_getElem? ha)) h3
  cases v <;> first | rfl | exact absurd rfl (this.1 _) | exact absurd rfl (this.2 _)
theorem st_orel {sz o : Nat} {c : Tr AV} {m e : Nat} {d : AV} {ex : Bool} {a : Array Value} {as : List AV} {vs : List Value} (ho : orel φ sz (.cells c m e d ex) (.cells a e (0, 0))) (hv : vrs φ as vs) (hn : o + as.length ≤ m) :
    orel φ sz (.cells (stF d as c o) m e d ex) (.cells (a.toList.take o ++ vs ++ a.toList.drop (o + vs.length)).toArray e (0, 0)) := by
  obtain ⟨a', hh, h2, h3, h4, h5⟩ := ho
  injection hh with hh; subst hh
  have hlen := vrs_length hv
  refine ⟨_, rfl, ?_, h3, h4, ?_⟩
  · simp; omega
  · intro i hi
    rw [cellAt_st]
    have hla : a.toList.length = sz := by simpa using h2
    have htl : (a.toList.take o).length = o := by simp; omega
    by_cases hio : o ≤ i ∧ i < o + as.length
    · rw [if_pos hio]
      obtain ⟨x, hx⟩ : ∃ x, as[i - o]? = some x := ⟨as[i - o]'(by omega), by rw [List.getElem?_eq_getElem]⟩
      obtain ⟨v, hv1, hv2⟩ := vrs_get hv hx
      refine ⟨v, ?_, by rw [hx]; exact hv2⟩
      rw [List.getElem?_toArray, List.append_assoc, List.getElem?_append_right (by omega), htl, List.getElem?_append_left (by omega)]
      exact hv1
    · rw [if_neg hio]
      obtain ⟨v, hv1, hv2⟩ := h5 i hi
      refine ⟨v, ?_, hv2⟩
      have hv1' : a.toList[i]? = some v := by simpa using hv1
      rw [List.getElem?_toArray, List.append_assoc]
      by_cases hlt : i < o
      · rw [List.getElem?_append_left (by omega), List.getElem?_take, if_pos hlt]; exact hv1'
      · rw [List.getElem?_append_right (by omega), htl, List.getElem?_append_right (by omega), List.getElem?_drop]
        rw [show o + vs.length + (i - o - vs.length) = i by omega]; exact hv1'
theorem store_sound (hr : HR w0 φ h w) {b k sz : Nat} {c : Tr AV} {m e : Nat} {d : AV} {ex : Bool} (hb : φ b = some (k, sz)) (hl : h.t.get b = some (.cells c m e d ex)) {o : Nat} {as : List AV} {vs : List Value} (hv : vrs φ as vs) (h1 : allOne as = true) (hn : o + as.length ≤ m) :
    ∃ w', (storeCells ⟨k, o, none⟩ vs).run P w = .ok () w' ∧ HR w0 φ (h.put b (some (.cells (stF d as c o) m e d ex))) w' ∧ Ext φ h φ (h.put b (some (.cells (stF d as c o) m e d ex))) := by
  obtain ⟨o', hk, ho⟩ := hr.obj b _ k sz hl hb
  have ho' := ho
  obtain ⟨a, rfl, h2, h3, h4, h5⟩ := ho'
  have hlen := vrs_length hv
  refine ⟨_, run_storeCells_at P k o e vs 0 a w hk (by omega) (one_of_rel hv h1), ?_⟩
  refine hr.turn hb (by rw [hl]; simp) (st_orel ho hv hn) rfl rfl rfl (by simp) (by simpa using setRow_heap w k a _ e _ hk) (fun j hj => setRow_other w k j _ hj)

end
end
end Go.Proofs.Ytdhnacajgmjmlaa.Ev
