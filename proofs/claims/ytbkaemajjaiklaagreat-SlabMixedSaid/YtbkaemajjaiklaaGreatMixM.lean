/- SlabMixed, plainly: one slab, whose blocks that are used go, whose others come. No program. -/
import Derived.Test.YtbkaemajjaiklaaGreatLastM
import Derived.Test.YtbkaemajjaiklaaGreatRefM
import Derived.Test.YtbkaemajjaiklaaGreatGameC

namespace Go.Proofs.YtbkaemajjaiklaaGreat
open Go.RowKit
set_option linter.unusedVariables false
set_option linter.unusedSimpArgs false

/-- the slab's j-th block -/
def Bk (c j : Nat) : Int := blockZ ((1 : Nat) : Int) (c : Int) (j : Int)
theorem Bk_at (c j : Nat) : blockZ (((0 : Nat) : Int) + 1) (c : Int) (j : Int) = Bk c j := rfl
theorem Bk_inj {c j j' : Nat} (hc : 1 ≤ c ∧ c ≤ 3) (hj : j < nb c) (hj' : j' < nb c) (h : Bk c j = Bk c j') : j = j' :=
  (pos_same (n := 1) (cs := [(c : Int)]) (by decide) ⟨Nat.le_refl 1, Nat.le_refl 1⟩ ⟨Nat.le_refl 1, Nat.le_refl 1⟩ hc hc hj hj' rfl rfl h).2.2
/-- one slab of the class c -/
structure One (c : Nat) (g : GA) : Prop where
  ok : GOk 1 g
  lst : Lst 1 g
  rng : Rng g.ma
  hc : 1 ≤ c ∧ c ≤ 3
  cs : g.cs.getD 0 0 = (c : Int)
theorem One.pos {c : Nat} {g : GA} (h : One c g) {a : Int} (ha : isGet g.ls a ≠ 0) : ∃ j, j < nb c ∧ a = Bk c j := by
  obtain ⟨i, j, c', h1, h2, h3, h4, h5, h6⟩ := h.ok.al.blkOf ha
  have h0 : i = 0 := by omega
  subst h0
  have hcc := getD_natC h5 h.cs
  subst hcc
  exact ⟨j, h2, h6⟩
/-- so many of those that are used are being given back -/
structure MixA (c u : Nat) (gone : List Int) (k : Nat) (g : GA) : Prop where
  one : One c g
  st : ∀ j, j < nb c → isGet g.ls (Bk c j) = if u.testBit j then (if Bk c j ∈ gone.take k then 3 else 2) else 0
  ph : ∀ x ∈ g.T, x.ph = 0
/-- others are being published -/
structure MixB (c u : Nat) (g : GA) : Prop where
  one : One c g
  st : ∀ j, j < nb c → (u.testBit j = true → isGet g.ls (Bk c j) = 3) ∧ (u.testBit j = false → isGet g.ls (Bk c j) = 0 ∨ isGet g.ls (Bk c j) = 4)
/-- turns go on, and end -/
structure MixC (c u : Nat) (g : GA) : Prop where
  one : One c g
  st : ∀ j, j < nb c → (u.testBit j = true → isGet g.ls (Bk c j) = 3 ∨ isGet g.ls (Bk c j) = 0) ∧ (u.testBit j = false → isGet g.ls (Bk c j) = 4 ∨ isGet g.ls (Bk c j) = 2)
theorem blkG_A (ls : List (Int × Int)) (a : Int) : blkG ls (-1) a = a := by unfold blkG; rw [if_neg (by omega)]
/-- one more is given back -/
theorem MixA.next {c u k : Nat} {gone : List Int} {g g' : GA} (h : MixA c u gone k g) (ok' : GOk 1 g') (l' : Lst 1 g') (r' : Rng g'.ma) {a : Int} (ha : gone[k]? = some a) (hn : gone.Nodup) (hu : ∀ a ∈ gone, ∃ j, j < nb c ∧ u.testBit j = true ∧ a = Bk c j) (hd : Did 1 4 (-1) a 0 g g') : MixA c u gone (k + 1) g' ∧ g'.T.length = g.T.length + 1 := by
  obtain ⟨hk, hak⟩ := List.getElem?_eq_some_iff.1 ha
  obtain ⟨j, hj, huj, rfl⟩ := hu a (List.mem_of_getElem? ha)
  have hnot : Bk c j ∉ gone.take k := by
    intro hm
    obtain ⟨q, hq, e⟩ := List.mem_iff_getElem.1 hm
    rw [List.length_take] at hq
    rw [List.getElem_take] at e
    have := (List.getElem_inj (h₀ := by omega) (h₁ := hk) hn).1 (e.trans hak.symm)
    omega
  have hg := h.st j hj
  rw [huj, if_pos rfl, if_neg hnot] at hg
  have htk : gone.take (k + 1) = gone.take k ++ [Bk c j] := by rw [List.take_succ_eq_append_getElem hk, hak]
  cases hd with
  | other h0 => exact absurd (by decide) h0
  | rsvArg h0 => exact absurd h0 (by decide)
  | rsv _ _ _ _ _ _ h0 => exact absurd h0 (by decide)
  | relNo h0 => exact absurd h0 (by decide)
  | rel _ _ _ h0 => exact absurd h0 (by decide)
  | pubNo h0 => exact absurd h0 (by decide)
  | pub _ _ h0 => exact absurd h0 (by decide)
  | freNo _ h1 => rw [blkG_A] at h1; exact absurd ⟨by decide, by decide, hg⟩ h1
  | step _ h0 => exact absurd h0 (by decide)
  | evNo h0 => exact absurd h0 (by decide)
  | ev _ h0 => exact absurd h0 (by decide)
  | fre t cl _ _ _ _ =>
    refine ⟨⟨⟨ok', l', r', h.one.hc, h.one.cs⟩, fun q hq => ?_, fun x hx => ?_⟩, by show (g.T ++ [_]).length = _; rw [List.length_append]; rfl⟩
    · show isGet (setW g.ls (blkG g.ls (-1) (Bk c j)) 3) (Bk c q) = _
      rw [blkG_A, isGet_setW, htk]
      by_cases e : Bk c q = Bk c j
      · have := Bk_inj h.one.hc hq hj e
        subst this
        rw [if_pos rfl, huj, if_pos rfl, if_pos (List.mem_append.2 (Or.inr (List.mem_singleton.2 rfl)))]
      · rw [if_neg e, h.st q hq]
        by_cases huq : u.testBit q = true
        · rw [huq, if_pos rfl, if_pos rfl]
          by_cases hm : Bk c q ∈ gone.take k
          · rw [if_pos hm, if_pos (List.mem_append.2 (Or.inl hm))]
          · rw [if_neg hm, if_neg (fun hh => (List.mem_append.1 hh).elim hm (fun h1 => e (List.mem_singleton.1 h1)))]
        · rw [if_neg huq, if_neg huq]
    · rcases List.mem_append.1 hx with h1 | h1
      · exact h.ph x h1
      · rw [List.mem_singleton.1 h1]
theorem MixA.toB {c u k : Nat} {gone : List Int} {g : GA} (h : MixA c u gone k g) (hk : gone.length ≤ k) (hu : ∀ j, j < nb c → u.testBit j = true → Bk c j ∈ gone) : MixB c u g := by
  refine ⟨h.one, fun j hj => ⟨fun huj => ?_, fun huj => ?_⟩⟩
  · have := h.st j hj
    rw [huj, if_pos rfl, if_pos (by rw [List.take_of_length_le hk]; exact hu j hj huj)] at this
    exact this
  · have := h.st j hj
    rw [huj] at this
    exact Or.inl (by simpa using this)
/-- one more is reserved, and its publishing begun -/
theorem MixB.next {c u : Nat} {g g1 g' : GA} (h : MixB c u g) (ok' : GOk 1 g') (l' : Lst 1 g') (r' : Rng g'.ma) {a : Int} {j : Nat} (hj : j < nb c) (ha : a = Bk c j) (h0 : isGet g.ls a = 0) (hls : g1.ls = setW g.ls a 1) (hcs : g1.cs = g.cs) (hT : g1.T = g.T) (hd : Did 1 3 (-1) a 0 g1 g') : MixB c u g' ∧ g'.T.length = g.T.length + 1 := by
  have hg1 : isGet g1.ls a = 1 := by rw [hls, isGet_setW, if_pos rfl]
  cases hd with
  | other h0 => exact absurd (by decide) h0
  | rsvArg h0 => exact absurd h0 (by decide)
  | rsv _ _ _ _ _ _ h0 => exact absurd h0 (by decide)
  | relNo h0 => exact absurd h0 (by decide)
  | rel _ _ _ h0 => exact absurd h0 (by decide)
  | freNo h0 => exact absurd h0 (by decide)
  | fre _ _ h0 => exact absurd h0 (by decide)
  | pubNo _ h1 => rw [blkG_A] at h1; exact absurd ⟨by decide, by decide, hg1⟩ h1
  | step _ h0 => exact absurd h0 (by decide)
  | evNo h0 => exact absurd h0 (by decide)
  | ev _ h0 => exact absurd h0 (by decide)
  | pub t cl _ _ _ _ =>
    refine ⟨⟨⟨ok', l', r', h.one.hc, by show g1.cs.getD 0 0 = _; rw [hcs]; exact h.one.cs⟩, fun q hq => ?_⟩, by show (g1.T ++ [_]).length = _; rw [List.length_append, hT]; rfl⟩
    show (_ → isGet (setW g1.ls (blkG g1.ls (-1) a) 4) (Bk c q) = 3) ∧ (_ → isGet (setW g1.ls (blkG g1.ls (-1) a) 4) (Bk c q) = 0 ∨ isGet (setW g1.ls (blkG g1.ls (-1) a) 4) (Bk c q) = 4)
    rw [blkG_A, isGet_setW, hls, isGet_setW]
    by_cases e : Bk c q = a
    · have hqj := Bk_inj h.one.hc hq hj (e.trans ha)
      subst hqj
      rw [if_pos e]
      refine ⟨fun huq => ?_, fun _ => Or.inr rfl⟩
      have := (h.st q hq).1 huq
      rw [e, h0] at this
      exact absurd this (by decide)
    · rw [if_neg e, if_neg e]
      exact h.st q hq
theorem MixB.toC {c u : Nat} {g : GA} (h : MixB c u g) (h0 : ∀ j, j < nb c → isGet g.ls (Bk c j) ≠ 0) : MixC c u g :=
  ⟨h.one, fun j hj => ⟨fun hu => Or.inl ((h.st j hj).1 hu), fun hu => Or.inl (((h.st j hj).2 hu).resolve_left (h0 j hj))⟩⟩
theorem len_in : ∀ (xs ys : List Int), xs.Nodup → (∀ x ∈ xs, x ∈ ys) → xs.length ≤ ys.length
  | [], ys, _, _ => Nat.zero_le _
  | x :: xs, ys, hn, hs => by
    have hx := hs x (List.mem_cons_self ..)
    have h1 := List.nodup_cons.1 hn
    have h2 := len_in xs (ys.erase x) h1.2 (fun y hy => (List.mem_erase_of_ne (fun e : y = x => h1.1 (by rw [← e]; exact hy))).2 (hs y (List.mem_cons_of_mem _ hy)))
    rw [List.length_erase_of_mem hx] at h2
    have := List.length_pos_of_mem hx
    rw [List.length_cons]
    omega
theorem One.turns {c : Nat} {g : GA} (h : One c g) : g.T.length ≤ 15 := by
  have := len_in (g.T.map (·.a)) ((List.range (nb c)).map fun j => Bk c j) h.ok.ta (fun a ha => by
    obtain ⟨x, hx, rfl⟩ := List.mem_map.1 ha
    obtain ⟨f1, f2, f3⟩ := h.ok.fits x hx
    have hne : isGet g.ls x.a ≠ 0 := by rcases f3 with ⟨_, e⟩ | ⟨_, e⟩ <;> rw [e] <;> decide
    obtain ⟨j, hj, e⟩ := h.pos hne
    exact List.mem_map.2 ⟨j, List.mem_range.2 hj, e.symm⟩)
  rw [List.length_map, List.length_map, List.length_range] at this
  have := nb_le c
  omega
theorem One.ph {c : Nat} {g : GA} (h : One c g) : ∀ x ∈ g.T, x.ph < 4 := fun x hx => (h.ok.fits x hx).1
/-- how many steps the turns still take -/
def pot (T : List TR) : Nat := (T.map fun x => 4 - x.ph).sum
theorem pot_next : ∀ {T : List TR} {i : Nat} {x : TR}, T[i]? = some x → x.ph < 4 → pot (T.set i x.next) + 1 = pot T
  | [], _, _, h, _ => by cases h
  | y :: T, 0, x, h, hp => by
    obtain rfl : y = x := by simpa using h
    show (4 - (y.ph + 1)) + (T.map fun x => 4 - x.ph).sum + 1 = (4 - y.ph) + (T.map fun x => 4 - x.ph).sum
    omega
  | y :: T, i + 1, x, h, hp => by
    have ih := pot_next (T := T) (i := i) (x := x) (by simpa using h) hp
    show (4 - y.ph) + pot (T.set i x.next) + 1 = (4 - y.ph) + pot T
    omega
theorem pot_erase : ∀ {T : List TR} {i : Nat} {x : TR}, T[i]? = some x → x.ph = 3 → pot (T.eraseIdx i) + 1 = pot T
  | [], _, _, h, _ => by cases h
  | y :: T, 0, x, h, hp => by
    obtain rfl : y = x := by simpa using h
    show (T.map fun x => 4 - x.ph).sum + 1 = (4 - y.ph) + (T.map fun x => 4 - x.ph).sum
    omega
  | y :: T, i + 1, x, h, hp => by
    have ih := pot_erase (T := T) (i := i) (x := x) (by simpa using h) hp
    show (4 - y.ph) + pot (T.eraseIdx i) + 1 = (4 - y.ph) + pot T
    omega
theorem pot_le (T : List TR) : pot T ≤ 4 * T.length := by
  induction T with
  | nil => exact Nat.le_refl _
  | cons x T ih =>
    show (4 - x.ph) + pot T ≤ 4 * (T.length + 1)
    omega
theorem pot_pos {T : List TR} (h : ∀ x ∈ T, x.ph < 4) (h0 : T ≠ []) : 1 ≤ pot T := by
  cases T with
  | nil => exact absurd rfl h0
  | cons x T =>
    have := h x (List.mem_cons_self ..)
    show 1 ≤ (4 - x.ph) + pot T
    omega
theorem MixC.next {c u : Nat} {nn : Int} {g g' : GA} (h : MixC c u g) (ok' : GOk 1 g') (l' : Lst 1 g') (r' : Rng g'.ma) (hs : Stepd 1 nn g g') : MixC c u g' ∧ (g.T = [] ∧ g'.T = [] ∨ pot g'.T + 1 = pot g.T) := by
  cases hs with
  | none h0 => exact ⟨h, Or.inl ⟨h0, h0⟩⟩
  | mid idx x i c' j b hi hx ta hph => exact ⟨⟨⟨ok', l', r', h.one.hc, h.one.cs⟩, h.st⟩, Or.inr (pot_next hx ta.ph)⟩
  | fin idx x i c' j b hi hx ta hph =>
    refine ⟨⟨⟨ok', l', r', h.one.hc, h.one.cs⟩, fun q hq => ?_⟩, Or.inr (pot_erase hx hph)⟩
    show (_ → isGet (setW g.ls x.a x.tb) (Bk c q) = 3 ∨ isGet (setW g.ls x.a x.tb) (Bk c q) = 0) ∧ (_ → isGet (setW g.ls x.a x.tb) (Bk c q) = 4 ∨ isGet (setW g.ls x.a x.tb) (Bk c q) = 2)
    rw [isGet_setW]
    by_cases e : Bk c q = x.a
    · rw [if_pos e]
      obtain ⟨g1, g2⟩ := h.st q hq
      rw [e] at g1 g2
      rcases ta.tb with ⟨e1, e2⟩ | ⟨e1, e2⟩
      · rw [e1]
        refine ⟨fun hu => ?_, fun _ => Or.inr rfl⟩
        have := g1 hu
        omega
      · rw [e1]
        refine ⟨fun _ => Or.inr rfl, fun hu => ?_⟩
        have := g2 hu
        omega
    · rw [if_neg e]
      exact h.st q hq
theorem did_step {n : Nat} {nn aa cc : Int} {g g' : GA} (hd : Did n 5 nn aa cc g g') : Stepd n nn g g' := by
  cases hd with
  | other h0 => exact absurd (by decide) h0
  | rsvArg h0 => exact absurd h0 (by decide)
  | rsv _ _ _ _ _ _ h0 => exact absurd h0 (by decide)
  | relNo h0 => exact absurd h0 (by decide)
  | rel _ _ _ h0 => exact absurd h0 (by decide)
  | freNo h0 => exact absurd h0 (by decide)
  | fre _ _ h0 => exact absurd h0 (by decide)
  | pubNo h0 => exact absurd h0 (by decide)
  | pub _ _ h0 => exact absurd h0 (by decide)
  | step _ _ hs => exact hs
  | evNo h0 => exact absurd h0 (by decide)
  | ev _ h0 => exact absurd h0 (by decide)
/-- room, or none -/
theorem One.room {c : Nat} {g : GA} (h : One c g) : roomW g.cs g.ls c g.cs.length = (freeL g.cs g.ls c 1).length := by
  have hcl := h.ok.al.cl
  have e := roomW_eq g.cs g.ls h.hc 1
  have hz : zeroC g.cs 1 = 0 := by
    have hcs := h.cs
    have := h.hc
    show (zeroC g.cs 0 + if g.cs.getD 0 0 = 0 then 1 else 0) = 0
    rw [if_neg (by omega)]; rfl
  rw [hcl, e, hz]
  omega
theorem One.noRoom {c : Nat} {g : GA} (h : One c g) (h0 : roomW g.cs g.ls c g.cs.length = 0) : ∀ j, j < nb c → isGet g.ls (Bk c j) ≠ 0 := by
  rw [h.room] at h0
  intro j hj hg
  have := (freeL_mem g.cs g.ls c (Bk c j) 1).2 ⟨0, j, by decide, hj, h.cs, rfl, hg⟩
  rw [List.length_eq_zero_iff.1 h0] at this
  cases this
/-- what is reserved where there is room -/
theorem One.rsv {c : Nat} {g : GA} (h : One c g) (h0 : roomW g.cs g.ls c g.cs.length ≠ 0) {a x : Int} {cs' : List Int} {ls' : List (Int × Int)} (hw : RsvW g.cs g.ls c 1 a x cs' ls') : x = 0 ∧ cs' = g.cs ∧ ls' = setW g.ls a 1 ∧ isGet g.ls a = 0 ∧ ∃ j, j < nb c ∧ a = Bk c j := by
  cases hw with
  | old k j hk hj hc h1 hno =>
    have : k = 0 := by omega
    subst this
    exact ⟨rfl, rfl, rfl, h1, j, hj, rfl⟩
  | new k hk h1 _ _ =>
    have : k = 0 := by omega
    subst this
    have := h.cs
    have := h.hc
    omega
  | full _ hno =>
    exfalso
    rw [h.room] at h0
    obtain ⟨a, ha⟩ := List.exists_mem_of_length_pos (Nat.pos_of_ne_zero h0)
    obtain ⟨i, j, i1, j1, c1, e, hg⟩ := (freeL_mem g.cs g.ls c a 1).1 ha
    rw [e] at hg
    exact hno.1 i j i1 j1 c1 hg
/-- the end: no turn goes on -/
theorem MixC.fin {c u : Nat} {g : GA} (h : MixC c u g) (h0 : g.T = []) : ∀ j, j < nb c → isGet g.ls (Bk c j) = if u.testBit j then 0 else 2 := by
  intro j hj
  obtain ⟨g1, g2⟩ := h.st j hj
  have hno : ∀ a, ¬ (isGet g.ls a = 3 ∨ isGet g.ls a = 4) := fun a ha => by
    obtain ⟨x, hx, _⟩ := h.one.lst.busy a ha
    rw [h0] at hx; cases hx
  have hn := hno (Bk c j)
  cases hu : u.testBit j with
  | true =>
    rcases g1 hu with e | e
    · exact absurd (Or.inl e) hn
    · rw [e]; rfl
  | false =>
    rcases g2 hu with e | e
    · exact absurd (Or.inr e) hn
    · rw [e]; rfl

end Go.Proofs.YtbkaemajjaiklaaGreat

/- The image's headers, plainly; the end of SlabMixed. No program. -/
namespace Go.Proofs.YtbkaemajjaiklaaGreat
open Go.RowKit
set_option linter.unusedVariables false
set_option linter.unusedSimpArgs false

theorem bytesW_drop : ∀ (ws : List Int) (k : Nat), (bytesW ws).drop (8 * k) = bytesW (ws.drop k)
  | [], k => by rw [List.drop_nil, show bytesW [] = [] from rfl, List.drop_nil]
  | x :: ws, 0 => rfl
  | x :: ws, k + 1 => by
    rw [List.drop_succ_cons, ← bytesW_drop ws k]
    show (wB x ++ bytesW ws).drop (8 * (k + 1)) = _
    rw [show 8 * (k + 1) = (wB x).length + 8 * k by rw [wB_len]; omega, List.drop_append]
    simp
theorem wB_word {x : Int} (h : WordR x) : leW (wB x) = x := by
  obtain ⟨n, rfl⟩ : ∃ n : Nat, x = (n : Int) := ⟨x.toNat, by have := h.1; omega⟩
  have hn : n < 18446744073709551616 := by have := h.2; omega
  have e : wB (n : Int) = (List.range 8).map (byteN n) := by
    unfold wB
    apply List.map_congr_left
    intro j _
    unfold byteN
    rw [Int.natCast_emod, Int.natCast_ediv, Int.natCast_pow]
    rfl
  rw [e, leW_word hn]
theorem wAt_bytes {ws : List Int} (h : ∀ x ∈ ws, WordR x) {k : Nat} (hk : k < ws.length) : wAt (bytesW ws) k = at0 ws k := by
  unfold wAt at0
  rw [bytesW_drop, List.getElem?_eq_getElem hk, List.drop_eq_getElem_cons hk]
  show leW ((wB ws[k] ++ bytesW (ws.drop (k + 1))).take 8) = ws[k]
  rw [show (8 : Nat) = (wB ws[k]).length from rfl, List.take_left']
  · exact wB_word (h _ (List.getElem_mem hk))
  · rfl
section
variable {n : Nat} {g : GA}
theorem Lst.image (h : Lst n g) (hp : GOk n g) (hr : Rng g.ma) : (bytesW g.ma.image).length = 1024 * (n + 1) ∧ ∀ i, 1 ≤ i → i ≤ n → (clsAt (bytesW g.ma.image) i : Int) = clsW g.ma i 0 ∧ (bitAt (bytesW g.ma.image) i : Int) = bitW g.ma i 0 := by
  have hlen : g.ma.image.length = 128 * (1 + n) := hp.ok.len.trans hp.vl
  refine ⟨by rw [bytesW_len, hlen]; omega, fun i i1 i2 => ⟨?_, ?_⟩⟩
  · rw [← clsAt_w (bytesW_byte _), wAt_bytes hr.im (by omega)]
    exact (wordAt_zero _ _).symm
  · rw [← bitAt_w (bytesW_byte _), wAt_bytes hr.im (by omega)]
    exact (wordAt_zero _ _).symm
/-- what is known of a slab of the image -/
theorem Lst.imageS (h : Lst n g) (hp : GOk n g) (hr : Rng g.ma) {i : Nat} (i1 : 1 ≤ i) (i2 : i ≤ n) : FitS g.cs g.ls i (clsAt (bytesW g.ma.image) i : Int) (bitAt (bytesW g.ma.image) i : Int) := by
  obtain ⟨e1, e2⟩ := (h.image hp hr).2 i i1 i2
  rw [e1, e2]
  exact h.fit i i1 i2 0 (Nat.zero_le _)
theorem mayBits_all {b : Nat} {m : Int} (h : ∀ j, j < 64 → b.testBit j = true → (j : Int) < m) : mayBits b m = true := by
  unfold mayBits
  rw [List.all_eq_true]
  intro j hj
  exact decide_eq_true (h j.val j.isLt (setBits_mem.1 hj))
theorem FitS.head {cs : List Int} {ls : List (Int × Int)} {i : Nat} {bs : List Int} (h : FitS cs ls i (clsAt bs i : Int) (bitAt bs i : Int)) : headOK bs i = true := by
  obtain ⟨c, b, e1, e2, h3, h4, h5, _⟩ := h.out
  have ec : clsAt bs i = c := by omega
  have eb : bitAt bs i = b := by omega
  unfold headOK
  rw [ec, eb, Bool.and_eq_true]
  refine ⟨decide_eq_true (by rcases h4 with h4 | h4 <;> omega), mayBits_all fun j _ hj => ?_⟩
  have := (h5 j hj).1
  have hn := nb_eq c
  omega
theorem Lst.heads (h : Lst n g) (hp : GOk n g) (hr : Rng g.ma) : ∀ i, 1 ≤ i → i ≤ n → headOK (bytesW g.ma.image) i = true := fun i i1 i2 => (h.imageS hp hr i1 i2).head
end
/-- used: rising, just those -/
theorem usedI_same {l1 l2 : List (Int × Int)} (h1 : UniqA l1) (h2 : UniqA l2) (h : ∀ a, isGet l1 a = 2 ∨ isGet l1 a = 3 ↔ isGet l2 a = 2 ∨ isGet l2 a = 3) : usedI l1 = usedI l2 := by
  unfold usedI
  obtain ⟨s1, m1⟩ := fold_ins (usedL l1) [] List.Pairwise.nil
  obtain ⟨s2, m2⟩ := fold_ins (usedL l2) [] List.Pairwise.nil
  refine sorted_uniq _ _ (s1.imp (fun h => Int.le_of_lt h)) (s1.imp (fun h => by omega)) s2 (fun a => ?_)
  rw [m1, m2, usedL_mem h1, usedL_mem h2]
  constructor
  · rintro (h3 | h3)
    · exact Or.inl ((h a).1 h3)
    · cases h3
  · rintro (h3 | h3)
    · exact Or.inl ((h a).2 h3)
    · cases h3
theorem count_two {α : Type} (p q r : α → Bool) : ∀ (l : List α), (∀ x ∈ l, (p x = true ∧ q x = false ∧ r x = true) ∨ (p x = false ∧ q x = true ∧ r x = true) ∨ (p x = false ∧ q x = false ∧ r x = false)) → (l.filter p).length + (l.filter q).length = (l.filter r).length
  | [], _ => rfl
  | x :: l, h => by
    have ih := count_two p q r l (fun y hy => h y (List.mem_cons_of_mem _ hy))
    rcases h x (List.mem_cons_self ..) with ⟨a, b, c⟩ | ⟨a, b, c⟩ | ⟨a, b, c⟩ <;> simp [List.filter_cons, a, b, c] <;> omega
theorem nb_count {c : Nat} (hc : 1 ≤ c ∧ c ≤ 3) : ((List.finRange 64).filter fun j => decide (j.val < nb c)).length = nb c := by
  rcases (by omega : c = 1 ∨ c = 2 ∨ c = 3) with rfl | rfl | rfl <;> decide
/-- the end of SlabMixed -/
theorem MixC.done {c u : Nat} {g : GA} (h : MixC c u g) (h0 : g.T = []) (hu : ∀ j, u.testBit j = true → j < nb c) (hu64 : u < 18446744073709551616) :
    (∀ i, 1 ≤ i → i ≤ 1 → headOK (bytesW g.ma.image) i = true) ∧ usedI (refL (bytesW g.ma.image) 1) = usedI g.ls ∧ ((refL (bytesW g.ma.image) 1).length : Int) = (nb c : Int) - ((setBits u).length : Int) := by
  have hf := h.fin h0
  have hok := h.one.lst.heads h.one.ok h.one.rng
  have hS := h.one.lst.imageS h.one.ok h.one.rng (Nat.le_refl 1) (Nat.le_refl 1)
  obtain ⟨c0, b, e1, e2, h3, h4, h5, h6⟩ := hS.out
  have ec : clsAt (bytesW g.ma.image) 1 = c0 := by omega
  have eb : bitAt (bytesW g.ma.image) 1 = b := by omega
  have hcs := h.one.cs
  have hcc : b ≠ 0 → c0 = c := fun hb => by
    rcases h4 with ⟨_, h4⟩ | ⟨_, _, h4⟩
    · exact absurd h4 hb
    · exact getD_natC h4 hcs
  have hbits : ∀ j, b.testBit j = true ↔ j < nb c ∧ u.testBit j = false := by
    intro j
    constructor
    · intro hj
      have hb : b ≠ 0 := fun e => by rw [e] at hj; simp at hj
      obtain ⟨q1, q2⟩ := h5 j hj
      rw [hcc hb] at q1 q2
      have q3 := hf j q1
      have q2' : isGet g.ls (Bk c j) = 2 ∨ isGet g.ls (Bk c j) = 3 ∨ isGet g.ls (Bk c j) = 4 := q2
      rw [q3] at q2'
      refine ⟨q1, ?_⟩
      cases hu' : u.testBit j with
      | false => rfl
      | true => rw [hu', if_pos rfl] at q2'; omega
    · rintro ⟨q1, q2⟩
      refine h6 c j h.one.hc.1 h.one.hc.2 hcs q1 ?_
      have := hf j q1
      rw [q2] at this
      exact this
  have hal := ofTo_alike (bytesW g.ma.image) 1 (by decide) hok 1 (Nat.le_refl _)
  refine ⟨hok, usedI_same hal.ul h.one.ok.al.ul (fun a => ?_), ?_⟩
  · constructor
    · intro ha
      have hne : isGet (refL (bytesW g.ma.image) 1) a ≠ 0 := by omega
      obtain ⟨_, i, j, i1, i2, hj, hbj, hae⟩ := refL_mem.1 (isGet_mem hne rfl)
      obtain rfl : i = 1 := by omega
      rw [eb] at hbj
      have hb : b ≠ 0 := fun e => by rw [e] at hbj; simp at hbj
      obtain ⟨q1, q2⟩ := (hbits j).1 hbj
      have hae' : a = Bk c j := by
        show a = blockZ ((1 : Nat) : Int) (c : Int) (j : Int)
        rw [← hcc hb, ← ec]; exact hae
      rw [hae', hf j q1, q2]
      exact Or.inl rfl
    · intro ha
      have hne : isGet g.ls a ≠ 0 := by omega
      obtain ⟨j, hj, rfl⟩ := h.one.pos hne
      have hg := hf j hj
      cases hu' : u.testBit j with
      | true => rw [hu', if_pos rfl] at hg; omega
      | false =>
        have hbj := (hbits j).2 ⟨hj, hu'⟩
        have hb : b ≠ 0 := fun e => by rw [e] at hbj; simp at hbj
        refine Or.inl (hal.ul.get (refL_mem.2 ⟨rfl, 1, j, Nat.le_refl _, Nat.le_refl _, bit_high h3 hbj, by rw [eb]; exact hbj, ?_⟩))
        show Bk c j = blockZ ((1 : Nat) : Int) (clsAt (bytesW g.ma.image) 1 : Int) (j : Int)
        rw [ec, hcc hb]; rfl
  · have hl : (refL (bytesW g.ma.image) 1).length = (setBits b).length := by
      show ((List.range 1).flatMap fun i => refLi (bytesW g.ma.image) i (setBits (bitAt (bytesW g.ma.image) (i + 1)))).length = _
      rw [show List.range 1 = [0] from rfl]
      simp [refLi, eb]
    have hcount := count_two (fun j : Fin 64 => hasB b j.val) (fun j => hasB u j.val) (fun j => decide (j.val < nb c)) (List.finRange 64) (fun j _ => by
      show (b.testBit j.val = true ∧ u.testBit j.val = false ∧ _) ∨ (b.testBit j.val = false ∧ u.testBit j.val = true ∧ _) ∨ (b.testBit j.val = false ∧ u.testBit j.val = false ∧ _)
      by_cases hj : j.val < nb c
      · cases hu' : u.testBit j.val with
        | true =>
          refine Or.inr (Or.inl ⟨?_, rfl, decide_eq_true hj⟩)
          cases hb' : b.testBit j.val with
          | false => rfl
          | true => rw [((hbits j.val).1 hb').2] at hu'; cases hu'
        | false => exact Or.inl ⟨(hbits j.val).2 ⟨hj, hu'⟩, rfl, decide_eq_true hj⟩
      · refine Or.inr (Or.inr ⟨?_, ?_, decide_eq_false hj⟩)
        · cases hb' : b.testBit j.val with
          | false => rfl
          | true => exact absurd ((hbits j.val).1 hb').1 hj
        · cases hu' : u.testBit j.val with
          | false => rfl
          | true => exact absurd (hu _ hu') hj)
    rw [nb_count h.one.hc] at hcount
    have e3 : (setBits b).length + (setBits u).length = nb c := hcount
    omega

end Go.Proofs.YtbkaemajjaiklaaGreat

/- SlabMixed: a block given back, and what is kept. -/
namespace Go.Proofs.YtbkaemajjaiklaaGreat
open Go.RowKit
set_option linter.unusedVariables false
set_option linter.unusedSimpArgs false

/-- what is no part of the game stays, and comes to be none -/
def KeepO (w : World) (l : GL) (g : GA) (w' : World) (l' : GL) (g' : GA) : Prop := ∀ k, k < w.heap.size → (∀ p, k ∉ l.F g.T p) → w'.heap[k]? = w.heap[k]? ∧ ∀ p, k ∉ l'.F g'.T p
set_option maxRecDepth 100000 in
set_option maxHeartbeats 4000000 in
theorem do_freK (N n K : Nat) (l : GL) (g : GA) (kd nn aa cc : Int) (w : World) (h : GameIs w N n K l g) (hK : K ≤ 1000000) (hk : kd = 4) (hc : 0 ≤ cc ∧ cc ≤ 64) (hgt : isGet g.ls (blkG g.ls nn aa) = 2) (ha : 0 ≤ aa ∧ aa ≤ 18446744073709551615) :
    Calls Tryz.prog 19 #[.pointer (some ⟨l.gb, 0, none⟩), .agg #[.int .i64 kd, .int .i64 nn, .int .u64 aa, .int .i64 cc]] w fun e w' => e = .returned (.bool true) ∧ ∃ l' g', GameIs w' N n (K + 1) l' g' ∧ Did n kd nn aa cc g g' ∧ l'.gb = l.gb ∧ Below N w w' ∧ KeepO w l g w' l' g' := by
  obtain ⟨W, hW, hb, bx⟩ := actBox w kd nn aa cc
  have z0 : W.cell? ⟨w.heap.size, 0, none⟩ = some (.int .i64 kd) := bx.cell 0
  have z1 : W.cell? ⟨w.heap.size, 1, none⟩ = some (.int .i64 nn) := bx.cell 1
  have z2 : W.cell? ⟨w.heap.size, 2, none⟩ = some (.int .u64 aa) := bx.cell 2
  have z3 : W.cell? ⟨w.heap.size, 3, none⟩ = some (.int .i64 cc) := bx.cell 3
  have k1 : (kd == 1) = false := by rw [hk]; rfl
  have k2 : (kd == 2) = false := by rw [hk]; rfl
  have k3 : (kd == 3) = false := by rw [hk]; rfl
  have k4 : (kd == 4) = true := by rw [hk]; rfl
  have H := hid (h.bel hb)
  have HW := hid hW
  have HK := hid hk
  have HBX := hid bx
  have HBW := hid (hb.mono h.loN)
  have hwlt : w.heap.size < W.heap.size := bx.lt
  have HSEP : Hid (∀ p, ∀ k ∈ l.F g.T p, k < w.heap.size) := fun p k hk => h.sep.lt p k hk
  have HAA := hid ha
  have HB0 := hid hb
  have HGT := hid hgt
  clear h hW hb bx hk ha hgt
  go_enter Tryz.func19, Tryz.ntmps19
  go_upto_region 1 with fail
  rw [show w.alloc (.cells #[.int .i64 kd, .int .i64 nn, .int .u64 aa, .int .i64 cc] 45) = W from HW.out.symm]
  go_wp2_with fail
  refine (block_g N n K l g kd nn aa cc W H.out).mono ?_
  rintro e w1 ⟨rfl, hb1⟩
  have H1 := hid (H.out.bel hb1)
  have HB1N := hid (hb1.mono H.out.loN)
  have HB1 := hid hb1
  have hbx1 := (Only.of_below hb1 []).blk HBX.out (by simp)
  have HBX1 := hid hbx1
  have z3 : w1.cell? ⟨w.heap.size, 3, none⟩ = some (.int .i64 cc) := hbx1.cell 3
  obtain ⟨a, ha⟩ : ∃ a, a = blkG g.ls nn aa := ⟨_, rfl⟩
  rw [← ha]
  have HA := hid ha
  have y0 : w1.cell? ⟨l.gb, 0, none⟩ = some (.pointer (some ⟨l.m, 0, none⟩)) := H1.out.gblk.cell 0
  have y1 : w1.cell? ⟨l.gb, 1, none⟩ = some (.pointer (some ⟨l.B.s, 0, none⟩)) := H1.out.gblk.cell 1
  clear hb1 ha hbx1
  have h1 : isGet g.ls a = 2 := by rw [HA.out]; exact HGT.out
  obtain ⟨cl, rfl⟩ : ∃ cl : Nat, cc = (cl : Int) := ⟨cc.toNat, by omega⟩
  have hcl : cl ≤ 64 := by omega
  have PB := hid (Free_ok N l.B l.V _ g.A n l.m l.Q l.M.view.length l.M.st (cl : Int) a w1.drew H1.out.drew.turnIn hc (by rw [H1.out.al.is]; exact h1) (by have h3 := H1.out.at (a := a) (by rw [h1]; decide); obtain ⟨_, _, _, _, _, _, _, _, _, _, _, _, p10, p11⟩ := h3; omega))
  have HC := hid hcl
  have HI := hid h1
  clear hc h1 hcl
  go_upto_region 20 with fail
  go_region_held3 (fun w' => w'.cell? ⟨l.gb, 0, none⟩ = some (.pointer (some ⟨l.m, 0, none⟩)) ∧ w'.cell? ⟨l.gb, 1, none⟩ = some (.pointer (some ⟨l.B.s, 0, none⟩)) ∧ w'.cell? ⟨w.heap.size, 3, none⟩ = some (.int .i64 (cl : Int))) (go_keep)
    ((go_at_call 67; refine PB.out.mono ?_; rintro e w2 ⟨t, rfl, ht⟩; have T2 := hid ht; have hmv := ht.only; have o2 := ht.only.blk ((Only.refl [] w1).drew.blk HBX1.out (by simp)) (fun hm => Nat.lt_irrefl _ (HSEP.out 2 _ (gF_mem.2 (Or.inr (Or.inr (Or.inl ⟨rfl, by rw [List.mem_singleton.1 hm]; exact foot_mem.2 ⟨2, role_m _ _⟩⟩)))))); have HBX2 := hid o2; obtain ⟨d1, d2, d3⟩ := H1.out.drew.docMoved (Moved.putM ht.only).only; have D2 := hid (⟨d1, d2, d3⟩ : _ ∧ _ ∧ _); have q0 : w2.cell? ⟨l.gb, 0, none⟩ = some (.pointer (some ⟨l.m, 0, none⟩)) := d2.cell 0; have q1 : w2.cell? ⟨l.gb, 1, none⟩ = some (.pointer (some ⟨l.B.s, 0, none⟩)) := d2.cell 1; have q3 : w2.cell? ⟨w.heap.size, 3, none⟩ = some (.int .i64 (cl : Int)) := o2.cell 3; clear ht hmv o2 d1 d2 d3))
  clear y0 y1 z3
  have hrow := ht_row H1.out.drew T2.out.only
  have ST := hid (start_ok l.gb N l.wd _ g.cs g.ls l.vC l.vL _ _ l.vT g.T ⟨t, cl, a, 0, 0⟩ 2 3 rfl HC.out w2 D2.out.2.2 D2.out.2.1 D2.out.1 hrow (by have := H1.out.fewT.2; omega) (by have := H1.out.fewT.1; omega) HI.out
    (H1.out.ne H1.out.in0 H1.out.in3 (by decide)) (fun e => absurd (H1.out.sep.one 0 4 l.gb H1.out.in0 (H1.out.in4 e)) (by decide)) (fun e => absurd (H1.out.sep.one 3 4 l.wd H1.out.in3 (H1.out.in4 e)) (by decide)) (fun e => absurd (H1.out.sep.one 0 3 l.gb H1.out.in0 (H1.out.in3C e)) (by decide)) (fun k hk e => absurd (H1.out.sep.one 3 4 k (H1.out.in3C e) (H1.out.in4 hk)) (by decide)))
  clear hrow
  go_wp2_with fail
  refine ST.out.mono ?_
  rintro e w3 ⟨rfl, vL', vT', hs⟩
  have hg := (H1.out.drew.begun ⟨t, cl, a, 0, 0⟩ 2 3 rfl HC.out HI.out (by first | exact Or.inl ⟨rfl, rfl, rfl⟩ | exact Or.inr ⟨rfl, rfl, rfl⟩) T2.out hs).up
  have hd : Did n kd nn aa (cl : Int) g { g with A := { g.A with is := isSet g.A.is a 3 }, ls := setW g.ls a 3, T := g.T ++ [⟨t, cl, a, 0, 0⟩] } := by rw [HA.out]; exact Did.fre t cl HK.out rfl HC.out (by rw [← HA.out]; exact HI.out)
  have HG := hid hg
  have HD := hid hd
  have HBL := hid ((HB1N.out.trans ((Only.refl [] w1).drew.below (fun _ h => by cases h) H1.out.loN)).trans ((T2.out.only.below (fun y hy => by rw [List.mem_singleton.1 hy]; exact H1.out.lo 2 _ (H1.out.in2 (foot_mem.2 ⟨2, role_m _ _⟩))) H1.out.drew.loN).trans (hs.only.below (fun y hy => by
    rcases List.mem_cons.1 hy with rfl | hy
    · exact H1.out.gN
    · rcases List.mem_cons.1 hy with rfl | hy
      · exact H1.out.wo.lo
      · exact H1.out.lo 4 y (H1.out.in4 (by simpa using hy))) D2.out.2.2)))
  have HSO := hid (⟨hs.only, hs.nl, hs.nt⟩ : _ ∧ _ ∧ _)
  clear hg hd hs q0 q1 q3
  have y1 : w3.cell? ⟨l.gb, 1, none⟩ = some (.pointer (some ⟨l.B.s, 0, none⟩)) := by exact HG.out.gblk.cell 1
  have y2 : w3.cell? ⟨l.gb, 2, none⟩ = some (.pointer (some ⟨l.wd, 0, none⟩)) := by exact HG.out.gblk.cell 2
  have SM := hid (same_z _ _ _ _ _ _ _ _ _ _ _ _ w3.drew HG.out.drew.both)
  go_upto_region 26 with fail
  refine wp_region_still_tail 10 (by kernel_rfl) (by kernel_rfl) ?_
  simp only [List.take_succ_cons, List.take_zero, List.drop_succ_cons, List.drop_zero]
  repeat still_step
  refine wpStill_nil ?_
  change wpList _ _ _ _ _ w3.drew
  have HWD := hid (show Only [] w3 w3.drew from (Only.refl [] w3).drew)
  generalize w3.drew = w8 at SM HWD ⊢
  go_wp2_with fail
  with_reducible refine SM.out.mono ?_
  rintro e w9 ⟨rfl, hb9⟩
  have HB9 := hid hb9
  clear hb9
  go_wp2
  go_ret
  refine ⟨rfl, _, _, ((HG.out.only0 HWD.out).bel HB9.out), HD.out, rfl, (HBW.out.trans HBL.out).trans ((HWD.out.below (fun _ h => by cases h) HG.out.loN).trans (HB9.out.mono (Nat.le_trans HG.out.loN HWD.out.size))), fun k hk hn => ?_⟩
  have z1 := HB0.out.size
  have z2 := HB1.out.size
  have z3 := T2.out.only.size
  have z4 := HSO.out.1.size
  have z5 := HWD.out.size
  have z0 : w1.drew.heap.size = w1.heap.size := rfl
  have nB : k ∉ [l.B.m] := fun hm => hn 2 (gF_mem.2 (Or.inr (Or.inr (Or.inl ⟨rfl, by rw [List.mem_singleton.1 hm]; exact foot_mem.2 ⟨2, role_m _ _⟩⟩))))
  have nG : k ∉ l.gb :: l.wd :: l.vT.ownBlock.toList := fun hm => by
    rcases List.mem_cons.1 hm with e | hm
    · exact hn 0 (gF_mem.2 (Or.inl ⟨rfl, e⟩))
    · rcases List.mem_cons.1 hm with e | hm
      · exact hn 3 (gF_mem.2 (Or.inr (Or.inr (Or.inr (Or.inl ⟨rfl, Or.inl e⟩)))))
      · exact hn 4 (gF_mem.2 (Or.inr (Or.inr (Or.inr (Or.inr (Or.inl ⟨rfl, by simpa using hm⟩))))))
  refine ⟨?_, fun p hp => ?_⟩
  · have b1 := HB0.out.block k hk
    have b2 := HB1.out.block k (by omega)
    have b3 := T2.out.only.block k (by omega) nB
    have b4 := HSO.out.1.block k (by omega) nG
    have b5 := HWD.out.block k (by omega) (by simp)
    have b6 := HB9.out.block k (by omega)
    exact b6.trans (b5.trans (b4.trans (b3.trans (b2.trans b1))))
  · rcases gF_mem.1 hp with ⟨rfl, e⟩ | ⟨rfl, e⟩ | ⟨rfl, e⟩ | ⟨rfl, e⟩ | ⟨rfl, e⟩ | ⟨rfl, y, hy, e⟩
    · exact hn 0 (gF_mem.2 (Or.inl ⟨rfl, e⟩))
    · exact hn 1 (gF_mem.2 (Or.inr (Or.inl ⟨rfl, e⟩)))
    · exact hn 2 (gF_mem.2 (Or.inr (Or.inr (Or.inl ⟨rfl, e⟩))))
    · rcases e with e | e | e
      · exact hn 3 (gF_mem.2 (Or.inr (Or.inr (Or.inr (Or.inl ⟨rfl, Or.inl e⟩)))))
      · exact hn 3 (gF_mem.2 (Or.inr (Or.inr (Or.inr (Or.inl ⟨rfl, Or.inr (Or.inl e)⟩)))))
      · have := HSO.out.2.1 k e; omega
    · rcases HSO.out.2.2 k e with e' | e'
      · exact hn 4 (gF_mem.2 (Or.inr (Or.inr (Or.inr (Or.inr (Or.inl ⟨rfl, e'⟩))))))
      · have := e'.1; omega
    · rcases List.mem_append.1 hy with h1 | h1
      · exact hn 5 (gF_mem.2 (Or.inr (Or.inr (Or.inr (Or.inr (Or.inr ⟨rfl, y, h1, e⟩))))))
      · rw [List.mem_singleton.1 h1] at e
        have h2 : t = k := e
        have := T2.out.new
        omega

end Go.Proofs.YtbkaemajjaiklaaGreat
