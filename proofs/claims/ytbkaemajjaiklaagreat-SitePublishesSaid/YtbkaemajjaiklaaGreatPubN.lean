/- SitePublishes, plainly: one block after the other reserved and published. No program. -/
import Derived.Test.YtbkaemajjaiklaaGreatCrashN
import Derived.Test.YtbkaemajjaiklaaGreatWholeK
import Derived.Test.YtbkaemajjaiklaaGreatSwN
import Derived.Test.YtbkaemajjaiklaaGreatLastN
import Derived.Test.YtbkaemajjaiklaaGreatSiteA
import Derived.Test.YtbkaemajjaiklaaGreatUsedM
import Derived.Test.YtbkaemajjaiklaaGreatOpensI

namespace Go.Proofs.YtbkaemajjaiklaaGreat
open Go.RowKit
set_option linter.unusedVariables false
set_option linter.unusedSimpArgs false

theorem least_ex (P : Nat → Prop) : ∀ k, P k → ∃ k, P k ∧ ∀ k', k' < k → ¬ P k' := by
  intro k
  induction k using Nat.strongRecOn with
  | _ k ih =>
    intro h
    by_cases h' : ∃ k', k' < k ∧ P k'
    · obtain ⟨k', hlt, hp⟩ := h'
      exact ih k' hlt hp
    · exact ⟨k, h, fun k' hk' hp => h' ⟨k', hk', hp⟩⟩
/-- Reserve comes to something -/
theorem rsvW_ex (cs : List Int) (ls : List (Int × Int)) (c n : Nat) : ∃ a x cs' ls', RsvW cs ls c n a x cs' ls' := by
  by_cases hA : ∃ k, k < n ∧ ∃ j, j < nb c ∧ cs.getD k 0 = (c : Int) ∧ isGet ls (blockZ ((k : Int) + 1) c (j : Nat)) = 0
  · obtain ⟨k0, h0⟩ := hA
    obtain ⟨k, ⟨hk, j0, hj0⟩, hkm⟩ := least_ex (fun k => k < n ∧ ∃ j, j < nb c ∧ cs.getD k 0 = (c : Int) ∧ isGet ls (blockZ ((k : Int) + 1) c (j : Nat)) = 0) k0 h0
    obtain ⟨j, ⟨hj, hc, hg⟩, hjm⟩ := least_ex (fun j => j < nb c ∧ cs.getD k 0 = (c : Int) ∧ isGet ls (blockZ ((k : Int) + 1) c (j : Nat)) = 0) j0 hj0
    exact ⟨_, _, _, _, RsvW.old k j hk hj hc hg ⟨fun i' j' h1 h2 h3 h4 => hkm i' h1 ⟨by omega, j', h2, h3, h4⟩, fun j' h1 h2 h3 => hjm j' h1 ⟨by omega, h2, h3⟩⟩⟩
  · have hno : NoFree cs ls c n 0 := ⟨fun i' j' h1 h2 h3 h4 => hA ⟨i', h1, j', h2, h3, h4⟩, fun j' h1 => absurd h1 (Nat.not_lt_zero _)⟩
    by_cases hB : ∃ k, k < n ∧ cs.getD k 0 = 0
    · obtain ⟨k0, h0⟩ := hB
      obtain ⟨k, ⟨hk, hz⟩, hkm⟩ := least_ex (fun k => k < n ∧ cs.getD k 0 = 0) k0 h0
      exact ⟨_, _, _, _, RsvW.new k hk hz (fun k' h1 h2 => hkm k' h1 ⟨by omega, h2⟩) hno⟩
    · exact ⟨_, _, _, _, RsvW.full (fun k' h1 h2 => hB ⟨k', h1, h2⟩) hno⟩
/-- what is known between two turns -/
structure PubP (n : Nat) (g : GA) (got : List Int) : Prop where
  ok : GOk n g
  lst : Lst n g
  rng : Rng g.ma
  hp : ∀ d, HeapL (g.A.fr d)
  T : g.T = []
  nil : g.ma.lines = []
  nd : got.Nodup
  st : ∀ a, isGet g.ls a ≠ 0 → isGet g.ls a = 2
  mem : ∀ a, isGet g.ls a = 2 ↔ a ∈ got
/-- the program's own answer is the plain one's -/
theorem rsv_same {w w1 : World} {N : Nat} {B : SB} {V : Nat → Value} {size : Int} {A : SA} {n : Nat} {cs' : List Int} {ls' : List (Int × Int)} {c : Nat} {a x : Int} {A' : SA} {e1 : Ending} (hl : A.hd.length = 1 + n) (hc : 1 ≤ c ∧ c ≤ 3) (hp : ∀ d, HeapL (A.fr d))
    (h1 : RsvPost w N B V size A c e1 w1) (hA' : Rsvd A c n a x A' cs' ls') : e1 = .returned (.tuple #[.int .u64 a, .int .i64 x]) ∧ (∃ V', SlabIs w1 N B V' size A' ∧ Moved B V V' w w1) ∧ (∀ d, HeapL (A'.fr d)) ∧ A'.hd.length = 1 + n ∧ Alike A' n cs' ls' ∧ (x = 0 ∨ x = 4 ∧ A' = A) := by
  rcases h1.ok with ⟨A1, V1, hA1, rfl, hs, hm⟩ | ⟨q1, q2, rfl, hs, hm⟩
  · rcases hA1 with ⟨rfl, hne⟩ | ⟨he, j, hj, hz, rfl, hfst⟩
    · cases hA' with
      | old h0 al => exact ⟨rfl, ⟨V1, hs, hm⟩, takeSA_heap hp h0, hl, al, Or.inl rfl⟩
      | new k h0 => exact absurd h0 hne
      | full h0 => exact absurd h0 hne
    · cases hA' with
      | old h0 al => exact absurd he h0
      | new k h0 hk hk0 hf al =>
        have hjk : j = k := by
          rcases Nat.lt_trichotomy j k with h3 | h3 | h3
          · exact absurd (by rw [clsOf_hd hj]; exact hz) (hf j h3)
          · exact h3
          · have hk1 : k + 1 < A.hd.length := by omega
            exact absurd (by rw [← clsOf_hd hk1]; exact hk0) (hfst k hk1 h3)
        subst hjk
        exact ⟨rfl, ⟨V1, hs, hm⟩, takeSA_heap (giveTo_heap _ _ _ hp _) (giveSA_ne _ _ hc), (giveSA_hd _ _ _).trans hl, al, Or.inl rfl⟩
      | full h0 hf =>
        exact absurd (by rw [clsOf_hd hj]; exact hz) (hf j (by omega))
  · cases hA' with
    | old h0 al => exact absurd q1 h0
    | new k h0 hk hk0 hf al =>
      have hk1 : k + 1 < A.hd.length := by omega
      exact absurd (by rw [← clsOf_hd hk1]; exact hk0) (q2 k hk1)
    | full h0 hf al => exact ⟨rfl, ⟨V, hs, hm⟩, hp, hl, al, Or.inr ⟨rfl, rfl⟩⟩
/-- behind Reserve -/
structure PubR (n : Nat) (g : GA) (got : List Int) (a : Int) : Prop where
  ok : GOk n g
  lst : Lst n g
  rng : Rng g.ma
  hp : ∀ d, HeapL (g.A.fr d)
  T : g.T = []
  nil : g.ma.lines = []
  nd : got.Nodup
  one : isGet g.ls a = 1
  not : a ∉ got
  st : ∀ b, b ≠ a → isGet g.ls b ≠ 0 → isGet g.ls b = 2
  mem : ∀ b, b ≠ a → (isGet g.ls b = 2 ↔ b ∈ got)
theorem PubP.rsv {n : Nat} {g : GA} {got : List Int} (h : PubP n g got) {c : Nat} {a x : Int} {A' : SA} {cs' : List Int} {ls' : List (Int × Int)} (hc : 1 ≤ c ∧ c ≤ 3) (hw : RsvW g.cs g.ls c n a x cs' ls') (hr : Rsvd g.A c n a x A' cs' ls') (hp : ∀ d, HeapL (A'.fr d)) (hl : A'.hd.length = 1 + n) (al : Alike A' n cs' ls') :
    (x = 4 ∧ PubP n { g with A := A', cs := cs', ls := ls' } got) ∨ (x = 0 ∧ PubR n { g with A := A', cs := cs', ls := ls' } got a) := by
  have hn64 : n ≤ 64 := by have := h.ok.n6; omega
  have hf := h.ok.al.rsvFree hn64 hc hw
  have hok : GOk n { g with A := A', cs := cs', ls := ls' } := ⟨al, h.ok.ok, h.ok.vl, h.ok.n1, h.ok.n6, hl, fun y hy => (by have hy' : y ∈ g.T := hy; rw [h.T] at hy'; cases hy'), h.ok.ta, h.ok.tt⟩
  have hls := h.lst.rsv h.ok hc hw hr
  have key : ∀ b : Int, isGet g.ls b = 0 → ls' = setW g.ls b 1 → a = b → PubR n { g with A := A', cs := cs', ls := ls' } got a := by
    rintro b h0 e rfl
    refine ⟨hok, hls, h.rng, hp, h.T, h.nil, h.nd, ?_, ?_, fun b hb hne => ?_, fun b hb => ?_⟩
    · show isGet ls' a = 1
      rw [e, isGet_setW, if_pos rfl]
    · intro hm
      have := (h.mem a).2 hm
      omega
    · have hne' : isGet ls' b ≠ 0 := hne
      show isGet ls' b = 2
      rw [e, isGet_setW, if_neg hb] at hne' ⊢
      exact h.st b hne'
    · show isGet ls' b = 2 ↔ _
      rw [e, isGet_setW, if_neg hb]
      exact h.mem b
  cases hw with
  | old k j hk hj hcs h0 hno => exact Or.inr ⟨rfl, key _ h0 rfl rfl⟩
  | new k hk h0 hff hno =>
    refine Or.inr ⟨rfl, ?_⟩
    rcases hf with e | ⟨e, h1⟩
    · exfalso
      have h1 : isGet (setW g.ls (blockZ ((k : Int) + 1) c (0 : Nat)) 1) (blockZ ((k : Int) + 1) c (0 : Nat)) = 1 := by rw [isGet_setW, if_pos rfl]
      rw [e] at h1
      have := h.st _ (by rw [h1]; decide)
      omega
    · exact key _ h1 rfl rfl
  | full hff hno => exact Or.inl ⟨rfl, hok, hls, h.rng, hp, h.T, h.nil, h.nd, h.st, h.mem⟩
theorem stepsMA_view (m : MA) (i c j b : Nat) (tb : Int) (cl : Nat) : ∀ ph, (stepsMA m i c j b tb cl ph).view.length = m.view.length
  | 0 => rfl
  | ph + 1 => by
    have ih := stepsMA_view m i c j b tb cl ph
    show (nextMA (stepsMA m i c j b tb cl ph) i c j (bitS b j tb ph) tb cl ph).view.length = _
    unfold nextMA
    split
    · show (List.set _ _ _).length = _; rw [List.length_set]; exact ih
    · split
      · show (List.set _ _ _).length = _; rw [List.length_set]; exact ih
      · split
        · exact ih
        · exact ih
theorem lineAt_hd (i : Nat) : lineAt (128 * i) = 1024 * i ∧ lineAt (128 * i + 1) = 1024 * i := by
  unfold lineAt
  constructor <;> omega
/-- nothing is pending behind a turn, if nothing was ahead of it -/
theorem stepsMA_nil {m : MA} (h : m.lines = []) (i c j b : Nat) (tb : Int) {cl : Nat} (hcl : cl ≤ 64) : (stepsMA m i c j b tb cl 4).lines = [] := by
  obtain ⟨e1, e2⟩ := lineAt_hd i
  have h1 : (stepsMA m i c j b tb cl 1).lines = [⟨1024 * i, [(8 * (128 * i), (c : Int))], ks0⟩] := by
    show addP (lineAt (128 * i)) (8 * (128 * i), (c : Int)) m.lines = _
    rw [h, e1]; rfl
  have h2 : (stepsMA m i c j b tb cl 2).lines = [⟨1024 * i, [(8 * (128 * i), (c : Int)), (8 * (128 * i + 1), (newB tb b j : Int))], ks0⟩] := by
    show addP (lineAt (128 * i + 1)) (8 * (128 * i + 1), (newB tb (bitS b j tb 1) j : Int)) (stepsMA m i c j b tb cl 1).lines = _
    rw [h1, e2]
    unfold addP
    rw [if_pos rfl]; rfl
  have h3 : (stepsMA m i c j b tb cl 3).lines = [⟨1024 * i, [(8 * (128 * i), (c : Int)), (8 * (128 * i + 1), (newB tb b j : Int))], ks0.set cl 2⟩] := by
    show (stepsMA m i c j b tb cl 2).lines.map (flushL cl (128 * i)) = _
    rw [h2]
    unfold flushL
    rw [List.map_cons, List.map_nil, if_pos e1.symm]; rfl
  show (stepsMA m i c j b tb cl 3).lines.flatMap (fun l => cutP l (markP l cl)) = []
  rw [h3]
  have hm : markP ⟨1024 * i, [(8 * (128 * i), (c : Int)), (8 * (128 * i + 1), (newB tb b j : Int))], ks0.set cl 2⟩ cl = 2 := by
    unfold markP
    show ((ks0.set cl 2)[cl]?).getD 0 = 2
    rw [List.getElem?_set_self (by unfold ks0; rw [List.length_replicate]; omega)]; rfl
  rw [List.flatMap_cons, hm]
  have hc : ∀ l : LP, l.ps.length = 2 → cutP l 2 = [] := fun l h => by unfold cutP; rw [if_pos h.symm]
  rw [hc _ rfl]; rfl
theorem stepsMA_rng {m : MA} (h : Rng m) {i c j b : Nat} {cl : Nat} (hc : c ≤ 3) (hb : b < 18446744073709551616) (hj : j < 64) : ∀ ph, ph ≤ 4 → Rng (stepsMA m i c j b 2 cl ph)
  | 0, _ => h
  | ph + 1, hph => by
    have ih := stepsMA_rng (i := i) (cl := cl) h hc hb hj ph (by omega)
    rcases (by omega : ph = 0 ∨ ph = 1 ∨ ph = 2 ∨ ph = 3) with rfl | rfl | rfl | rfl
    · exact ih.store _ ⟨by omega, by omega⟩
    · exact ih.store _ ⟨by omega, by have := newB_lt (tb := 2) hb hj; show ((newB 2 b j : Nat) : Int) < _; omega⟩
    · exact ih.flush _ _
    · exact ih.fence _
/-- a turn that publishes: from Reserve to its end -/
theorem PubR.done {n : Nat} {g : GA} {got : List Int} {a : Int} (h : PubR n g got a) {t cl i c j b : Nat} (hcl : cl ≤ 64) (hi : slabZ a = (i : Int)) (i1 : 1 ≤ i ∧ i ≤ n) (hcc : clsOf g.A i = (c : Int)) (hc : 1 ≤ c ∧ c ≤ 3) (hj : j < nb c) (ha : a = blockZ (i : Int) c j)
    (hbb : (g.A.hd.getD i (0, 0)).2 = (b : Int)) (hb : b < 18446744073709551616) (oks : ∀ q, q ≤ 4 → MAok (stepsMA g.ma i c j b 2 cl q)) :
    PubP n { g with ma := stepsMA g.ma i c j b 2 cl 4, A := nextSA (stepsSA { g.A with is := isSet g.A.is a 4 } i j b 2 3) i c j (bitS b j 2 3) a 2 3, ls := setW (setW g.ls a 4) a 2 } (got ++ [a]) := by
  have h64 : j < 64 := by have := nb_le c; omega
  have hl := h.ok.hl
  have hal4 : Alike { g.A with is := isSet g.A.is a 4 } n g.cs (setW g.ls a 4) := h.ok.al.setTo (by rw [h.one]; decide) (by decide)
  have hg4 : isGet (setW g.ls a 4) a = 4 := by rw [isGet_setW, if_pos rfl]
  obtain ⟨A2, hA2⟩ : ∃ A2 : SA, A2 = { g.A with is := isSet g.A.is a 4 } := ⟨_, rfl⟩
  have hcls : ∀ q, clsOf (stepsSA A2 i j b 2 q) i = (c : Int) := fun q => by
    unfold stepsSA
    split
    · rw [hA2]; exact hcc
    · rw [hdSA_cls, hA2]; exact hcc
  have hhd : ∀ q, (stepsSA A2 i j b 2 q).hd.length = 1 + n := fun q => by
    unfold stepsSA
    split
    · rw [hA2]; exact hl
    · show (List.set _ _ _).length = _
      rw [List.length_set, hA2]; exact hl
  have hbits : ∀ q, ((stepsSA A2 i j b 2 q).hd.getD i (0, 0)).2 = ((bitS b j 2 q : Nat) : Int) := fun q => by
    unfold stepsSA bitS
    split
    · rw [hA2]; exact hbb
    · show ((A2.hd.set i ((A2.hd.getD i (0, 0)).1, ((newB 2 b j : Nat) : Int))).getD i (0, 0)).2 = _
      rw [List.getD_eq_getElem?_getD, List.getElem?_set_self (by rw [hA2]; show i < g.A.hd.length; omega)]; rfl
  have hb64 : ∀ q, bitS b j 2 q < 18446744073709551616 := fun q => by
    unfold bitS
    split
    · exact hb
    · exact newB_lt hb h64
  have hals : ∀ q, Alike (stepsSA A2 i j b 2 q) n g.cs (setW g.ls a 4) := fun q => by
    unfold stepsSA
    split
    · rw [hA2]; exact hal4
    · exact (hA2 ▸ hal4).head _ _
  have hfr : ∀ q d, (stepsSA A2 i j b 2 q).fr d = g.A.fr d := fun q d => by
    unfold stepsSA
    split
    · rw [hA2]
    · show A2.fr d = _
      rw [hA2]
  -- the game behind so many steps
  obtain ⟨G, hG⟩ : ∃ G : Nat → GA, G = fun q => ⟨stepsMA g.ma i c j b 2 cl q, stepsSA A2 i j b 2 q, g.cs, setW g.ls a 4, [⟨t, cl, a, 2, q⟩]⟩ := ⟨_, rfl⟩
  have hGe : ∀ q, G q = ⟨stepsMA g.ma i c j b 2 cl q, stepsSA A2 i j b 2 q, g.cs, setW g.ls a 4, [⟨t, cl, a, 2, q⟩]⟩ := fun q => by rw [hG]
  have hok : ∀ q, q ≤ 3 → GOk n (G q) := fun q hq => by
    rw [hGe]
    refine ⟨hals q, oks q (by omega), (stepsMA_view _ _ _ _ _ _ _ _).trans h.ok.vl, h.ok.n1, h.ok.n6, hhd q, fun y hy => ?_, by simp, by simp⟩
    obtain rfl := List.mem_singleton.1 hy
    exact ⟨by show q < 4; omega, hcl, Or.inl ⟨rfl, hg4⟩⟩
  have hta : ∀ q, q ≤ 3 → TurnAt n (G q) ⟨t, cl, a, 2, q⟩ i c j (bitS b j 2 q) := fun q hq => by
    rw [hGe]
    exact ⟨by show q < 4; omega, hi, i1, hcls q, hc, hj, ha, hcl, hbits q, hb64 q, Or.inl ⟨rfl, hg4⟩⟩
  have hl0 : Lst n (G 0) := by
    rw [hGe]
    have := h.lst.begun (a := a) (u := 1) (v := 4) ⟨t, cl, a, 2, 0⟩ h.one (Or.inr rfl) rfl rfl
    rw [h.T, ← hA2] at this
    exact this
  have hstep : ∀ q, q < 3 → Lst n (G q) → Lst n (G (q + 1)) := fun q hq hlq => by
    have hs : Stepd n 0 (G q) { G q with ma := nextMA (G q).ma i c j (bitS b j 2 q) 2 cl q, A := nextSA (G q).A i c j (bitS b j 2 q) a 2 q, T := (G q).T.set 0 (TR.next ⟨t, cl, a, 2, q⟩) } :=
      Stepd.mid 0 ⟨t, cl, a, 2, q⟩ i c j (bitS b j 2 q) (by rw [hGe]; rfl) (by rw [hGe]; rfl) (hta q (by omega)) hq
    have := hlq.step (hok q (by omega)) hs
    rw [hGe] at this
    rw [hGe]
    have e := nextSA_steps A2 i c j b a 2 q hq
    dsimp only at this
    rw [e] at this
    exact this
  have hl3 := hstep 2 (by decide) (hstep 1 (by decide) (hstep 0 (by decide) hl0))
  have hs3 : Stepd n 0 (G 3) { G 3 with ma := nextMA (G 3).ma i c j (bitS b j 2 3) 2 cl 3, A := nextSA (G 3).A i c j (bitS b j 2 3) a 2 3, ls := setW (G 3).ls a 2, T := (G 3).T.eraseIdx 0 } :=
    Stepd.fin 0 ⟨t, cl, a, 2, 3⟩ i c j (bitS b j 2 3) (by rw [hGe]; rfl) (by rw [hGe]; rfl) (hta 3 (by decide)) rfl
  have hl4 := hl3.step (hok 3 (by decide)) hs3
  rw [hGe] at hl4
  have hal := (hals 3).setTo (a := a) (v := 2) (by rw [hg4]; decide) (by decide)
  have hget : ∀ x, isGet (setW (setW g.ls a 4) a 2) x = if x = a then 2 else isGet g.ls x := fun x => by
    rw [isGet_setW]
    split
    · rfl
    · rename_i hx
      rw [isGet_setW, if_neg hx]
  rw [← hA2]
  refine ⟨⟨hal, oks 4 (by decide), (stepsMA_view _ _ _ _ _ _ _ _).trans h.ok.vl, h.ok.n1, h.ok.n6, hhd 3, fun y hy => ?_, ?_, ?_⟩, ?_, stepsMA_rng h.rng hc.2 hb h64 4 (by decide), fun d => ?_, h.T, stepsMA_nil h.nil _ _ _ _ _ hcl, ?_, fun x hx => ?_, fun x => ?_⟩
  · have : y ∈ g.T := hy
    rw [h.T] at this; cases this
  · show (g.T.map (·.a)).Nodup
    rw [h.T]; exact List.nodup_nil
  · show (g.T.map (·.t)).Nodup
    rw [h.T]; exact List.nodup_nil
  · have e : ({ g with ma := stepsMA g.ma i c j b 2 cl 4, A := nextSA (stepsSA A2 i j b 2 3) i c j (bitS b j 2 3) a 2 3, ls := setW (setW g.ls a 4) a 2 } : GA) = ⟨stepsMA g.ma i c j b 2 cl 4, nextSA (stepsSA A2 i j b 2 3) i c j (bitS b j 2 3) a 2 3, g.cs, setW (setW g.ls a 4) a 2, []⟩ := by rw [h.T]
    rw [e]
    exact hl4
  · have := h.hp d
    rw [← hfr 3 d] at this
    exact this
  · rw [List.nodup_append]
    exact ⟨h.nd, by simp, fun x hx y hy => by rw [List.mem_singleton.1 hy]; exact fun e => h.not (e ▸ hx)⟩
  · have hx' : isGet (setW (setW g.ls a 4) a 2) x ≠ 0 := hx
    show isGet (setW (setW g.ls a 4) a 2) x = 2
    rw [hget] at hx' ⊢
    split
    · rfl
    · rename_i hne
      rw [if_neg hne] at hx'
      exact h.st x hne hx'
  · show isGet (setW (setW g.ls a 4) a 2) x = 2 ↔ _
    rw [hget, List.mem_append, List.mem_singleton]
    split
    · rename_i e; simp [e]
    · rename_i hne
      rw [h.mem x hne]
      simp [hne]
/-- what its image has, in the end -/
theorem PubP.fin {n : Nat} {g : GA} {got : List Int} (h : PubP n g got) :
    (bytesW g.ma.image).length = 1024 * (n + 1) ∧ (∀ i, 1 ≤ i → i ≤ n → headOK (bytesW g.ma.image) i = true) ∧ (UniqA (refL (bytesW g.ma.image) n) → (∀ a ∈ got, isGet (refL (bytesW g.ma.image) n) a = 2) ∧ (usedI (refL (bytesW g.ma.image) n)).length = got.length) ∧ (∀ a ∈ got, isGet g.ls a = 2) := by
  have hF := (CutI.now h.ok h.rng).fits h.lst h.ok
  refine ⟨hF.len, hF.ok, fun hu => ?_, fun a ha => (h.mem a).2 ha⟩
  have h2 : ∀ a, isGet (refL (bytesW g.ma.image) n) a = 2 ↔ a ∈ got := fun a => by
    constructor
    · intro h1
      have hm := isGet_mem (by decide) h1
      have := hF.one _ hm
      rw [← h.mem]
      exact h.st a (by rcases this with e | e | e <;> (have e' : isGet g.ls a = _ := e; rw [e']; decide))
    · intro h1
      have hm := isGet_mem (by decide) ((h.mem a).2 h1)
      exact hF.two _ hm rfl
  have h3 : ∀ a, isGet (refL (bytesW g.ma.image) n) a ≠ 3 := fun a h1 => by
    have hm := isGet_mem (by decide) h1
    obtain ⟨e, _⟩ := refL_mem.1 hm
    exact absurd (show (3 : Int) = 2 from e) (by decide)
  refine ⟨fun a ha => (h2 a).2 ha, ?_⟩
  obtain ⟨s1, m1⟩ := fold_ins (usedL (refL (bytesW g.ma.image) n)) [] List.Pairwise.nil
  have hm : ∀ a, a ∈ usedI (refL (bytesW g.ma.image) n) ↔ a ∈ got := fun a => by
    show a ∈ (usedL (refL (bytesW g.ma.image) n)).foldl insA [] ↔ _
    rw [m1, usedL_mem hu]
    constructor
    · rintro ((e | e) | e)
      · exact (h2 a).1 e
      · exact absurd e (h3 a)
      · cases e
    · exact fun e => Or.inl (Or.inl ((h2 a).2 e))
  have n1 : (usedI (refL (bytesW g.ma.image) n)).Nodup := s1.imp (fun h => by omega)
  exact Nat.le_antisymm (len_in _ _ n1 (fun x hx => (hm x).1 hx)) (len_in _ _ h.nd (fun x hx => (hm x).2 hx))
/-- a memory of noughts -/
theorem PubP.begin {n : Nat} (hn : 1 ≤ n ∧ n ≤ 6) : PubP n (beginG (List.replicate (8 * (128 * (1 + n))) 0) n) [] := by
  obtain ⟨bs, hbs⟩ : ∃ bs : List Int, bs = List.replicate (8 * (128 * (1 + n))) 0 := ⟨_, rfl⟩
  have hlen : bs.length = 1024 * (n + 1) := by rw [hbs, List.length_replicate]; omega
  have hbt : ∀ x ∈ bs, 0 ≤ x ∧ x < 256 := fun x hx => by rw [hbs] at hx; rw [List.eq_of_mem_replicate hx]; decide
  have hc0 : ∀ i, clsAt bs i = 0 := fun i => by rw [hbs]; exact clsAt_zeros _ _
  have hb0 : ∀ i, bitAt bs i = 0 := fun i => by rw [hbs]; exact bitAt_zeros _ _
  have hok : ∀ i, 1 ≤ i → i ≤ n → headOK bs i = true := fun i _ _ => by
    unfold headOK
    rw [hc0, hb0]; rfl
  have hrl : refL bs n = [] := by
    apply List.eq_nil_iff_forall_not_mem.2
    intro p hp
    obtain ⟨_, i, j, _, _, _, hb, _⟩ := refL_mem.1 hp
    rw [hb0] at hb
    simp at hb
  have hal := ofTo_alike bs n (by omega) hok n (Nat.le_refl _)
  rw [← hbs]
  refine ⟨⟨hal, ?_, ?_, hn.1, hn.2, ?_, fun y hy => (by cases hy), List.nodup_nil, List.nodup_nil⟩, Lst.begin hn hlen hbt hok, Rng.begin hbt, fun d => ?_, rfl, rfl, List.nodup_nil, fun a ha => ?_, fun a => ?_⟩
  · refine ⟨List.Pairwise.nil, fun l hl => (by cases hl), fun l hl => (by cases hl), fun l hl => (by cases hl), fun l hl => (by cases hl), rfl⟩
  · show (wordsOf bs).length = _
    unfold wordsOf
    rw [List.length_map, List.length_range, hlen]
    omega
  · exact ofTo_hd _ _ _
  · exact ofTo_heap _ _ _ _
  · have ha' : isGet (refL bs n) a ≠ 0 := ha
    rw [hrl] at ha'
    exact absurd rfl ha'
  · show isGet (refL bs n) a = 2 ↔ _
    rw [hrl]
    exact ⟨fun h => absurd (show (0 : Int) = 2 from h) (by decide), fun h => by cases h⟩

end Go.Proofs.YtbkaemajjaiklaaGreat

/- A turn's steps, done whole by way of a site. -/
namespace Go.Proofs.YtbkaemajjaiklaaGreat
open Go.RowKit
set_option linter.unusedVariables false
set_option linter.unusedSimpArgs false

theorem eqFuncNilT (r : Nat) (w : World) : (binOp .eql 83 (.func (.func 38) #[.pointer (some ⟨r, 0, none⟩)] #[]) .nilFunc).run Tryz.prog w = .ok (.bool false) w := by kernel_rfl
/-- behind ph steps, counted -/
structure WhC (w : World) (N : Nat) (B : SB) (V : Nat → Value) (A : SA) (n m : Nat) (Q : MB) (M : MemS) (K t cl : Nat) (a tb : Int) (i c j b cc ph : Nat) (W : World) : Prop where
  out : ∃ M' V', WhI w N B V A n m Q M K t cl a tb i c j b ph W M' V' ∧ Blk W cc 158 (cntC m (tot M' % 18446744073709551616)) ∧ cc ∉ footM m Q M' ∧ cc ∉ foot B V' ∧ cc ≠ t ∧ w.heap.size ≤ cc ∧ ∀ q, q ≤ ph → MAok (stepsMA (absM M) i c j b tb cl q)
theorem TurnOK.only {w w' : World} {B : SB} {V : Nat → Value} {A : SA} {n m : Nat} {Q : MB} {M : MemS} {t cl : Nat} {a tb : Int} {i c j b ph : Nat} (h : TurnOK w B V A n m Q M t cl a tb i c j b ph) {f : List Nat} (ho : Only f w w') (hf : t ∉ f) : TurnOK w' B V A n m Q M t cl a tb i c j b ph :=
  { h with blk := ho.blk h.blk hf }
theorem WhI.far {w : World} {N : Nat} {B : SB} {V : Nat → Value} {A : SA} {n m : Nat} {Q : MB} {M : MemS} {K t cl : Nat} {a tb : Int} {i c j b ph cc : Nat} {W W' : World} {M' : MemS} {V' : Nat → Value} (h : WhI w N B V A n m Q M K t cl a tb i c j b ph W M' V') (ho : Only [cc] W W') (h1 : cc ∉ footM m Q M') (h2 : cc ∉ foot B V') (h3 : cc ≠ t) (h4 : w.heap.size ≤ cc) : WhI w N B V A n m Q M K t cl a tb i c j b ph W' M' V' :=
  ⟨h.work.only ho (fun k hk hm => h1 (by rw [← List.mem_singleton.1 hm]; exact hk)) (fun k hk hm => h2 (by rw [← List.mem_singleton.1 hm]; exact hk)), h.turn.only ho (fun hm => h3 (List.mem_singleton.1 hm).symm),
    ⟨h.st.only.trans ho (fun x hx => Or.inr (by rw [List.mem_singleton.1 hx]; exact h4)), h.st.fm, h.st.fs⟩, h.ma⟩
theorem WhE.far {w : World} {N : Nat} {B : SB} {V : Nat → Value} {A : SA} {n m : Nat} {Q : MB} {M : MemS} {K t cl : Nat} {a tb : Int} {i c j b cc : Nat} {W W' : World} {M' : MemS} {V' : Nat → Value} (h : WhE w N B V A n m Q M K t cl a tb i c j b W M' V') (ho : Only [cc] W W') (h1 : cc ∉ footM m Q M') (h2 : cc ∉ foot B V') (h3 : cc ≠ t) (h4 : w.heap.size ≤ cc) : WhE w N B V A n m Q M K t cl a tb i c j b W' M' V' :=
  ⟨h.work.only ho (fun k hk hm => h1 (by rw [← List.mem_singleton.1 hm]; exact hk)) (fun k hk hm => h2 (by rw [← List.mem_singleton.1 hm]; exact hk)), ho.blk h.blk (fun hm => h3 (List.mem_singleton.1 hm).symm),
    ⟨h.st.only.trans ho (fun x hx => Or.inr (by rw [List.mem_singleton.1 hx]; exact h4)), h.st.fm, h.st.fs⟩, h.ma⟩

set_option maxRecDepth 100000 in
set_option maxHeartbeats 2000000 in
theorem WholeT_z (N : Nat) (B : SB) (V : Nat → Value) (A : SA) (n m : Nat) (Q : MB) (M : MemS) (K t cl : Nat) (a tb : Int) (i c j b : Nat) (w : World) (h : Work w N B V A n m Q M K) (hK : K ≤ 100000) (ht : TurnOK w B V A n m Q M t cl a tb i c j b 0) :
    Calls Tryz.prog 37 #[ptrV m, .func (.func 38) #[.pointer (some ⟨t, 0, none⟩)] #[], .int .i64 20] w fun e w' =>
      e = .returned (.tuple #[.int .i64 4, .bool false, .int .i64 0]) ∧ ∃ M' V', WhE w N B V A n m Q M K t cl a tb i c j b w' M' V' ∧ ∀ q, q ≤ 4 → MAok (stepsMA (absM M) i c j b tb cl q) := by
  have hsz : 0 < M.view.length := h.mem.is.pos
  have hs1 : ((8 * M.view.length : Nat) : Int) ≠ 0 := by omega
  have hs2 : (((8 * M.view.length : Nat) : Int) == 0) = false := by simpa using hs1
  obtain ⟨vl, hvl⟩ : ∃ vl, vl = ((8 * M.view.length : Nat) : Int) := ⟨_, rfl⟩
  rw [← hvl] at hs1 hs2
  have HVL := hid hvl
  have H := hid h
  have HTU := hid ht
  have hfn := eqFuncNilT t w
  clear h hvl hsz ht
  go_enter Tryz.func37, Tryz.ntmps37
  go_wp2
  go_step3
  go_wp2_with fail
  refine (Size_m m Q M.view.length M.st H.out.mem.is.pos H.out.mem.is.big _ H.out.mem.is.blk).mono ?_
  rintro e w1 ⟨rfl, rfl⟩
  rw [← HVL.out]
  go_wp2_with fail
  have hI0 : WhI w N B V A n m Q M K t cl a tb i c j b 0 (w.alloc (.cells #[ptrV m, .int .u64 0] 158)) M V := by
    have ho : Only [] w (w.alloc (.cells #[ptrV m, .int .u64 0] 158)) := (Only.refl _ _).alloc _
    exact ⟨H.out.pre ho, HTU.out.only ho (by simp), ⟨(ho.mono (fun _ h => by cases h)), fun _ h => Or.inl h, fun _ h => Or.inl h⟩, rfl⟩
  have hcf : w.heap.size ∉ footM m Q M := fun hc => by have := H.out.mem.foot_lt _ hc; omega
  have hcs : w.heap.size ∉ foot B V := fun hc => by have := H.out.foot_lt _ hc; omega
  have hct : w.heap.size ≠ t := fun e => by have := HTU.out.blk.lt; omega
  refine (did_z w.heap.size m Q M 0 (by omega) _ (Blk.new w 158 (cntC m 0)) hI0.work.mem.is).mono ?_
  rintro e w2 ⟨rfl, hc2, ho2⟩
  have hC0 : WhC w N B V A n m Q M K t cl a tb i c j b w.heap.size 0 w2 := ⟨M, V, hI0.far ho2 hcf hcs hct (Nat.le_refl _), hc2, hcf, hcs, hct, Nat.le_refl _, fun q hq => (Nat.le_zero.1 hq) ▸ MAok.of H.out.mem.is⟩
  obtain ⟨cc, hcc⟩ : ∃ cc, cc = w.heap.size := ⟨_, rfl⟩
  rw [← hcc] at hC0 ⊢
  have HC0 := hid hC0
  clear hcc hC0 hI0 hcf hcs hct hc2 ho2
  go_wp2
  go_step3
  go_wp2
  go_loopw [6, 7, 8] (fun iv o er wr => ∃ ph : Nat, ph ≤ 3 ∧ iv = .int .i64 (ph : Int) ∧ o = .bool false ∧ er = .int .i64 0 ∧ Hid (WhC w N B V A n m Q M K t cl a tb i c j b cc ph wr)) (fun iv _ _ _ => (20 - (intOf iv).toNat))
  case atStart => exact ⟨0, by omega, rfl, rfl, rfl, HC0⟩
  case round =>
    obtain ⟨ph, hph, rfl, rfl, rfl, hI⟩ := hrel
    have i1 : (ph : Int) < 20 := by omega
    have i0 : (0 : Int) ≤ (ph : Int) := by omega
    obtain ⟨M1, V1, hI1, hb1, hf1, hs1', ht1, hw1, hok1⟩ := hI.out
    have ST := hid (Step_z N B V1 _ n m Q M1 (K + ph) t cl a tb i c j _ ph wr hI1.work (by omega) hI1.turn)
    have HI1 := hid (⟨hI1, hb1, hf1, hs1', ht1, hw1⟩ : _ ∧ _ ∧ _ ∧ _ ∧ _ ∧ _)
    have HOK := hid hok1
    have HPH := hid hph
    clear hI1 hI hph hb1 hf1 hs1' ht1 hw1 hok1
    obtain ⟨d, hd⟩ : ∃ d, d = decide (ph = 3) := ⟨_, rfl⟩
    go_wp2_with fail
    refine ST.out.mono ?_
    rintro e w3 ⟨M2, V2, hs⟩
    obtain rfl := hs.e
    rw [← hd]
    have hcl := HI1.out.2.1.lt
    have hb3 : Blk w3 cc 158 (cntC m (tot M1 % 18446744073709551616)) := hs.st.only.blk HI1.out.2.1 (by
      simp only [List.cons_append, List.mem_cons, List.mem_append, not_or]
      exact ⟨HI1.out.2.2.2.2.1, HI1.out.2.2.1, HI1.out.2.2.2.1⟩)
    have hf3 : cc ∉ footM m Q M2 := fun hm => by
      rcases hs.st.fm _ hm with h1 | h1
      · exact HI1.out.2.2.1 h1
      · omega
    have hs3 : cc ∉ foot B V2 := fun hm => by
      rcases hs.st.fs _ hm with h1 | h1
      · exact HI1.out.2.2.2.1 h1
      · omega
    have hmem3 := hs.work.mem.is
    have htot := hs.tot
    have HS := hid (⟨hs, hf3, hs3⟩ : _ ∧ _ ∧ _)
    have DD := hid (did_z cc m Q M2 (tot M1 % 18446744073709551616) (by constructor <;> omega) w3 hb3 hmem3)
    have h1 : (tot M2 - tot M1 % 18446744073709551616) % 18446744073709551616 = 1 := by omega
    rw [h1] at DD
    have HD := hid hd
    clear hs hf3 hs3 hb3 hmem3 htot h1 hcl
    by_cases h3 : ph = 3
    · have hdt : d = true := by rw [hd]; exact decide_eq_true h3
      subst h3
      subst hdt
      clear hd
      go_wp2_with fail
      refine DD.out.mono ?_
      rintro e w4 ⟨rfl, hb4, ho4⟩
      have hE := (⟨HS.out.1.work, HS.out.1.blk, HI1.out.1.st.join HS.out.1.st, by
        show absM M2 = nextMA (stepsMA (absM M) i c j b tb cl 3) i c j (bitS b j tb 3) tb cl 3
        rw [← HI1.out.1.ma]; exact HS.out.1.ma⟩ : WhE w N B V A n m Q M K t cl a tb i c j b w3 M2 V2)
      have HE := hid (hE.far ho4 HS.out.2.1 HS.out.2.2 HI1.out.2.2.2.2.1 HI1.out.2.2.2.2.2)
      have HO4 := hid (fun q (hq : q ≤ 4) => (show MAok (stepsMA (absM M) i c j b tb cl q) from by
        by_cases h4 : q = 4
        · rw [h4, show stepsMA (absM M) i c j b tb cl 4 = absM M2 from hE.ma.symm]; exact MAok.of HS.out.1.work.mem.is
        · exact HOK.out q (by omega)))
      clear hE hb4 ho4
      go_wp2
      try rw [Exit.noGoto_ret]
      refine bodyPost_ret (v := .tuple #[.int .i64 4, .bool false, .int .i64 0]) (by simp [results, Tryz.results37, go_sem, *]) rfl ?_
      exact ⟨rfl, M2, V2, HE.out, HO4.out⟩
    · have hdt : d = false := by rw [hd]; exact decide_eq_false h3
      subst hdt
      have HL := hid (show ph < 3 by have := HPH.out; omega)
      clear hd h3
      go_wp2_with fail
      refine DD.out.mono ?_
      rintro e w4 ⟨rfl, hb4, ho4⟩
      have hN := HI1.out.1.next HL.out (⟨HS.out.1.work, HS.out.1.blk, HS.out.1.st, HS.out.1.ma⟩ : StepW _ _ _ _ _ _ _ _ _ _ _ _ _ _ _ _ _ _ _ _ _ _)
      have hO4 : ∀ q, q ≤ ph + 1 → MAok (stepsMA (absM M) i c j b tb cl q) := fun q hq => by
        by_cases h4 : q = ph + 1
        · rw [h4, ← hN.ma]; exact MAok.of HS.out.1.work.mem.is
        · exact HOK.out q (by omega)
      have HN := hid (⟨M2, V2, hN.far ho4 HS.out.2.1 HS.out.2.2 HI1.out.2.2.2.2.1 HI1.out.2.2.2.2.2, hb4, HS.out.2.1, HS.out.2.2, HI1.out.2.2.2.2.1, HI1.out.2.2.2.2.2, hO4⟩ : WhC w N B V A n m Q M K t cl a tb i c j b cc (ph + 1) w4)
      clear hN hb4 ho4
      go_wp2
      go_roundw
      case rel => exact ⟨ph + 1, HL.out, by go_num, rfl, rfl, HN⟩
      case measure => simp [intOf]; have := HL.out; omega

end Go.Proofs.YtbkaemajjaiklaaGreat

/- SitePublishes: the walk. -/
namespace Go.Proofs.YtbkaemajjaiklaaGreat
open Go.RowKit
set_option linter.unusedVariables false
set_option linter.unusedSimpArgs false

attribute [local go_sem ↓ high] append_shut2
attribute [local go_sem] appM2_run

set_option maxHeartbeats 400000 in
theorem RSlab_p (a : Int) (w : World) (h0 : 0 ≤ a) (h1 : a ≤ 18446744073709551615) :
    Calls Tryz.prog 39 #[.int .u64 a] w fun e w' => e = .returned (.int .i64 (slabZ a)) ∧ w = w' := by
  go_enter Tryz.func39, Tryz.ntmps39
  go_wp2_with fail
  go_loop [3] (fun i => ∃ k : Int, 1 ≤ k ∧ k ≤ 65 ∧ i = .int .i64 k ∧ Hid (k = 1 ∨ a < 1024 ∨ 1024 * k ≤ a)) (fun i => (65 - intOf i).toNat)
  case atStart => exact ⟨1, by omega, by omega, rfl, Or.inl rfl⟩
  case round =>
    obtain ⟨k, hk1, hk2, rfl, hN⟩ := hrel
    by_cases hlt : k ≤ 64
    · have hh : headerZ k = 1024 * k := if_pos ⟨hk1, hlt⟩
      obtain ⟨q1, q2⟩ := headerZ_le k
      by_cases hge : 1024 * k ≤ a
      · have g1 : headerZ k ≤ a := by omega
        by_cases hl2 : a < 1024 * k + 1024
        · have g2 : a < headerZ k + 1024 := by omega
          have hz := hid (show slabZ a = k by unfold slabZ; rw [if_pos (by omega)]; omega)
          clear hh hN
          go_wp2_with fail
          refine (RHeader_z _ _).mono ?_
          rintro e w1 ⟨rfl, rfl⟩
          go_wp2_with fail
          refine (RHeader_z _ _).mono ?_
          rintro e w1 ⟨rfl, rfl⟩
          go_wp2
          go_ret
          exact ⟨by rw [hz.out]; rfl, rfl⟩
        · have g2 : ¬ a < headerZ k + 1024 := by omega
          have hN' : Hid (k + 1 = 1 ∨ a < 1024 ∨ 1024 * (k + 1) ≤ a) := Or.inr (Or.inr (by omega))
          clear hh hN
          go_wp2_with fail
          refine (RHeader_z _ _).mono ?_
          rintro e w1 ⟨rfl, rfl⟩
          go_wp2_with fail
          refine (RHeader_z _ _).mono ?_
          rintro e w1 ⟨rfl, rfl⟩
          go_wp2
          go_round
          case rel => exact ⟨k + 1, by omega, by omega, rfl, hN'⟩
          case measure => simp [intOf]; omega
      · have g1 : ¬ headerZ k ≤ a := by omega
        have hN' : Hid (k + 1 = 1 ∨ a < 1024 ∨ 1024 * (k + 1) ≤ a) := by
          have := hN.out
          exact Or.inr (Or.inl (by omega))
        clear hh hN
        go_wp2_with fail
        refine (RHeader_z _ _).mono ?_
        rintro e w1 ⟨rfl, rfl⟩
        go_wp2
        go_round
        case rel => exact ⟨k + 1, by omega, by omega, rfl, hN'⟩
        case measure => simp [intOf]; omega
    · obtain rfl : k = 65 := by omega
      have hz := hid (show slabZ a = 0 by
        have := hN.out
        unfold slabZ; rw [if_neg]; omega)
      clear hN
      go_wp2
      go_ret
      exact ⟨by rw [hz.out]; rfl, rfl⟩

theorem XMem_p (x t : Nat) (mv sv : Value) (w : World) (h : Blk w x 154 #[mv, sv, .pointer (some ⟨t, 0, none⟩)]) : Calls Tryz.prog 34 #[.pointer (some ⟨x, 0, none⟩)] w fun e w' => e = .returned mv ∧ w = w' := by
  have y0 : w.cell? ⟨x, 0, none⟩ = some mv := h.cell 0
  go_enter Tryz.func34, Tryz.ntmps34
  go_wp2
  go_ret
  exact ⟨rfl, rfl⟩
theorem XSlab_p (x t : Nat) (mv sv : Value) (w : World) (h : Blk w x 154 #[mv, sv, .pointer (some ⟨t, 0, none⟩)]) : Calls Tryz.prog 35 #[.pointer (some ⟨x, 0, none⟩)] w fun e w' => e = .returned sv ∧ w = w' := by
  have y1 : w.cell? ⟨x, 1, none⟩ = some sv := h.cell 1
  go_enter Tryz.func35, Tryz.ntmps35
  go_wp2
  go_ret
  exact ⟨rfl, rfl⟩
/-- what lies where, between two calls -/
structure PbE (w : World) (N n m : Nat) (Q : MB) (B : SB) (x t : Nat) (gv : Value) (got : List Int) (W : World) (V : Nat → Value) (M : MemS) (A : SA) (K : Nat) : Prop where
  work : Work W N B V A n m Q M K
  row : W.ownsRow N 24 1 gv got.length (got.map (.int .u64))
  rowF : ∀ b, gv.ownBlock = some b → b ∉ footM m Q M ∧ b ∉ foot B V
  site : Blk W x 154 #[ptrV m, .pointer (some ⟨B.s, 0, none⟩), .pointer (some ⟨t, 0, none⟩)]
  siteF : ∀ b, b = x → b ∉ footM m Q M ∧ b ∉ foot B V ∧ gv.ownBlock ≠ some b
  bel : Below w.heap.size w W
  lo : w.heap.size ≤ N
  loM : ∀ b ∈ footM m Q M, w.heap.size ≤ b
theorem PbE.turn {w W W' : World} {N n m : Nat} {Q : MB} {B : SB} {x t : Nat} {gv : Value} {got : List Int} {V V' : Nat → Value} {M M' : MemS} {A A' : SA} {K K' : Nat} (h : PbE w N n m Q B x t gv got W V M A K) (tt : Nat) (hw : Work W' N B V' A' n m Q M' K') (ho : Only (tt :: footM m Q M ++ foot B V) W W')
    (fm : ∀ k ∈ footM m Q M', k ∈ footM m Q M ∨ W.heap.size ≤ k) (fs : ∀ k ∈ foot B V', k ∈ foot B V ∨ W.heap.size ≤ k) (h1 : ∀ b, b = x → b ≠ tt) (h2 : gv.ownBlock ≠ some tt) (h3 : w.heap.size ≤ tt) : PbE w N n m Q B x t gv got W' V' M' A' K' := by
  have hxl := h.site.lt
  have hz := h.bel.size
  have far : ∀ b, b = x → b ∉ tt :: footM m Q M ++ foot B V := fun b hb => by
    simp only [List.cons_append, List.mem_cons, List.mem_append, not_or]
    exact ⟨h1 b hb, (h.siteF b hb).1, (h.siteF b hb).2.1⟩
  have lt : ∀ b, b = x → b < W.heap.size := fun b hb => by rw [hb]; exact hxl
  have rl := own_lt h.row
  refine ⟨hw, ho.own h.row (fun k hk hm => ?_), fun b hb => ⟨fun hm => ?_, fun hm => ?_⟩, ho.blk h.site (far x rfl), fun b hb => ⟨fun hm => ?_, fun hm => ?_, (h.siteF b hb).2.2⟩, ?_, h.lo, fun b hb => ?_⟩
  · simp only [List.cons_append, List.mem_cons, List.mem_append] at hm
    rcases hm with rfl | hm | hm
    · exact h2 hk
    · exact (h.rowF k hk).1 hm
    · exact (h.rowF k hk).2 hm
  · rcases fm b hm with h4 | h4
    · exact (h.rowF b hb).1 h4
    · have := rl b hb; omega
  · rcases fs b hm with h4 | h4
    · exact (h.rowF b hb).2 h4
    · have := rl b hb; omega
  · rcases fm b hm with h4 | h4
    · exact (h.siteF b hb).1 h4
    · have := lt b hb; omega
  · rcases fs b hm with h4 | h4
    · exact (h.siteF b hb).2.1 h4
    · have := lt b hb; omega
  · refine h.bel.trans (ho.below (fun k hk => ?_) hz)
    simp only [List.cons_append, List.mem_cons, List.mem_append] at hk
    rcases hk with rfl | hk | hk
    · exact h3
    · exact h.loM k hk
    · obtain ⟨i, hi⟩ := foot_mem.1 hk
      exact Nat.le_trans h.lo (h.work.sl.lo i k hi)
  · rcases fm b hb with h4 | h4
    · exact h.loM b h4
    · omega
theorem PbE.below {w W W' : World} {N n m : Nat} {Q : MB} {B : SB} {x t : Nat} {gv : Value} {got : List Int} {V : Nat → Value} {M : MemS} {A : SA} {K : Nat} (h : PbE w N n m Q B x t gv got W V M A K) (hb : Below W.heap.size W W') : PbE w N n m Q B x t gv got W' V M A K := by
  have ho : Only [] W W' := Only.of_below hb []
  exact ⟨h.work.pre ho, ho.own h.row (by simp), h.rowF, h.site.bel hb, h.siteF, h.bel.trans (hb.mono h.bel.size), h.lo, h.loM⟩
/-- one address more in the row -/
theorem PbE.push {w W W0 W' : World} {N n m : Nat} {Q : MB} {B : SB} {x t : Nat} {gv gv' : Value} {got : List Int} {V : Nat → Value} {M : MemS} {A : SA} {K : Nat} (h : PbE w N n m Q B x t gv got W V M A K) (hb : Below W.heap.size W W0) {got' : List Int} (hr : W'.ownsRow N 24 1 gv' got'.length (got'.map (.int .u64)))
    (hg : W0.grownBy W' gv.ownBlock) (hob : gv'.ownBlock = gv.ownBlock ∨ gv'.ownBlock = some W0.heap.size) : PbE w N n m Q B x t gv' got' W' V M A K := by
  have h0 := h.below hb
  have ho : Only gv.ownBlock.toList W0 W' := Only.of_grown hg (fun k hk => by simp [hk])
  have hgv : ∀ b, b ∈ gv.ownBlock.toList → gv.ownBlock = some b := fun b hb => by simpa using hb
  have hxl := h0.site.lt
  have lt : ∀ b, b = x → b < W0.heap.size := fun b hb => by rw [hb]; exact hxl
  refine ⟨h0.work.only ho (fun k hk hm => (h0.rowF k (hgv k hm)).1 hk) (fun k hk hm => (h0.rowF k (hgv k hm)).2 hk), hr, fun b hb => ?_, ho.blk h0.site (fun hm => (h0.siteF x rfl).2.2 (hgv _ hm)), fun b hb => ⟨(h0.siteF b hb).1, (h0.siteF b hb).2.1, fun he => ?_⟩, h0.bel.trans (ho.below (fun k hk => ?_) h0.bel.size), h0.lo, h0.loM⟩
  · rcases hob with e | e
    · exact h0.rowF b (e ▸ hb)
    · rw [e] at hb
      injection hb with hb
      subst hb
      exact ⟨fun hm => by have := h0.work.mem.foot_lt _ hm; omega, fun hm => by have := h0.work.foot_lt _ hm; omega⟩
  · rcases hob with e | e
    · exact (h0.siteF b hb).2.2 (e ▸ he)
    · rw [e] at he
      injection he with he
      have := lt b hb
      omega
  · exact Nat.le_trans h0.lo (own_base h0.row k (hgv k hk))
/-- k are done -/
structure PbX (w : World) (N n m : Nat) (Q : MB) (B : SB) (x t : Nat) (gv : Value) (k : Nat) (W : World) : Prop where
  out : ∃ V M g got, PbE w N n m Q B x t gv got W V M g.A (4 * k) ∧ absM M = g.ma ∧ PubP n g got ∧ got.length ≤ k

/-- what Reserve comes to here -/
structure PbS (w : World) (N n m : Nat) (Q : MB) (B : SB) (x t : Nat) (gv : Value) (got : List Int) (k : Nat) (M : MemS) (g1 : GA) (a xx : Int) (W : World) : Prop where
  out : ∃ V', PbE w N n m Q B x t gv got W V' M g1.A (4 * k)
  ma : absM M = g1.ma
  st : (xx = 4 ∧ PubP n g1 got) ∨ (xx = 0 ∧ PubR n g1 got a)
theorem pb_rsv {w W : World} {N n m : Nat} {Q : MB} {B : SB} {x t : Nat} {gv : Value} {got : List Int} {V : Nat → Value} {M : MemS} {g : GA} {k : Nat} (h : PbE w N n m Q B x t gv got W V M g.A (4 * k)) (hm : absM M = g.ma) (hp : PubP n g got) {c : Nat} (hc : 1 ≤ c ∧ c ≤ 3) :
    ∃ a xx g1, ∀ X, Below W.heap.size W X → Calls Tryz.prog 23 #[.pointer (some ⟨B.s, 0, none⟩), .int .i64 (c : Int)] X fun e W' => e = .returned (.tuple #[.int .u64 a, .int .i64 xx]) ∧ PbS w N n m Q B x t gv got k M g1 a xx W' := by
  have hn64 : n ≤ 64 := by have := hp.ok.n6; omega
  obtain ⟨a, xx, cs', ls', hw⟩ := rsvW_ex g.cs g.ls c n
  obtain ⟨A', hR⟩ := hp.ok.al.rsv hn64 hp.ok.hl hc hp.hp hw
  refine ⟨a, xx, { g with A := A', cs := cs', ls := ls' }, fun X hX => ?_⟩
  have hE := h.below hX
  refine (Reserve_z N B V _ g.A c n X hE.work.sl hE.work.lo hE.work.hl hE.work.hn hc ((hp.ok.al.few hp.ok.n6).2 c hc.1 hc.2)).mono ?_
  intro e W' hr
  obtain ⟨rfl, ⟨V', hs, hmv⟩, hh, hl, al, _⟩ := rsv_same hp.ok.hl hc hp.hp hr hR
  refine ⟨rfl, ⟨V', hE.turn X.heap.size (hE.work.moved hs hmv (hl.trans hp.ok.hl.symm)) (hmv.only.mono (fun y hy => by simp [hy])) (fun y hy => Or.inl hy) hmv.foot (fun b hb e => ?_) (fun hgv => ?_) hE.bel.size⟩, hm, hp.rsv hc hw hR hh hl al⟩
  · have := hE.site.lt; omega
  · have := own_lt hE.row _ hgv; omega
theorem PbE.upTo {w W : World} {N n m : Nat} {Q : MB} {B : SB} {x t : Nat} {gv : Value} {got : List Int} {V : Nat → Value} {M : MemS} {A : SA} {K K' : Nat} (h : PbE w N n m Q B x t gv got W V M A K) (hk : K ≤ K') : PbE w N n m Q B x t gv got W V M A K' :=
  { h with work := { h.work with mem := h.work.mem.mono hk } }
/-- where a block that was reserved lies, in numbers -/
structure BkAt (n : Nat) (A : SA) (a : Int) (i c j b : Nat) : Prop where
  ii : slabZ a = (i : Int)
  i1 : 1 ≤ i ∧ i ≤ n
  cc : clsOf A i = (c : Int)
  c3 : 1 ≤ c ∧ c ≤ 3
  jj : j < nb c
  ab : a = blockZ (i : Int) c j
  bb : (A.hd.getD i (0, 0)).2 = (b : Int)
  b64 : b < 18446744073709551616
  aa : 0 < a ∧ a ≤ 18446744073709551615
theorem PubR.at {n : Nat} {g : GA} {got : List Int} {a : Int} (h : PubR n g got a) : ∃ i c j b, BkAt n g.A a i c j b := by
  obtain ⟨i, j, c, h1, h2, h3, h4, h5, h6⟩ := h.ok.al.blkOf (a := a) (by rw [h.one]; decide)
  have hn := h.ok.n6
  have hb := block_in (i := i) (by omega) ⟨h3, h4⟩ h2
  have hs : slabZ a = (i : Int) + 1 := by
    rw [h6]
    unfold slabZ
    rw [if_pos (by omega)]; omega
  have hc : clsOf g.A (i + 1) = (c : Int) := by rw [h.ok.al.cls i h1]; exact h5
  obtain ⟨c', b, _, e2, e3, _⟩ := (h.lst.fit (i + 1) (by omega) (by omega) _ (Nat.le_refl _)).out
  exact ⟨i + 1, c, j, b, by rw [hs]; rfl, ⟨by omega, by omega⟩, hc, ⟨h3, h4⟩, h2, h6, (h.lst.hd (i + 1) (by omega) (by omega)).symm.trans e2, e3, by omega, by omega⟩
/-- a turn begun -/
structure PbT (w : World) (N n m : Nat) (Q : MB) (B : SB) (x t : Nat) (gv : Value) (got : List Int) (k : Nat) (M : MemS) (g1 : GA) (a : Int) (cl tt : Nat) (W : World) : Prop where
  out : ∃ V' i c j b, PbE w N n m Q B x t gv got W V' M { g1.A with is := isSet g1.A.is a 4 } (4 * k) ∧ TurnOK W B V' { g1.A with is := isSet g1.A.is a 4 } n m Q M tt cl a 2 i c j b 0 ∧ BkAt n g1.A a i c j b
  far : (∀ b, b = x → b ≠ tt) ∧ gv.ownBlock ≠ some tt ∧ w.heap.size ≤ tt
  ma : absM M = g1.ma
  pub : PubR n g1 got a
  k1 : k ≤ 100
  cl64 : cl ≤ 64
theorem pb_pub {w W : World} {N n m : Nat} {Q : MB} {B : SB} {x t : Nat} {gv : Value} {got : List Int} {V : Nat → Value} {M : MemS} {g1 : GA} {k cl : Nat} {a : Int} (h : PbE w N n m Q B x t gv got W V M g1.A (4 * k)) (hma : absM M = g1.ma) (hr : PubR n g1 got a) (hcl : cl ≤ 64) (hk : k ≤ 100) :
    Calls Tryz.prog 36 #[.pointer (some ⟨B.s, 0, none⟩), .pointer (some ⟨m, 0, none⟩), .int .i64 (cl : Int), .int .u64 a] W fun e W' => ∃ tt, e = .returned (.tuple #[.pointer (some ⟨tt, 0, none⟩), .int .i64 0]) ∧ PbT w N n m Q B x t gv got k M g1 a cl tt W' := by
  obtain ⟨i, c, j, b, hat⟩ := hr.at
  refine (Publish_ok N B V _ g1.A n m Q M.view.length M.st (cl : Int) a W ⟨h.work.sl, h.work.hl, h.work.hn, h.work.mem.is.blk, ⟨h.work.mem.is.pos, h.work.mem.is.big⟩, rfl⟩ (by omega) (by rw [hr.ok.al.is]; exact hr.one) (by have := hat.aa; omega)).mono ?_
  rintro e W' ⟨tt, rfl, ht⟩
  have hlo := ht.new
  have hM : ∀ k ∈ footM m Q M, k < W.heap.size := h.work.mem.foot_lt
  have hF : ∀ k ∈ foot B V, k < W.heap.size := h.work.foot_lt
  have hmv : Moved B V V W W' := Moved.putM ht.only
  have hw' := h.work.moved (A' := { g1.A with is := isSet g1.A.is a 4 }) ht.sl hmv rfl
  have hE := h.turn W.heap.size hw' (hmv.only.mono (fun y hy => by simp [hy])) (fun y hy => Or.inl hy) hmv.foot (fun b hb e => by have := h.site.lt; omega) (fun hgv => by have := own_lt h.row _ hgv; omega) h.bel.size
  refine ⟨tt, rfl, ⟨V, i, c, j, b, hE, ⟨ht.blk, by decide, fun hm => by have := hM tt hm; omega, fun hm => by have := hF tt hm; omega, hat.ii, hat.i1, hat.cc, hat.c3, ?_, by have := nb_le c; have := hat.jj; omega, hat.bb, hat.b64, hat.aa, hcl, Or.inl rfl, isSet_has _ _ _, ?_⟩, hat⟩, ⟨fun b hb e => by have := h.site.lt; omega, fun hgv => by have := own_lt h.row _ hgv; omega, Nat.le_trans h.bel.size hlo⟩, hma, hr, hk, hcl⟩
  · rw [hat.ab]
    have h1 := hat.i1
    obtain ⟨i0, rfl⟩ : ∃ i0, i = i0 + 1 := ⟨i - 1, by omega⟩
    exact idx_of (by have := h.work.hn; omega) hat.c3 hat.jj
  · have := (hr.ok.al.few hr.ok.n6).2 c hat.c3.1 hat.c3.2
    show (g1.A.fr c).length ≤ _
    omega
/-- what a turn that is done whole leaves -/
structure PbD (w : World) (N n m : Nat) (Q : MB) (B : SB) (x t : Nat) (gv : Value) (got : List Int) (k : Nat) (a : Int) (W : World) : Prop where
  out : ∃ V M g, PbE w N n m Q B x t gv got W V M g.A (4 * (k + 1)) ∧ absM M = g.ma ∧ PubP n g (got ++ [a])
theorem pb_whole {w W : World} {N n m : Nat} {Q : MB} {B : SB} {x t : Nat} {gv : Value} {got : List Int} {M : MemS} {g1 : GA} {k cl tt : Nat} {a : Int} (h : PbT w N n m Q B x t gv got k M g1 a cl tt W) :
    Calls Tryz.prog 37 #[ptrV m, .func (.func 38) #[.pointer (some ⟨tt, 0, none⟩)] #[], .int .i64 20] W fun e W' => e = .returned (.tuple #[.int .i64 4, .bool false, .int .i64 0]) ∧ PbD w N n m Q B x t gv got k a W' := by
  obtain ⟨V', i, c, j, b, hE, hT, hat⟩ := h.out
  refine (WholeT_z N B V' _ n m Q M (4 * k) tt cl a 2 i c j b W hE.work (by have := h.k1; omega) hT).mono ?_
  rintro e W' ⟨rfl, M', V2, we, oks⟩
  have hd := h.pub.done (t := tt) h.cl64 hat.ii hat.i1 hat.cc hat.c3 hat.jj hat.ab hat.bb hat.b64 (fun q hq => by rw [← h.ma]; exact oks q hq)
  exact ⟨rfl, V2, M', _, hE.turn tt we.work we.st.only we.st.fm we.st.fs h.far.1 h.far.2.1 h.far.2.2, by rw [we.ma, h.ma], hd⟩
theorem pb_begin {w w1 w2 w3 : World} {n m : Nat} {Q : MB} {B : SB} {V : Nat → Value} {sz : Nat} (hn : 1 ≤ n ∧ n ≤ 4) (hsz : sz = 8 * (128 * (1 + n))) (hm : MemIs w1 m Q (freshM (List.replicate (128 * (1 + n)) 0))) (hb1 : Below w.heap.size w w1) (hlo : ∀ k ∈ footM m Q (freshM (List.replicate (128 * (1 + n)) 0)), w.heap.size < k)
    (hb2 : Below w1.heap.size w1 w2) (hs : SlabIs w3 w2.heap.size B V ((sz : Nat) : Int) (ofTo (List.replicate sz 0) n n)) (hb3 : Below w2.heap.size w2 w3) :
    Work w3 w2.heap.size B V (beginG (List.replicate sz 0) n).A n m Q (freshM (List.replicate (128 * (1 + n)) 0)) 0 ∧ absM (freshM (List.replicate (128 * (1 + n)) 0)) = (beginG (List.replicate sz 0) n).ma ∧ PubP n (beginG (List.replicate sz 0) n) [] ∧ Below w.heap.size w w3 := by
  have e8 : (8 * (128 * (1 + n))) / 8 = 128 * (1 + n) := by omega
  have z1 := hb1.size
  have z2 := hb2.size
  refine ⟨⟨?_, ofTo_hd _ _ _, by omega, ⟨(hm.only (Only.of_below hb2 []) (by simp)).only (Only.of_below hb3 []) (by simp), fun L hL => (by cases hL), by show 2 ≤ (List.replicate _ _).length; rw [List.length_replicate]; omega⟩, ?_, fun k hk hf => ?_, hb3.size⟩, ?_, ?_, (hb1.trans (hb2.mono z1)).trans (hb3.mono (by omega))⟩
  · show SlabIs w3 w2.heap.size B V ((8 * (List.replicate (128 * (1 + n)) (0 : Int)).length : Nat) : Int) (ofTo (List.replicate sz 0) n n)
    rw [List.length_replicate, ← hsz]; exact hs
  · show (List.replicate _ _).length = _; rw [List.length_replicate]
  · obtain ⟨i, hi⟩ := foot_mem.1 hf
    have h1 := hs.lo i k hi
    have h2 := hm.foot_lt k hk
    omega
  · show (⟨List.replicate _ 0, List.replicate _ 0, []⟩ : MA) = ⟨wordsOf (List.replicate sz 0), wordsOf (List.replicate sz 0), []⟩
    rw [wordsOf_zeros, hsz, e8]
  · have := PubP.begin (n := n) (by omega)
    rw [← hsz] at this
    exact this

set_option maxRecDepth 100000 in
set_option maxHeartbeats 8000000 in
theorem SitePublishes_z (slabs : Int) (v : Value) (xs : List Int) (client : Int) (w : World) (s1 : -9223372036854775808 ≤ slabs) (s2 : slabs ≤ 9223372036854775807) (h3 : NumsAt .i64 w v xs) (hxs : ∀ x ∈ xs, -9223372036854775808 ≤ x ∧ x ≤ 9223372036854775807) :
    Calls Tryz.prog 7 #[.int .i64 slabs, v, .int .i64 client] w fun e w' => e = .returned (.bool true) ∧ Below w.heap.size w w' := by
  obtain ⟨vo, vcap, rfl, hva⟩ := h3
  obtain ⟨q, hq⟩ : ∃ q, q = xs.length := ⟨_, rfl⟩
  rw [← hq]
  have HQ := hid hq
  have HVA := hid hva
  have HXS := hid hxs
  clear hq hva hxs
  by_cases i1 : slabs < 1
  · go_enter Tryz.func7, Tryz.ntmps7
    go_wp2_with fail
    refine (known_z13 _).mono ?_
    rintro e w2 ⟨rfl, hb⟩
    have HB := hid hb
    clear hb
    go_wp2
    go_ret
    exact ⟨rfl, HB.out⟩
  by_cases i2 : slabs > 4
  · go_enter Tryz.func7, Tryz.ntmps7
    go_wp2_with fail
    refine (known_z13 _).mono ?_
    rintro e w2 ⟨rfl, hb⟩
    have HB := hid hb
    clear hb
    go_wp2
    go_ret
    exact ⟨rfl, HB.out⟩
  by_cases i3 : q > 20
  · have i3' : (q : Int) > 20 := by omega
    clear i3
    go_enter Tryz.func7, Tryz.ntmps7
    go_wp2_with fail
    refine (known_z13 _).mono ?_
    rintro e w2 ⟨rfl, hb⟩
    have HB := hid hb
    clear hb
    go_wp2
    go_ret
    exact ⟨rfl, HB.out⟩
  have i3' : ¬ (q : Int) > 20 := by omega
  have HQ20 := hid (show q ≤ 20 by omega)
  clear i3
  by_cases i4 : client < 0
  · go_enter Tryz.func7, Tryz.ntmps7
    go_wp2_with fail
    refine (known_z13 _).mono ?_
    rintro e w2 ⟨rfl, hb⟩
    have HB := hid hb
    clear hb
    go_wp2
    go_ret
    exact ⟨rfl, HB.out⟩
  by_cases i5 : client > 64
  · go_enter Tryz.func7, Tryz.ntmps7
    go_wp2_with fail
    refine (known_z13 _).mono ?_
    rintro e w2 ⟨rfl, hb⟩
    have HB := hid hb
    clear hb
    go_wp2
    go_ret
    exact ⟨rfl, HB.out⟩
  obtain ⟨n, rfl⟩ : ∃ n : Nat, slabs = (n : Int) := ⟨slabs.toNat, by omega⟩
  obtain ⟨cl, rfl⟩ : ∃ cl : Nat, client = (cl : Int) := ⟨client.toNat, by omega⟩
  have HN := hid (show 1 ≤ n ∧ n ≤ 4 by omega)
  have HCL := hid (show cl ≤ 64 by omega)
  obtain ⟨sz, hsz⟩ : ∃ sz, sz = 8 * (128 * (1 + n)) := ⟨_, rfl⟩
  have e1 : (1024 : Int) + 1024 * (n : Int) = (sz : Int) := by omega
  have m1 : 1024 * (n : Int) ≤ 4096 := by omega
  have m2 : (sz : Int) ≤ 5120 := by omega
  have HNW := hid (New_m sz (by unfold mayB; exact decide_eq_true (by omega)) w)
  have e8 : sz / 8 = 128 * (1 + n) := by omega
  rw [e8] at HNW
  have HSZ := hid hsz
  clear hsz e8 s1 s2
  go_enter Tryz.func7, Tryz.ntmps7
  go_wp2_with fail
  refine HNW.out.mono ?_
  rintro e w1 ⟨m, Q, rfl, p1, p2, p3⟩
  have M1 := hid (⟨p1, p2, p3⟩ : _ ∧ _ ∧ _)
  clear p1 p2 p3
  go_wp2_with fail
  refine (Image_z m Q _ w1 M1.out.1 (fun x hx => by have := List.eq_of_mem_replicate hx; omega)).mono ?_
  rintro e w2 ⟨p, c, rfl, p1, p2, p3⟩
  have hbe : bytesW (freshM (List.replicate (128 * (1 + n)) 0)).image = List.replicate sz 0 := by rw [HSZ.out]; exact bytesW_zeros _
  rw [hbe] at p1 ⊢
  have hlr : (List.replicate sz (0 : Int)).length = sz := List.length_replicate
  have P := hid (⟨p1, p2, p3⟩ : _ ∧ _ ∧ _)
  have SO := hid (callsIn_wide.1 (SOf_in p c (List.replicate sz 0) n (by have := HN.out; omega) (by rw [hlr]; have := HSZ.out; omega) w2 p1))
  rw [hlr] at SO ⊢
  clear p1 p2 p3 hbe hlr
  go_wp2_with fail
  refine SO.out.mono ?_
  rintro e w3 hp
  obtain ⟨B, V, rfl, s1⟩ := hp.yes (fun i _ _ => by unfold headOK; rw [clsAt_zeros, bitAt_zeros]; rfl)
  obtain ⟨k1, k2, k3, k4⟩ := pb_begin HN.out HSZ.out M1.out.1 M1.out.2.1 M1.out.2.2 P.out.2.2 s1 hp.bel
  have HK := hid (⟨k1, k2, k3, k4⟩ : _ ∧ _ ∧ _ ∧ _)
  have hm3 : HasMem w3 (.pointer (some ⟨m, 0, none⟩)) sz := Or.inr ⟨m, Q, _, _, rfl, k1.mem.is.pos, k1.mem.is.big, (by rw [k1.vl]; exact HSZ.out), k1.mem.is.blk⟩
  have hs3 := HasSlabs.of k1.sl k1.hl k1.hn
  have HST := hid (SNew_z (some ⟨m, 0, none⟩) (some ⟨B.s, 0, none⟩) sz n 3 (by have := HN.out; omega) w3 hm3 hs3)
  have HE := hid (show siteE sz n 3 = 0 by
    have h1 := HN.out
    have h2 := HSZ.out
    unfold siteE
    rw [if_neg (by omega), if_neg (by omega)])
  have HZ := hid (Nat.le_trans M1.out.2.1.size P.out.2.2.size)
  clear hp s1 k1 k2 k3 k4 hm3 hs3
  go_wp2_with fail
  refine HST.out.mono ?_
  rintro e w4 ⟨hb4, h5⟩
  rcases h5 with ⟨hne, rfl⟩ | ⟨heq, x, t, rfl, hx, hlo⟩
  · exact absurd HE.out hne
  have HX := hid (⟨hx, hlo, hb4⟩ : _ ∧ _ ∧ _)
  clear hx hlo hb4 heq
  go_wp2_with fail
  refine (XMem_z x t _ _ _ w4 HX.out.1).mono ?_
  rintro e w5 ⟨rfl, rfl⟩
  go_wp2_with fail
  refine (XSlab_z x t _ _ _ w4 HX.out.1).mono ?_
  rintro e w5 ⟨rfl, rfl⟩
  have hI0 : PbX w w2.heap.size n m Q B x t (.slice none 0 0) 0 w4 := by
    have z2 : w2.heap.size ≤ w3.heap.size := HK.out.1.lo
    have z3 := HX.out.2.2.size
    have hxl := HX.out.1.blk.lt
    have hxh := HX.out.2.1
    refine ⟨V, _, _, [], ⟨HK.out.1.pre (Only.of_below HX.out.2.2 []), World.ownsRow_nil _ _ _ _, fun b hb => (by simp [Value.ownBlock] at hb), HX.out.1.blk, fun b hb => ⟨fun hm => ?_, fun hm => ?_, by simp [Value.ownBlock]⟩, HK.out.2.2.2.trans (HX.out.2.2.mono HK.out.2.2.2.size), HZ.out, fun b hb => Nat.le_of_lt (M1.out.2.2 b hb)⟩, HK.out.2.1, HK.out.2.2.1, Nat.le_refl _⟩
    · have := HK.out.1.mem.foot_lt b hm
      subst hb; omega
    · have := HK.out.1.foot_lt b hm
      subst hb; omega
  have HI0 := hid hI0
  clear hI0
  obtain ⟨w8, hw8⟩ : ∃ w8, w8 = w4 := ⟨_, rfl⟩
  rw [← hw8] at HI0 ⊢
  clear hw8 HX HST HE HK M1 P SO HNW
  go_wp2
  go_loopw [13, 14] (fun gv iv wr => ∃ k : Nat, k ≤ q ∧ iv = .int .i64 k ∧ Hid (PbX w w2.heap.size n m Q B x t gv k wr)) (fun _ iv _ => (q - (intOf iv).toNat))
  case atStart => exact ⟨0, by omega, rfl, HI0⟩
  case round =>
    obtain ⟨k, hk, rfl, hI⟩ := hrel
    obtain ⟨V1, M1, g, got, hE, hma, hpp, hgl⟩ := hI.out
    by_cases hlt : k < q
    · have j1 : (k : Int) < (q : Int) := by omega
      have j0 : (0 : Int) ≤ (k : Int) := by omega
      have HLT := hid hlt
      obtain ⟨y, hy⟩ : ∃ y, xs[k]? = some y := ⟨_, List.getElem?_eq_getElem (by rw [← HQ.out]; exact hlt)⟩
      obtain ⟨b, off, hvo, hbl, hcl⟩ := HVA.out.resolve_left (fun e => by rw [e] at hy; cases hy)
      subst hvo
      have KC := hid (fun (X : World) (hb : Below w.heap.size w X) => ((hb.cell (p := ⟨b, off + k, none⟩) hbl).trans (hcl k y hy) : X.cell? ⟨b, off + k, none⟩ = some (.int .i64 y)))
      obtain ⟨c, hc⟩ : ∃ c : Nat, (c : Int) = 1 + (y % 18446744073709551616) % 3 := ⟨(1 + (y % 18446744073709551616) % 3).toNat, by omega⟩
      have ecls : IntKind.i64.wrap (1 + IntKind.i64.wrap ((IntKind.u64.wrap y).tmod 3)) = (c : Int) := by
        have h0 : IntKind.u64.wrap y = y % 18446744073709551616 := rfl
        have h1 : IntKind.i64.wrap (y % 18446744073709551616 % 3) = y % 18446744073709551616 % 3 := IntWalk.i64_in _ (by constructor <;> omega)
        rw [h0, Int.tmod_eq_emod_of_nonneg (by omega), hc, h1]
        exact IntWalk.i64_in _ (by constructor <;> omega)
      obtain ⟨a, xx, g1, hR⟩ := pb_rsv hE hma hpp (c := c) (by omega)
      have RS := hid hR
      have XS := hid (fun X (hX : Below wr.heap.size wr X) => XSlab_p x t _ _ X (hE.site.bel hX))
      have HE1 := hid hE
      have yk : wr.cell? ⟨b, off + k, none⟩ = some (.int .i64 y) := KC.out wr hE.bel
      have ykd : wr.drew.cell? ⟨b, off + k, none⟩ = some (.int .i64 y) := yk
      have B0 : Below wr.heap.size wr wr := Below.refl _ _
      have B1 : Below wr.heap.size wr wr.drew := (show Below wr.heap.size wr wr.drew from ⟨rfl, rfl, rfl, Nat.le_refl _, fun _ _ => rfl⟩)
      clear hy hbl hcl hc hE hma hpp hlt hI hk hR
      go_upto_region 16 with fail
      have K0 : wr.cell? ⟨b, off + k, none⟩ = some (.int .i64 y) ∧ Below w.heap.size w wr := ⟨yk, HE1.out.bel⟩
      have K1 : wr.drew.cell? ⟨b, off + k, none⟩ = some (.int .i64 y) ∧ Below w.heap.size w wr.drew := ⟨ykd, HE1.out.bel.trans (B1.mono HE1.out.bel.size)⟩
      go_region_held3 (fun X => X.cell? ⟨b, off + k, none⟩ = some (.int .i64 y) ∧ Below w.heap.size w X) (first | (with_reducible exact K0) | (with_reducible exact K1) | (with_reducible exact K5))
        (first
        | (go_at_call 35; (refine (XS.out _ (by first | exact B0 | exact B1)).mono ?_); rintro e w1 ⟨rfl, rfl⟩)
        | (go_at_call 23; (refine (RS.out _ (by first | exact B0 | exact B1)).mono ?_); rintro e w5 ⟨rfl, hS⟩; have HS5 := hid hS; have K5 : w5.cell? ⟨b, off + k, none⟩ = some (.int .i64 y) ∧ Below w.heap.size w w5 := by { obtain ⟨V', h5⟩ := hS.out; exact ⟨KC.out _ h5.bel, h5.bel⟩ }; clear hS))
      rcases HS5.out.st with ⟨rfl, hpn⟩ | ⟨rfl, hpr⟩
      · obtain ⟨V5, hE5⟩ := HS5.out.out
        have HNX := hid (⟨V5, M1, g1, got, hE5.upTo (K' := 4 * (k + 1)) (by omega), HS5.out.ma, hpn, Nat.le_succ_of_le hgl⟩ : PbX w w2.heap.size n m Q B x t u13 (k + 1) w5)
        clear K0 K1 K5 ykd yk hE5 hpn RS XS KC
        go_wp2
        go_roundw
        case rel => exact ⟨k + 1, HLT.out, by go_num, HNX⟩
        case measure => simp [intOf]; have := HLT.out; omega
      · obtain ⟨V5, hE5⟩ := HS5.out.out
        have PB := hid (pb_pub hE5 HS5.out.ma hpr HCL.out (by have := HLT.out; have := HQ20.out; omega))
        have XS5 := hid (XSlab_p x t _ _ w5 hE5.site)
        have XM5 := hid (XMem_p x t _ _ w5 hE5.site)
        clear K0 K1 K5 ykd yk hE5 hpr RS XS KC
        go_wp2_with fail
        refine XS5.out.mono ?_
        rintro e w6 ⟨rfl, rfl⟩
        go_wp2_with fail
        refine XM5.out.mono ?_
        rintro e w6 ⟨rfl, rfl⟩
        go_wp2_with fail
        refine PB.out.mono ?_
        rintro e w6 ⟨tt, rfl, ht⟩
        have WH := hid (pb_whole ht)
        clear ht
        go_wp2_with fail
        refine WH.out.mono ?_
        rintro e w7 ⟨rfl, hd⟩
        obtain ⟨V7, M7, g7, hE7, hm7, hp7⟩ := hd.out
        obtain ⟨gv', w9, hrun, hown, hgr, hob⟩ := app_addr w2.heap.size (w7.alloc (.cells #[.int .u64 a] 24)) (.slice (some ⟨w7.heap.size, 0, none⟩) 1 1) got [a] u13 (Or.inr ⟨w7.heap.size, 0, 1, rfl, fun j u hj => by
          rw [(Blk.new w7 24 #[.int .u64 a]).cell (0 + j), Nat.zero_add]; simpa using hj⟩) (by simp; have := HQ20.out; have := HLT.out; omega) (by have := hE7.work.lo; simp; omega) (hE7.row.alloc _)
        have hE9 := hE7.push (ba (Below.refl _ _) _) hown hgr hob
        have HNX := hid (⟨V7, M7, g7, got ++ [a], hE9, hm7, hp7, by simp; omega⟩ : PbX w w2.heap.size n m Q B x t gv' (k + 1) w9)
        clear hd hE7 hm7 hp7 hown hgr hob hE9
        go_wp2
        go_roundw
        case rel => exact ⟨k + 1, HLT.out, by go_num, HNX⟩
        case measure => simp [intOf]; have := HLT.out; omega
    · obtain rfl : k = q := by omega
      have j1 : ¬ (k : Int) < (k : Int) := by omega
      obtain ⟨f1, f2, f3, f4⟩ := hpp.fin
      have hn6 := hpp.ok.n6
      have hal := ofTo_alike (bytesW g.ma.image) n (by omega) f2 n (Nat.le_refl _)
      obtain ⟨f5, f6⟩ := f3 hal.ul
      have hsame := fun ys => hal.used (ys := ys)
      obtain ⟨im, him⟩ : ∃ im, im = bytesW g.ma.image := ⟨_, rfl⟩
      rw [← him] at f1 f2 f5 f6 hal hsame
      have IM := Image_z m Q M1 wr hE.work.mem.is (fun x hx => hpp.rng.im x (by rw [← hma]; exact hx))
      have hmi : M1.image = g.ma.image := by rw [← hma]; rfl
      rw [hmi, ← him] at IM
      have hBm := foot_mem.2 ⟨2, role_m B V1⟩
      obtain ⟨pp, gg, cc, rfl, r1, r2, r3, r4⟩ := row_at hE.row (hE.work.sl.lo 2 B.m (role_m B V1)) (hE.work.foot_lt B.m hBm)
      have hslab : ∀ a ∈ got, 0 ≤ a ∧ a ≤ 18446744073709551615 ∧ slabZ a ≠ 0 := fun a ha => by
        obtain ⟨i, j, c, h1, h2, h3, h4, h5, h6⟩ := hpp.ok.al.blkOf (a := a) (by rw [f4 a ha]; decide)
        have hb := block_in (i := i) (by omega) ⟨h3, h4⟩ h2
        have hs : slabZ a = (i : Int) + 1 := by
          rw [h6]
          unfold slabZ
          rw [if_pos (by omega)]; omega
        refine ⟨by omega, by omega, by omega⟩
      have hcl := fun i a (h : got[i]? = some a) => r2 i a h
      have HG := hid (⟨hE, hpp, f1, f2, f4, f5⟩ : _ ∧ _ ∧ _ ∧ _ ∧ _ ∧ _)
      have HAL := hid hal
      have HMA := hid hma
      have HF := hid (⟨fun ys h1 h2 => hsame ys h1 h2, f6⟩ : _ ∧ _)
      have HR := hid (⟨hslab, r1, hcl, r4⟩ : _ ∧ _ ∧ _ ∧ _)
      have HIM := hid IM
      have HLQ := hid hgl
      clear hI hma hpp f1 f2 f3 f4 f5 f6 hal hsame hBm r1 r2 r3 r4 hslab hcl IM hmi him hE hgl
      obtain ⟨gl, hgl⟩ : ∃ gl, gl = got.length := ⟨_, rfl⟩
      have hgl20 : gl ≤ 20 := by rw [hgl]; exact Nat.le_trans HLQ.out HQ20.out
      rw [← hgl]
      have HGL := hid hgl
      clear hgl hlt hk
      obtain ⟨il, hil⟩ : ∃ il, il = im.length := ⟨_, rfl⟩
      have SOF := hid (fun p c w6 (q1 : BytesIn w6 p c im) => callsIn_wide.1 (SOf_in p c im n (by have := HN.out; omega) HG.out.2.2.1 w6 q1))
      rw [← hil] at HIM SOF
      clear hil
      go_wp2_with fail
      refine HIM.out.mono ?_
      rintro e w6 ⟨p, c, rfl, q1, q2, q3⟩
      have SO := hid (SOF.out p c w6 q1)
      have HB6 := hid q3
      clear q1 q2 q3
      go_wp2_with fail
      refine SO.out.mono ?_
      rintro e w7 hp
      obtain ⟨B2, V2, rfl, t1⟩ := hp.yes HG.out.2.2.2.1
      have hb7 : Below wr.heap.size wr w7 := HB6.out.trans (hp.bel.mono HB6.out.size)
      have HB7 := hid hb7
      have IS2 := hid (fun X a (hX : Below w7.heap.size w7 X) => (show Calls Tryz.prog 15 #[.pointer (some ⟨B2.s, 0, none⟩), .int .u64 a] X (fun e w' => e = .returned (.int .i64 (isGet (refL im n) a)) ∧ X = w') from by
        have := Is_z w6.heap.size B2 V2 _ (ofTo im n n) a n X (t1.only (Only.of_below hX []) (fun _ _ _ h => by cases h)) (ofTo_hd _ _ _) (by have := HN.out; omega)
        rw [HAL.out.is] at this
        exact this))
      have IS1 := hid (fun X a (hX : Below w7.heap.size w7 X) => (show Calls Tryz.prog 15 #[.pointer (some ⟨B.s, 0, none⟩), .int .u64 a] X (fun e w' => e = .returned (.int .i64 (isGet g.ls a)) ∧ X = w') from by
        have hE' := HG.out.1.below (hb7.trans (hX.mono hb7.size))
        have := Is_z w2.heap.size B V1 _ g.A a n X hE'.work.sl hE'.work.hl hE'.work.hn
        rw [HG.out.2.1.ok.al.is] at this
        exact this))
      have US := hid (fun X (hX : Below w7.heap.size w7 X) => Used_s w6.heap.size B2 V2 _ (ofTo im n n) n X (t1.only (Only.of_below hX []) (fun _ _ _ h => by cases h)) (ofTo_hd _ _ _) (by have := HN.out; omega) (by have := (HAL.out.few (by have := HN.out; omega)).1; omega))
      have LN := hid (fun X (hX : Below w7.heap.size w7 X) => Lines_no m Q M1 X (HG.out.1.below (hb7.trans (hX.mono hb7.size))).work.mem.is (by
        have h1 := HG.out.2.1.nil
        rw [← HMA.out] at h1
        exact List.map_eq_nil_iff.1 h1))
      clear hp t1 hb7
      have HJ0 : Hid (Below w7.heap.size w7 w7) := Below.refl _ _
      go_wp2
      go_loopw [24] (fun iv wr => ∃ i : Nat, i ≤ gl ∧ iv = .int .i64 i ∧ Hid (Below w7.heap.size w7 wr)) (fun iv _ => (gl - (intOf iv).toNat))
      case atStart => exact ⟨0, by omega, rfl, HJ0⟩
      case round =>
        obtain ⟨i, hi, rfl, hJ⟩ := hrel
        by_cases hlt : i < gl
        · have l1 : (i : Int) < (gl : Int) := by omega
          have l0 : (0 : Int) ≤ (i : Int) := by omega
          obtain ⟨a, ha⟩ : ∃ a, got[i]? = some a := ⟨_, List.getElem?_eq_getElem (by rw [← HGL.out]; exact hlt)⟩
          have hp0 : pp = some ⟨gg, 0, none⟩ := HR.out.2.1 (by rw [← HGL.out]; omega)
          subst hp0
          have ham := List.mem_of_getElem? ha
          have hb := HB7.out.trans (hJ.out.mono HB7.out.size)
          have yc : wr.cell? ⟨gg, i, none⟩ = some (.int .u64 a) := (hb.cell (p := ⟨gg, i, none⟩) HR.out.2.2.2).trans (HR.out.2.2.1 i a ha)
          have C2 := IS2.out _ a hJ.out
          have C1 := IS1.out _ a hJ.out
          rw [HG.out.2.2.2.2.2 a ham] at C2
          rw [HG.out.2.2.2.2.1 a ham] at C1
          obtain ⟨s1, s2, s3⟩ := HR.out.1 a ham
          have CS := hid (RSlab_p a wr s1 s2)
          have HC2 := hid C2
          have HC1 := hid C1
          obtain ⟨sl, hsl⟩ : ∃ sl, sl = slabZ a := ⟨_, rfl⟩
          rw [← hsl] at CS s3
          have s4 : (sl == 0) = false := by simp [s3]
          have HLT := hid hlt
          clear ha ham hb C2 C1 s1 s2 s3 hsl hlt hi
          go_wp2_with fail
          refine HC2.out.mono ?_
          rintro e w9 ⟨rfl, rfl⟩
          go_wp2_with fail
          refine HC1.out.mono ?_
          rintro e w9 ⟨rfl, rfl⟩
          go_wp2_with fail
          refine CS.out.mono ?_
          rintro e w9 ⟨rfl, rfl⟩
          go_wp2
          go_roundw
          case rel => exact ⟨i + 1, HLT.out, by go_num, hJ⟩
          case measure => simp [intOf]; have := HLT.out; omega
        · obtain rfl : i = gl := by omega
          have l1 : ¬ (i : Int) < (i : Int) := by omega
          have UX := hid (US.out _ hJ.out)
          have HFB := hid (show ∀ X, Below w7.heap.size w7 X → Below w.heap.size w X from fun X hX => HG.out.1.bel.trans ((HB7.out.trans (hX.mono HB7.out.size)).mono HG.out.1.bel.size))
          clear hlt hi
          go_wp2_with fail
          refine UX.out.mono ?_
          rintro e w9 ⟨⟨vy, ys, rfl, u1, u2, u3⟩, hb9⟩
          have hys := HF.out.1 ys u1 u2
          have hyl : ys.length = i := by rw [hys, HF.out.2, ← HGL.out]
          obtain ⟨ya, yc, rfl⟩ := row_form1 u3
          rw [hyl]
          have HB9 := hid (hJ.out.trans (hb9.mono hJ.out.size))
          clear u1 u2 u3 hb9 hys hyl
          go_wp2_with fail
          refine (LN.out _ HB9.out).mono ?_
          rintro e w10 ⟨⟨la, lc, rfl⟩, hb10⟩
          have HB10 := hid (HB9.out.trans (hb10.mono HB9.out.size))
          clear hb10
          go_wp2_with fail
          refine (known_z13 _).mono ?_
          rintro e w11 ⟨rfl, hb11⟩
          have HB11 := hid (HB10.out.trans (hb11.mono HB10.out.size))
          clear hb11
          go_wp2
          go_ret
          exact ⟨rfl, HFB.out _ HB11.out⟩

end Go.Proofs.YtbkaemajjaiklaaGreat

/- SitePublishes as it is called. -/
namespace Go.Proofs.YtbkaemajjaiklaaGreat
open Go.ChangeShapes Go.WideShapes Go.ChangeAt Go.RowKit Go.Joins Go.Deep
set_option linter.unusedVariables false
set_option linter.unusedSimpArgs false

set_option maxRecDepth 100000 in
theorem open_intsI {H : Type} {enc : TypeId × Value → H} {w : World} {base : Nat} {spare : Nat → Bool} {held : Bool} {r : Reach} {b0 : Nat} {v : Value} {d : DataW H} {p : List MemPlace} (hv : Value.okWide Tryz.prog w r b0 47 v) (h : DataW.Trod enc Tryz.prog w base spare held 47 v d p) :
    ∃ xs : List Int, IntsAt .i64 w v xs ∧ xs.length ≤ 9223372036854775807 := open_nums Tryz.underlying47 Tryz.underlying3 (by kernel_rfl) hv h
theorem IntsAt.most {w : World} {v : Value} {xs : List Int} (h : IntsAt .i64 w v xs) : ∀ x ∈ xs, -9223372036854775808 ≤ x ∧ x ≤ 9223372036854775807 := fun x hx => bounds_i64 (h.le x hx)
theorem SitePublishes_l (slabs : Int) (v : Value) (xs : List Int) (client : Int) (w : World) (b0 : -9223372036854775808 ≤ slabs) (c0 : slabs ≤ 9223372036854775807) (h3 : IntsAt .i64 w v xs) (_ : xs.length ≤ 9223372036854775807) (_ : -9223372036854775808 ≤ client) (_ : client ≤ 9223372036854775807) :
    Calls Tryz.prog 7 #[.int .i64 slabs, v, .int .i64 client] w fun e w' => e = .returned (.bool true) ∧ Below w.heap.size w w' := SitePublishes_z slabs v xs client w b0 c0 h3.nums h3.most

end Go.Proofs.YtbkaemajjaiklaaGreat
