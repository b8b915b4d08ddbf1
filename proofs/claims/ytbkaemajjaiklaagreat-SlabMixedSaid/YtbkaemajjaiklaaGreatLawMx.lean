/- SlabMixed: the walk. -/
import Derived.Test.YtbkaemajjaiklaaGreatLawPl
import Derived.Test.YtbkaemajjaiklaaGreatMixM
namespace Go.Proofs.YtbkaemajjaiklaaGreat
open Go.RowKit
set_option linter.unusedVariables false
set_option linter.unusedSimpArgs false

/-- a game, and what may last of it -/
structure GameL (w : World) (N n K gb : Nat) (g : GA) : Prop where
  out : ∃ l, GameIs w N n K l g ∧ l.gb = gb
  lst : Lst n g
  rng : Rng g.ma
theorem GameL.gok {w : World} {N n K gb : Nat} {g : GA} (h : GameL w N n K gb g) : GOk n g := by
  obtain ⟨l, hl, _⟩ := h.out
  exact hl.gok
theorem GameL.bel {w w' : World} {N n K gb : Nat} {g : GA} (h : GameL w N n K gb g) (hb : Below w.heap.size w w') : GameL w' N n K gb g := by
  obtain ⟨l, hl, e⟩ := h.out
  exact ⟨⟨l, hl.bel hb, e⟩, h.lst, h.rng⟩
theorem GameL.loN {w : World} {N n K gb : Nat} {g : GA} (h : GameL w N n K gb g) : N ≤ w.heap.size := by
  obtain ⟨l, hl, e⟩ := h.out
  exact hl.loN
/-- what an act leaves -/
structure DoL (w : World) (N n K gb : Nat) (g : GA) (kd nn aa cc : Int) (e : Ending) (w' : World) : Prop where
  e : e = .returned (.bool true)
  out : ∃ g', GameL w' N n (K + 1) gb g' ∧ Did n kd nn aa cc g g'
  bel : Below N w w'
theorem doL (N n K gb : Nat) (g : GA) (kd nn aa cc : Int) (w : World) (h : GameL w N n K gb g) (hK : K ≤ 1000000) (ha : 0 ≤ aa ∧ aa ≤ 18446744073709551615) (hnn : nn ≤ 9223372036854775807) :
    Calls Tryz.prog 19 #[.pointer (some ⟨gb, 0, none⟩), .agg #[.int .i64 kd, .int .i64 nn, .int .u64 aa, .int .i64 cc]] w (DoL w N n K gb g kd nn aa cc) := by
  obtain ⟨l, hl, rfl⟩ := h.out
  refine (do_z N n K l g kd nn aa cc w hl hK ha hnn).mono ?_
  rintro e w' ⟨rfl, l', g', hg', hd, hgb', hb⟩
  exact ⟨rfl, ⟨g', ⟨⟨l', hg', hgb'⟩, h.lst.did hl.gok hd, h.rng.did hd⟩, hd⟩, hb⟩
theorem nb3 {c : Nat} (hc : 1 ≤ c ∧ c ≤ 3) : 1 ≤ nb c ∧ nb c ≤ 15 := ⟨nb_pos hc, nb_le c⟩
/-- the game that SlabMixed begins -/
theorem beginMix {bs : List Int} {c u : Nat} (hc : 1 ≤ c ∧ c ≤ 3) (hu : u < 2 ^ nb c) (him : ImgTo bs [(c, u)] 1) : (∀ i, 1 ≤ i → i ≤ 1 → headOK bs i = true) ∧ (refC bs 1).getD 0 0 = (c : Int) ∧ (∀ j, u.testBit j = true → j < nb c) ∧ (UniqA (refL bs 1) → ∀ j, j < nb c → isGet (refL bs 1) (Bk c j) = if u.testBit j then 2 else 0) ∧ (UniqA (refL bs 1) → ∀ a, a ∈ usedI (refL bs 1) ↔ ∃ j, j < nb c ∧ u.testBit j = true ∧ a = Bk c j) := by
  obtain ⟨e1, e2⟩ := him.ok 0 (by show 0 < 1; decide) (by decide)
  have e1' : clsAt bs 1 = c := e1
  have e2' : bitAt bs 1 = u := e2
  have hbit : ∀ j, u.testBit j = true → j < nb c := fun j hj => by
    apply Classical.byContradiction
    intro hn
    have : (2 : Nat) ^ nb c ≤ 2 ^ j := Nat.pow_le_pow_right (by decide) (by omega)
    rw [Nat.testBit_lt_two_pow (Nat.lt_of_lt_of_le hu this)] at hj
    cases hj
  have hmem : ∀ p : Int × Int, p ∈ refL bs 1 ↔ p.2 = 2 ∧ ∃ j, u.testBit j = true ∧ p.1 = Bk c j := fun p => by
    rw [refL_mem]
    constructor
    · rintro ⟨h2, i, j, i1, i2, hj, hb, h1⟩
      obtain rfl : i = 1 := by omega
      rw [e2'] at hb
      rw [e1'] at h1
      exact ⟨h2, j, hb, h1⟩
    · rintro ⟨h2, j, hb, h1⟩
      have := nb_le c
      have := hbit j hb
      exact ⟨h2, 1, j, by decide, by decide, by omega, by rw [e2']; exact hb, by rw [e1']; exact h1⟩
  refine ⟨fun i i1 i2 => ?_, ?_, hbit, fun hq j hj => ?_, fun hq a => ?_⟩
  · obtain rfl : i = 1 := by omega
    unfold headOK
    rw [e1', e2', Bool.and_eq_true]
    refine ⟨decide_eq_true hc.2, mayBits_all fun j _ hj => ?_⟩
    have := hbit j hj
    have := nb_eq c
    omega
  · show ((clsAt bs 1 : Nat) : Int) = _
    rw [e1']
  · cases hu' : u.testBit j with
    | true => exact hq.get ((hmem _).2 ⟨rfl, j, hu', rfl⟩)
    | false =>
      apply Classical.byContradiction
      intro hne
      have hne' : isGet (refL bs 1) (Bk c j) ≠ 0 := hne
      obtain ⟨_, j', hb, e⟩ := (hmem _).1 (isGet_mem hne' rfl)
      have := Bk_inj hc hj (hbit j' hb) e
      subst this
      rw [hb] at hu'; cases hu'
  · unfold usedI
    rw [(fold_ins (usedL (refL bs 1)) [] List.Pairwise.nil).2, usedL_mem hq]
    constructor
    · rintro (h | h)
      · have hne : isGet (refL bs 1) a ≠ 0 := by omega
        obtain ⟨_, j, hb, e⟩ := (hmem _).1 (isGet_mem hne rfl)
        exact ⟨j, hbit j hb, hb, e⟩
      · cases h
    · rintro ⟨j, hj, hb, rfl⟩
      exact Or.inl (Or.inl (hq.get ((hmem _).2 ⟨rfl, j, hb, rfl⟩)))
theorem GameIs.upTo {w : World} {N n K K' : Nat} {l : GL} {g : GA} (h : GameIs w N n K l g) (hk : K ≤ K') : GameIs w N n K' l g := { h with work := { h.work with mem := h.work.mem.mono hk } }
/-- while blocks are given back: R is what their row lies in -/
structure Mx1 (w wR : World) (N gb c u : Nat) (gone : List Int) (vg : Value) (k : Nat) (W : World) : Prop where
  g : ∃ l g, GameIs W N 1 k l g ∧ l.gb = gb ∧ MixA c u gone k g ∧ g.T.length = k ∧ ∀ b, vg.ownBlock = some b → ∀ p, b ∉ l.F g.T p
  row : ∀ b, vg.ownBlock = some b → W.heap[b]? = wR.heap[b]?
  sz : wR.heap.size ≤ W.heap.size
  bel : Below w.heap.size w W
/-- while others are published, or turns go on -/
structure Mx2 (w : World) (N gb c u : Nat) (W : World) : Prop where
  g : ∃ l g, GameIs W N 1 g.T.length l g ∧ l.gb = gb ∧ MixB c u g
  bel : Below w.heap.size w W
structure Mx3 (w : World) (N gb c u k : Nat) (W : World) : Prop where
  g : ∃ l g, GameIs W N 1 (15 + k) l g ∧ l.gb = gb ∧ MixC c u g ∧ pot g.T ≤ 60
  bel : Below w.heap.size w W
structure Mx4 (w : World) (N gb c u m k : Nat) (W : World) : Prop where
  g : ∃ l g, GameIs W N 1 (15 + m + k) l g ∧ l.gb = gb ∧ MixC c u g ∧ (g.T = [] ∨ pot g.T + k ≤ 60)
  bel : Below w.heap.size w W
def lenAt (W : World) (gb : Nat) : Nat := match W.cell? ⟨gb, 3, none⟩ with | some (.slice _ n _) => n | _ => 0
theorem lenAt_game {W : World} {N n K : Nat} {l : GL} {g : GA} (h : GameIs W N n K l g) : lenAt W l.gb = g.T.length := by
  have y := h.gblk.cell 3
  obtain ⟨a, cp, e⟩ := row_form1 h.row
  have y' : W.cell? ⟨l.gb, 3, none⟩ = some l.vT := y
  unfold lenAt
  rw [y', e]
theorem cell_heap {W W' : World} {b i : Nat} (h : W'.heap[b]? = W.heap[b]?) : W'.cell? ⟨b, i, none⟩ = W.cell? ⟨b, i, none⟩ := by
  unfold World.cell?
  simp [h]

set_option maxRecDepth 100000 in
set_option maxHeartbeats 8000000 in
theorem SlabMixed_z (cls used : Int) (v : Value) (xs : List Int) (w : World) (hc0 : -9223372036854775808 ≤ cls ∧ cls ≤ 9223372036854775807) (hu0 : 0 ≤ used ∧ used ≤ 18446744073709551615) (hv : NumsAt .i64 w v xs) (hxs : ∀ x ∈ xs, x ≤ 9223372036854775807) :
    Calls Tryz.prog 5 #[.int .i64 cls, .int .u64 used, v] w fun e w' => e = .returned (.bool true) ∧ Below w.heap.size w w' := by
  obtain ⟨c, hc⟩ : ∃ c : Nat, (c : Int) = 1 + (cls % 18446744073709551616) % 3 := ⟨(1 + (cls % 18446744073709551616) % 3).toNat, by omega⟩
  have hc3 : 1 ≤ c ∧ c ≤ 3 := by omega
  have ecls := hid (show wrap64 (1 + wrap64 ((IntKind.u64.wrap cls).tmod 3)) = (c : Int) by
    have h0 : IntKind.u64.wrap cls = cls % 18446744073709551616 := rfl
    rw [h0, Int.tmod_eq_emod_of_nonneg (by omega), hc]
    have h1 : wrap64 (cls % 18446744073709551616 % 3) = cls % 18446744073709551616 % 3 := by unfold wrap64; omega
    rw [h1]
    unfold wrap64; omega)
  obtain ⟨vo, vcap, rfl, hva⟩ := hv
  have HBZ := hid (RBlocks_z (c : Int))
  have hnb := nb_eq c
  rw [← hnb] at HBZ
  obtain ⟨q, hq⟩ : ∃ q, q = nb c := ⟨_, rfl⟩
  have hq3 := nb3 hc3
  rw [← hq] at HBZ hnb hq3
  obtain ⟨P, hP⟩ : ∃ P : Nat, P = 2 ^ q := ⟨_, rfl⟩
  have hPp : 0 < P := by rw [hP]; exact Nat.pow_pos (by decide)
  have hPl : P ≤ 32768 := by rw [hP]; exact Nat.pow_le_pow_right (by decide) hq3.2
  have hsh : IntKind.u64.wrap (2 ^ q) = (P : Int) := by
    have e : (2 : Int) ^ q = (P : Int) := by rw [hP, Int.natCast_pow]; rfl
    rw [e]
    exact IntWalk.u64_in _ ⟨by omega, by omega⟩
  have hP0 : ¬ P = 0 := by omega
  obtain ⟨u, hu⟩ : ∃ u : Nat, (u : Int) = used % (P : Int) := ⟨(used % (P : Int)).toNat, by have := Int.emod_nonneg used (show (P : Int) ≠ 0 by omega); omega⟩
  have huP : u < P := by have := Int.emod_lt_of_pos used (show (0 : Int) < (P : Int) by omega); omega
  have hux : used % (P : Int) = (u : Int) := hu.symm
  have HU := hid (⟨hq, hP, huP, hPl⟩ : _ ∧ _ ∧ _ ∧ _)
  obtain ⟨m, hm⟩ : ∃ m, m = xs.length := ⟨_, rfl⟩
  rw [← hm]
  have HCI := hid hc
  have HM := hid hm
  have HVA := hid hva
  have HC3 := hid hc3
  clear hc hm hva hc3 hnb hq hP hu huP hPl
  go_enter Tryz.func5, Tryz.ntmps5
  go_upto_region 2 with fail
  rw [ecls.out]
  go_wp2_with fail
  refine (HBZ.out _).mono ?_
  rintro e w1 ⟨rfl, rfl⟩
  go_upto_region 4 with fail
  rw [hux]
  by_cases hm300 : m > 300
  · have i1 : (m : Int) > 300 := by omega
    clear hm300
    go_wp2_with fail
    refine (known6_z _).mono ?_
    rintro e w2 ⟨rfl, hb⟩
    have HB := hid hb
    clear hb
    go_wp2
    go_ret
    exact ⟨rfl, HB.out⟩
  have i1 : ¬ (m : Int) > 300 := by omega
  have HM300 := hid hm300
  have hcw : IntKind.u64.wrap (c : Int) = (c : Int) := IntWalk.u64_in _ ⟨by omega, by have := HC3.out; omega⟩
  obtain ⟨W0, hW0⟩ : ∃ W0, W0 = w.alloc (.cells #[.int .u64 (c : Int), .int .u64 (u : Int)] 50) := ⟨_, rfl⟩
  have hb0 : Below w.heap.size w W0 := by rw [hW0]; exact ba (Below.refl _ _) _
  have bx : Blk W0 w.heap.size 50 #[.int .u64 (c : Int), .int .u64 (u : Int)] := by rw [hW0]; exact Blk.new _ _ _
  have hH : HeadsAt W0 (.slice (some ⟨w.heap.size, 0, none⟩) 1 1) [(c, u)] := by
    refine ⟨⟨some ⟨w.heap.size, 0, none⟩, 1, rfl, Or.inr ⟨w.heap.size, 0, rfl, bx.lt, fun i hi => ?_⟩⟩, fun x hx => ?_⟩
    · have : i = 0 := by simp at hi; omega
      subst this
      exact ⟨bx.cell 0, bx.cell 1⟩
    · rw [List.mem_singleton.1 hx]
      have := HU.out
      have := HC3.out
      exact ⟨by show c < _; omega, by show u < _; omega⟩
  have HI := hid (image_z (.slice (some ⟨w.heap.size, 0, none⟩) 1 1) [(c, u)] 0 (by decide) (by show 1 ≤ 6; decide) W0 hH)
  have HB0 := hid hb0
  have HW0 := hid hW0
  clear hb0 bx hH hW0 hm300
  go_upto_region 6 with fail
  go_wp2_with fail
  rw [show w.alloc (.cells #[.int .u64 (c : Int), .int .u64 (u : Int)] 50) = W0 from HW0.out.symm]
  refine HI.out.mono ?_
  rintro e w2 ⟨gg, bs, rfl, hbk, him, hlo, hb2⟩
  have hmix := beginMix HC3.out (by have := HU.out; rw [← this.1, ← this.2.1]; exact this.2.2.1) him
  have hlen := him.len
  have hG := gbegin_z (some ⟨gg, 0, none⟩) bs.length bs 1 (by decide) hlen (by rw [hlen]; show 1024 * (1 + 1) ≤ _; decide) hmix.1 w2 (bytesOfG hbk him.byt)
  have hL0 := Lst.begin (n := 1) (by decide) hlen him.byt hmix.1
  have hR0 := Rng.begin (n := 1) him.byt
  have HMX := hid hmix
  have HLR := hid (⟨hL0, hR0⟩ : _ ∧ _)
  have HB2 := hid (HB0.out.trans (hb2.mono HB0.out.size))
  have HG := hid hG
  clear hmix hG hL0 hR0 hb2 hlen him hbk hlo
  go_wp2_with fail
  refine HG.out.mono ?_
  rintro e w3 ⟨l, rfl, hgm, hb3⟩
  have hgok := hgm.gok
  have hone : One c (beginG bs 1) := ⟨hgok, HLR.out.1, HLR.out.2, HC3.out, HMX.out.2.1⟩
  have hul := hgok.al.ul
  have WU := WUsed_r w2.heap.size l.wd _ (refC bs 1) (refL bs 1) l.vC l.vL w3 hgm.wo (by have := hgm.fewT.2; have e : (beginG bs 1).ls = refL bs 1 := rfl; rw [e] at this; omega) (fun x hx => by
    have hne := (hgok.al.blk x hx)
    obtain ⟨_, _, i, j, c', h2, h3, h4, h5, _, h6⟩ := hne
    rw [h6]
    exact block_ne (by omega) ⟨h4, h5⟩ h3)
  have HWU := hid WU
  have y2 : w3.cell? ⟨l.gb, 2, none⟩ = some (.pointer (some ⟨l.wd, 0, none⟩)) := hgm.gblk.cell 2
  have HGM := hid (⟨hgm, hone⟩ : _ ∧ _)
  have HB3 := hid hb3
  obtain ⟨gb, hgb⟩ : ∃ gb, gb = l.gb := ⟨_, rfl⟩
  rw [← hgb] at y2 ⊢
  have HGB := hid hgb
  have HUL := hid hul
  clear hgm hone hul WU hb3 hgok hgb
  go_wp2_with fail
  refine HWU.out.mono ?_
  rintro e w4 ⟨⟨vg, rfl, hrow⟩, hb4⟩
  obtain ⟨gone, hgo⟩ : ∃ gone, gone = usedI (refL bs 1) := ⟨_, rfl⟩
  rw [← hgo] at hrow
  have hgm4 := HMX.out.2.2.2.2 HUL.out
  rw [← hgo] at hgm4
  have hgnd : gone.Nodup := by
    rw [hgo]; unfold usedI
    exact (fold_ins (usedL (refL bs 1)) [] List.Pairwise.nil).1.imp (fun h => by omega)
  obtain ⟨ga, gc, rfl⟩ := row_form1 hrow
  have hblk : ∀ b, (Value.slice ga gone.length gc).ownBlock = some b → w3.heap.size ≤ b ∧ b < w4.heap.size := fun b hb => ⟨own_base hrow b hb, own_lt hrow b hb⟩
  have hcell : ∀ i a, gone[i]? = some a → ∃ b, ga = some ⟨b, 0, none⟩ ∧ w4.cell? ⟨b, i, none⟩ = some (.int .u64 a) := by
    obtain ⟨vo', cp', hv', hh⟩ := NumsAt.of_own (k := .u64) hrow
    injection hv' with h1 h2 h3
    intro i a hi
    rcases hh with h0 | ⟨b, off, hao, hbl, hh⟩
    · rw [h0] at hi; cases hi
    · have hrf := hrow.2
      rcases hrf with ⟨hq, _⟩ | ⟨b2, cp2, cur, hq, q2, q3, q4, q5, q6, q7⟩
      · injection hq with hq; rw [h1, hao] at hq; cases hq
      · injection hq with hq _ _
        have hbb : b2 = b ∧ off = 0 := by
          rw [h1, hao] at hq
          injection hq with hq
          injection hq with hq1 hq2
          exact ⟨hq1.symm, hq2⟩
        obtain ⟨rfl, rfl⟩ := hbb
        refine ⟨b2, by rw [h1, hao], ?_⟩
        have := hh i a hi
        rw [Nat.zero_add] at this
        exact this
  have hx1 : Mx1 w w4 w2.heap.size gb c u gone (.slice ga gone.length gc) 0 w4 := by
    have hg4 := HGM.out.1.bel hb4
    refine ⟨⟨l, beginG bs 1, hg4, HGB.out.symm, ⟨HGM.out.2, fun j hj => ?_, fun x hx => by cases hx⟩, rfl, fun b hb p hp => ?_⟩, fun b hb => rfl, Nat.le_refl _, (HB2.out.trans (HB3.out.mono HB2.out.size)).trans (hb4.mono (Nat.le_trans HB2.out.size HB3.out.size))⟩
    · have := HMX.out.2.2.2.1 HUL.out j hj
      rw [List.take_zero, if_neg (List.not_mem_nil)]
      exact this
    · have := (hblk b hb).1
      have := HGM.out.1.sep.lt p b hp
      omega
  have HX1 := hid hx1
  have HGO := hid (⟨hgm4, hgnd, hcell⟩ : _ ∧ _ ∧ _)
  have HBLK := hid hblk
  obtain ⟨gl, hgl⟩ : ∃ gl, gl = gone.length := ⟨_, rfl⟩
  have HGL := hid hgl
  rw [← hgl] at HX1 HBLK ⊢
  have hgl15 := hid (show gone.length ≤ 15 by
    have := len_in gone ((List.range (nb c)).map fun j => Bk c j) hgnd (fun a ha => by
      obtain ⟨j, hj, _, e⟩ := (hgm4 a).1 ha
      exact List.mem_map.2 ⟨j, List.mem_range.2 hj, e.symm⟩)
    rw [List.length_map, List.length_range] at this
    have := nb_le c
    omega)
  have hglb : gl ≤ 15 := by rw [hgl]; exact hgl15.out
  clear hgm4 hgnd hcell hblk hx1 hrow hb4 y2 hgo hgl
  go_wp2
  go_loopw [11] (fun iv wr => ∃ k : Nat, k ≤ gl ∧ iv = .int .i64 k ∧ Hid (Mx1 w w4 w2.heap.size gb c u gone (.slice ga gl gc) k wr)) (fun iv _ => (gl - (intOf iv).toNat))
  case atStart => exact ⟨0, by omega, rfl, HX1⟩
  case round =>
    obtain ⟨k, hk, rfl, hI⟩ := hrel
    by_cases hlt : k < gl
    · have j1 : (k : Int) < (gl : Int) := by omega
      have j0 : (0 : Int) ≤ (k : Int) := by omega
      have HLT := hid hlt
      obtain ⟨a, ha⟩ : ∃ a, gone[k]? = some a := ⟨_, List.getElem?_eq_getElem (by rw [← HGL.out]; exact hlt)⟩
      obtain ⟨b, rfl, hcb⟩ := HGO.out.2.2 k a ha
      have hcr : wr.cell? ⟨b, k, none⟩ = some (.int .u64 a) := (cell_heap (hI.out.row b rfl)).trans hcb
      obtain ⟨l', g, hg, hgb', hma, hTl, hno⟩ := hI.out.g
      obtain ⟨j, hj, huj, haj⟩ := (HGO.out.1 a).1 (List.mem_of_getElem? ha)
      have hga : isGet g.ls a = 2 := by
        rw [haj, hma.st j hj, huj, if_pos rfl, if_neg]
        intro hm
        obtain ⟨t, ht, e⟩ := List.mem_iff_getElem.1 hm
        rw [List.length_take] at ht
        rw [List.getElem_take] at e
        obtain ⟨hk', hak⟩ := List.getElem?_eq_some_iff.1 ha
        have := (List.getElem_inj (h₀ := by omega) (h₁ := hk') HGO.out.2.1).1 (e.trans (haj.symm.trans hak.symm))
        omega
      have har : 0 ≤ a ∧ a ≤ 18446744073709551615 := by
        obtain ⟨_, _, _, _, _, _, _, _, _, _, _, _, p10, p11⟩ := hg.at (a := a) (by rw [hga]; decide)
        omega
      have FR := do_freK w2.heap.size 1 k l' g 4 (-1) a 0 wr hg (by have := hgl15.out; have := HGL.out; omega) rfl (by decide) (by rw [blkG_A]; exact hga) har
      rw [hgb'] at FR
      have HFR := hid FR
      have HAJ := hid (⟨ha, hma, hTl, hno, hg.loN⟩ : _ ∧ _ ∧ _ ∧ _ ∧ _)
      have HGBP := hid hgb'
      clear hlt hk ha hcb hg hgb' hma hTl hno hj huj haj hga har FR
      go_wp2_with fail
      refine HFR.out.mono ?_
      rintro e w5 ⟨rfl, l2, g2, hg2, hd2, hgb2, hbl2, hk2⟩
      have hnx := HAJ.out.2.1.next hg2.gok (HAJ.out.2.1.one.lst.did HAJ.out.2.1.one.ok hd2) (HAJ.out.2.1.one.rng.did hd2) HAJ.out.1 HGO.out.2.1 (fun a ha => by
        obtain ⟨j, h1, h2, h3⟩ := (HGO.out.1 a).1 ha
        exact ⟨j, h1, h2, h3⟩) hd2
      have hQ : Mx1 w w4 w2.heap.size gb c u gone (.slice (some ⟨b, 0, none⟩) gl gc) (k + 1) w5 := by
        have lt : ∀ b', (Value.slice (some ⟨b, 0, none⟩) gl gc).ownBlock = some b' → b' < wr.heap.size := fun b' hb => Nat.lt_of_lt_of_le (HBLK.out b' hb).2 hI.out.sz
        exact ⟨⟨l2, g2, hg2, hgb2, hnx.1, by rw [hnx.2, HAJ.out.2.2.1], fun b' hb p => (hk2 b' (lt b' hb) (HAJ.out.2.2.2.1 b' hb)).2 p⟩, fun b' hb => (hk2 b' (lt b' hb) (HAJ.out.2.2.2.1 b' hb)).1.trans (hI.out.row b' hb), Nat.le_trans hI.out.sz hbl2.size, hI.out.bel.trans (hbl2.mono HB2.out.size)⟩
      have HQ := hid hQ
      clear hg2 hd2 hgb2 hbl2 hk2 hnx hQ
      go_wp2
      go_roundw
      case rel => exact ⟨k + 1, HLT.out, by go_num, HQ⟩
      case measure => simp [intOf]; have := HLT.out; omega
    · obtain rfl : k = gl := by omega
      have j1 : ¬ (k : Int) < (k : Int) := by omega
      have HX2 : Hid (Mx2 w w2.heap.size gb c u wr) := by
        obtain ⟨l', g, hg, hgb', hma, hTl, _⟩ := hI.out.g
        refine ⟨⟨l', g, by rw [hTl]; exact hg, hgb', hma.toB (by rw [← HGL.out]; exact Nat.le_refl _) (fun j hj hu => (HGO.out.1 _).2 ⟨j, hj, hu, rfl⟩)⟩, hI.out.bel⟩
      clear hlt hk hI HX1 hglb j1
      go_wp2
      go_loopw [12] (fun av wr => Hid (Mx2 w w2.heap.size gb c u wr)) (fun _ wr => 20 - lenAt wr gb)
      case atStart => exact HX2
      case round =>
        obtain ⟨l', g, hg, hgb', hmb⟩ := hrel.out.g
        have hc3 := HC3.out
        have HRM := hid (WRoom_r w2.heap.size l'.wd _ g.cs g.ls l'.vC l'.vL c wr hg.wo hc3 (by have := hg.fewT.2; omega) (by have := hg.al.cl; omega))
        have y2 : wr.cell? ⟨gb, 2, none⟩ = some (.pointer (some ⟨l'.wd, 0, none⟩)) := by rw [← hgb']; exact hg.gblk.cell 2
        obtain ⟨rm, hrm⟩ : ∃ rm, rm = roomW g.cs g.ls c g.cs.length := ⟨_, rfl⟩
        rw [← hrm] at HRM
        have HP := hid (⟨hg, hgb', hmb, hrm⟩ : _ ∧ _ ∧ _ ∧ _)
        have HREL := hid hrel.out.bel
        clear hg hgb' hmb hrm hc3 hrel
        by_cases h0 : rm = 0
        · have H0 := hid h0
          have p0 : ¬ 0 < rm := by omega
          clear h0
          go_wp2_with fail
          refine HRM.out.mono ?_
          rintro e w5 ⟨rfl, hb5⟩
          have HX3 : Hid (Mx3 w w2.heap.size gb c u 0 w5) := by
            have hb0 := HP.out.2.2.1.toC (HP.out.2.2.1.one.noRoom (by rw [← HP.out.2.2.2]; exact H0.out))
            have ht := HP.out.2.2.1.one.turns
            have hup := (HP.out.1.bel hb5).upTo (K' := 15 + 0) (by omega)
            exact ⟨⟨l', g, hup, HP.out.2.1, hb0, by have := pot_le g.T; omega⟩, HREL.out.trans (hb5.mono HREL.out.size)⟩
          clear hb5
          go_wp2
          go_loopw [16] (fun iv wr => ∃ k : Nat, k ≤ m ∧ iv = .int .i64 k ∧ Hid (Mx3 w w2.heap.size gb c u k wr)) (fun iv _ => (m - (intOf iv).toNat))
          case atStart => exact ⟨0, by omega, rfl, HX3⟩
          case round =>
            obtain ⟨k3, hk3, rfl, hI3⟩ := hrel
            by_cases hlt3 : k3 < m
            · have j1 : (k3 : Int) < (m : Int) := by omega
              have j0 : (0 : Int) ≤ (k3 : Int) := by omega
              have HLT3 := hid hlt3
              obtain ⟨x, hx⟩ : ∃ x, xs[k3]? = some x := ⟨_, List.getElem?_eq_getElem (by rw [← HM.out]; exact hlt3)⟩
              obtain ⟨b, off, hvo, hbl, hcl⟩ := HVA.out.resolve_left (fun e => by rw [e] at hx; cases hx)
              subst hvo
              have hcx : wr.cell? ⟨b, off + k3, none⟩ = some (.int .i64 x) := (hI3.out.bel.cell (p := ⟨b, off + k3, none⟩) hbl).trans (hcl k3 x hx)
              obtain ⟨l3, g3, hg3, hgb3, hm3, hp3⟩ := hI3.out.g
              have DZ := do_z w2.heap.size 1 (15 + k3) l3 g3 5 x 0 0 wr hg3 (by have := HM300.out; omega) (by decide) (hxs x (List.mem_of_getElem? hx))
              rw [hgb3] at DZ
              have HDZ := hid DZ
              have H3 := hid (⟨hm3, hp3, hgb3⟩ : _ ∧ _ ∧ _)
              clear hx hbl hcl hg3 hgb3 hm3 hp3 DZ hlt3 hk3
              go_wp2_with fail
              refine HDZ.out.mono ?_
              rintro e w5 ⟨rfl, l5, g5, hg5, hd5, hgb5, hbl5⟩
              have HN3 : Hid (Mx3 w w2.heap.size gb c u (k3 + 1) w5) := by
                have hl5 := H3.out.1.one.lst.did H3.out.1.one.ok hd5
                have hr5 := H3.out.1.one.rng.did hd5
                obtain ⟨n1, n2⟩ := H3.out.1.next hg5.gok hl5 hr5 (did_step hd5)
                refine ⟨⟨l5, g5, hg5, hgb5.trans H3.out.2.2, n1, ?_⟩, hI3.out.bel.trans (hbl5.mono HB2.out.size)⟩
                have := H3.out.2.1
                rcases n2 with ⟨_, e⟩ | e
                · rw [e]; decide
                · omega
              clear hg5 hd5 hgb5 hbl5
              go_wp2
              go_roundw
              case rel => exact ⟨k3 + 1, HLT3.out, by go_num, HN3⟩
              case measure => simp [intOf]; have := HLT3.out; omega
            · obtain rfl : k3 = m := by omega
              have j1 : ¬ (k3 : Int) < (k3 : Int) := by omega
              have HX4 : Hid (Mx4 w w2.heap.size gb c u k3 0 wr) := by
                obtain ⟨l3, g3, hg3, hgb3, hm3, hp3⟩ := hI3.out.g
                exact ⟨⟨l3, g3, hg3, hgb3, hm3, Or.inr hp3⟩, hI3.out.bel⟩
              clear hlt3 hk3 hI3 HX3
              go_wp2
              go_loopw [17] (fun iv wr => ∃ i : Nat, i ≤ 60 ∧ iv = .int .i64 i ∧ Hid (Mx4 w w2.heap.size gb c u k3 i wr)) (fun iv _ => (400 - (intOf iv).toNat))
              case atStart => exact ⟨0, by omega, rfl, HX4⟩
              case round =>
                obtain ⟨i4, hi4, rfl, hI4⟩ := hrel
                have i400 : (i4 : Int) < 400 := by omega
                obtain ⟨l4, g4, hg4, hgb4, hm4, hp4⟩ := hI4.out.g
                have f4 : ∃ a cp, l4.vT = .slice a g4.T.length cp := row_form1 hg4.row
                obtain ⟨va, vcp, hvT⟩ := f4
                obtain ⟨tl, htl⟩ : ∃ tl, tl = g4.T.length := ⟨_, rfl⟩
                rw [← htl] at hvT
                have y3 : wr.cell? ⟨gb, 3, none⟩ = some (.slice va tl vcp) := by rw [← hgb4, ← hvT]; exact hg4.gblk.cell 3
                have H4 := hid (⟨hg4, hgb4, hm4, hp4, htl⟩ : _ ∧ _ ∧ _ ∧ _ ∧ _)
                clear hg4 hgb4 hm4 hp4 htl hvT
                by_cases ht0 : tl = 0
                · subst ht0
                  have hT0 : g4.T = [] := List.length_eq_zero_iff.1 H4.out.2.2.2.2.symm
                  have hone := H4.out.2.2.1.one
                  have him4 : l4.M.image = g4.ma.image := congrArg MA.image H4.out.1.ma
                  have hdone := H4.out.2.2.1.done hT0 HMX.out.2.2.1 (by have := HU.out.2.2; omega)
                  have IMG := hid (Image_z l4.m l4.Q l4.M wr H4.out.1.work.mem.is (fun x hx => by rw [him4] at hx; exact hone.rng.im x hx))
                  rw [him4] at IMG
                  obtain ⟨hil, _⟩ := hone.lst.image hone.ok hone.rng
                  obtain ⟨bz, hbz⟩ : ∃ bz, bz = bytesW g4.ma.image := ⟨_, rfl⟩
                  rw [← hbz] at IMG hdone hil
                  obtain ⟨bl, hbl⟩ : ∃ bl, bl = bz.length := ⟨_, rfl⟩
                  have y0 : wr.cell? ⟨gb, 0, none⟩ = some (.pointer (some ⟨l4.m, 0, none⟩)) := by rw [← H4.out.2.1]; exact H4.out.1.gblk.cell 0
                  rw [← hbl] at IMG
                  have HD := hid (⟨hdone, hil, hbl⟩ : _ ∧ _ ∧ _)
                  clear hT0 him4 hdone hil hbz hbl hone HX4
                  go_wp2_with fail
                  refine IMG.out.mono ?_
                  rintro e w5 ⟨pz, cz, rfl, hz, _, hb5⟩
                  have RO := ROf_r pz cz bz 1 (by decide) HD.out.2.1 w5 hz
                  rw [← HD.out.2.2] at RO
                  have HRO := hid RO
                  have HB5 := hid hb5
                  clear RO hz hb5 y0
                  go_wp2_with fail
                  refine HRO.out.mono ?_
                  rintro e w6 hq6
                  obtain ⟨ow, oC, oL, rfl, hwo⟩ := hq6.yes HD.out.1.1
                  obtain ⟨oa, oc, rfl⟩ := row_form1 hwo.rl
                  have H6 := hid (H4.out.1.bel (HB5.out.trans (hq6.bel.mono HB5.out.size)))
                  obtain ⟨U, hU⟩ : ∃ U, U = usedI g4.ls := ⟨_, rfl⟩
                  have hU2 : usedI (refL bz 1) = U := HD.out.1.2.1.trans hU.symm
                  obtain ⟨rl, hrl⟩ : ∃ rl, rl = (refL bz 1).length := ⟨_, rfl⟩
                  have hlsl := H6.out.fewT.2
                  have hal := ofTo_alike bz 1 (by decide) HD.out.1.1 1 (Nat.le_refl _)
                  have WO := hid (fun (X : World) (hb : Below w6.heap.size w6 X) => show Calls Tryz.prog 21 #[.pointer (some ⟨ow, 0, none⟩)] X fun e w' => (∃ v, e = .returned v ∧ NumsAt .u64 w' v U) ∧ Below X.heap.size X w' from by
                    refine (WUsed_r w5.heap.size ow _ (refC bz 1) (refL bz 1) oC _ X (hwo.bel hb) (by have := refL_len bz 1; omega) (fun x hx => by
                      obtain ⟨_, _, i, j, c', h2, h3, h4, h5, _, h6⟩ := hal.blk x hx
                      rw [h6]
                      exact block_ne (by omega) ⟨h4, h5⟩ h3)).mono ?_
                    rintro e x2 ⟨⟨vb, rfl, p3⟩, hb2⟩
                    rw [hU2] at p3
                    exact ⟨⟨vb, rfl, NumsAt.of_own p3⟩, hb2⟩)
                  have WG := hid (fun (X : World) (hb : Below w6.heap.size w6 X) => show Calls Tryz.prog 21 #[.pointer (some ⟨l4.wd, 0, none⟩)] X fun e w' => (∃ v, e = .returned v ∧ NumsAt .u64 w' v U) ∧ Below X.heap.size X w' from by
                    refine (WUsed_r w2.heap.size l4.wd _ g4.cs g4.ls l4.vC l4.vL X (H6.out.bel hb).wo (by omega) (fun x hx => by
                      obtain ⟨_, _, i, j, c', h2, h3, h4, h5, _, h6⟩ := H6.out.al.blk x hx
                      rw [h6]
                      exact block_ne (by omega) ⟨h4, h5⟩ h3)).mono ?_
                    rintro e x2 ⟨⟨vb, rfl, p3⟩, hb2⟩
                    rw [← hU] at p3
                    exact ⟨⟨vb, rfl, NumsAt.of_own p3⟩, hb2⟩)
                  have hUl : U.length ≤ 1000000000 := by
                    have h1 := usedI_len g4.ls g4.ls.length
                    rw [List.take_length, ← hU] at h1
                    omega
                  have HUL2 := hid hUl
                  have hu64 : u < 18446744073709551616 := by have := HU.out.2.2; omega
                  obtain ⟨sb, hsb⟩ : ∃ sb, sb = (setBits u).length := ⟨_, rfl⟩
                  have BI := hid (fun (X : World) => show Calls Tryz.prog 27 #[.int .u64 (u : Int)] X fun e w' => (∃ a cp, e = .returned (.slice a sb cp)) ∧ Below X.heap.size X w' from by
                    refine (RBits_r u hu64 X).mono ?_
                    rintro e x2 ⟨v, rfl, p3, hb2⟩
                    obtain ⟨a, cp, rfl⟩ := row_form1 p3
                    rw [← hsb]
                    exact ⟨⟨a, cp, rfl⟩, hb2⟩)
                  have hsub : IntKind.i64.wrap ((q : Int) - (sb : Int)) = (rl : Int) := by
                    have h1 := HD.out.1.2.2
                    rw [← hrl, ← hsb, ← HU.out.1] at h1
                    rw [← h1]
                    exact IntWalk.i64_in _ ⟨by omega, by have := HU.out; have := nb_le c; omega⟩
                  have heq : ((rl : Int) == (rl : Int)) = true := by simp
                  have y3' : w6.cell? ⟨gb, 3, none⟩ = some (.slice va 0 vcp) := (hq6.bel.cell (p := ⟨gb, 3, none⟩) (Nat.lt_of_lt_of_le (World.block_lt_of_cell? wr _ y3) HB5.out.size)).trans ((HB5.out.cell (p := ⟨gb, 3, none⟩) (World.block_lt_of_cell? wr _ y3)).trans y3)
                  have y2' : w6.cell? ⟨gb, 2, none⟩ = some (.pointer (some ⟨l4.wd, 0, none⟩)) := by rw [← H4.out.2.1]; exact H6.out.gblk.cell 2
                  have yo : w6.cell? ⟨ow, 2, none⟩ = some (.slice oa rl oc) := by rw [hrl]; exact hwo.blk.cell 2
                  have HL := hid (⟨World.block_lt_of_cell? w6 _ y2', hwo.blk.lt⟩ : gb < w6.heap.size ∧ ow < w6.heap.size)
                  have HB6 := hid (hI4.out.bel.trans ((HB5.out.trans (hq6.bel.mono HB5.out.size)).mono hI4.out.bel.size))
                  have B0 : Below w6.heap.size w6 w6.drew := belDrew _
                  have z3d : w6.drew.cell? ⟨gb, 3, none⟩ = some (.slice va 0 vcp) := y3'
                  have z2d : w6.drew.cell? ⟨gb, 2, none⟩ = some (.pointer (some ⟨l4.wd, 0, none⟩)) := y2'
                  have zod : w6.drew.cell? ⟨ow, 2, none⟩ = some (.slice oa rl oc) := yo
                  have KS := hid (fun (X : World) (hb : Below w6.heap.size w6 X) => (⟨(hb.cell (p := ⟨gb, 3, none⟩) HL.out.1).trans y3', (hb.cell (p := ⟨gb, 2, none⟩) HL.out.1).trans y2', (hb.cell (p := ⟨ow, 2, none⟩) HL.out.2).trans yo, hb⟩ : X.cell? ⟨gb, 3, none⟩ = some (.slice va 0 vcp) ∧ X.cell? ⟨gb, 2, none⟩ = some (.pointer (some ⟨l4.wd, 0, none⟩)) ∧ X.cell? ⟨ow, 2, none⟩ = some (.slice oa rl oc) ∧ Below w6.heap.size w6 X))
                  clear hq6 hwo hal hlsl hU hU2 hrl hUl hu64 hsb y3 y2' yo y3'
                  go_upto_region 31 with fail
                  go_region_held3 (fun X => X.cell? ⟨gb, 3, none⟩ = some (.slice va 0 vcp) ∧ X.cell? ⟨gb, 2, none⟩ = some (.pointer (some ⟨l4.wd, 0, none⟩)) ∧ X.cell? ⟨ow, 2, none⟩ = some (.slice oa rl oc) ∧ Below w6.heap.size w6 X) (first | (with_reducible exact ⟨z3d, z2d, zod, B0⟩) | (with_reducible exact KS.out _ (by with_reducible assumption)))
                    (first
                    | (go_at_call 21; (with_reducible refine (WO.out _ (by with_reducible assumption)).mono ?_); rintro e x1 ⟨⟨vx, rfl, n1⟩, hb1⟩; have N1 := hid n1; have bS := bx (by with_reducible assumption) hb1; clear n1)
                    | (go_at_call 21; (with_reducible refine (WG.out _ (by with_reducible assumption)).mono ?_); rintro e x2 ⟨⟨vy, rfl, n2⟩, hb2⟩; have N2 := hid n2; have bS := bx (by with_reducible assumption) hb2; clear n2)
                    | (go_at_call 26; (first | (with_reducible refine (Same5_r vx vy _ _ _ (N1.out.bel hb2) N2.out HUL2.out HUL2.out).mono ?_) | (with_reducible refine (Same5_r vx vy _ _ _ N1.out (N2.out.bel hb1) HUL2.out HUL2.out).mono ?_)); rintro e x3 ⟨rfl, hb3⟩; have bS := bx (by with_reducible assumption) hb3; rw [decide_eq_true rfl])
                    | (go_at_call 27; (with_reducible refine (BI.out _).mono ?_); rintro e x4 ⟨⟨ba4, bc4, rfl⟩, hb4⟩; have bS := bx (by with_reducible assumption) hb4)
                    | (go_at_call 8; (with_reducible refine (known6_z _).mono ?_); rintro e x5 ⟨rfl, hb5'⟩; have bS := bx (by with_reducible assumption) hb5'))
                  have hfin : ∀ X, Below w6.heap.size w6 X → Below w.heap.size w X := fun X hb => HB6.out.trans (hb.mono HB6.out.size)
                  have HFIN := hid hfin
                  clear hfin
                  go_wp2
                  go_ret
                  exact ⟨rfl, HFIN.out _ (by with_reducible assumption)⟩
                · have ht1 : 0 < tl := by omega
                  have DZ := do_z w2.heap.size 1 (15 + k3 + i4) l4 g4 5 (i4 : Int) 0 0 wr H4.out.1 (by have := HM300.out; omega) (by decide) (by omega)
                  rw [H4.out.2.1] at DZ
                  have HDZ := hid DZ
                  have HI60 : Hid (i4 + 1 ≤ 60) := by
                    have hne : g4.T ≠ [] := fun e => ht0 (by rw [H4.out.2.2.2.2, e]; rfl)
                    have hp := H4.out.2.2.2.1.resolve_left hne
                    have := pot_pos H4.out.2.2.1.one.ph hne
                    show i4 + 1 ≤ 60
                    omega
                  clear DZ ht0 hi4
                  go_wp2_with fail
                  refine HDZ.out.mono ?_
                  rintro e w5 ⟨rfl, l5, g5, hg5, hd5, hgb5, hbl5⟩
                  have HN4 : Hid (Mx4 w w2.heap.size gb c u k3 (i4 + 1) w5) := by
                    have hl5 := H4.out.2.2.1.one.lst.did H4.out.2.2.1.one.ok hd5
                    have hr5 := H4.out.2.2.1.one.rng.did hd5
                    obtain ⟨n1, n2⟩ := H4.out.2.2.1.next hg5.gok hl5 hr5 (did_step hd5)
                    refine ⟨⟨l5, g5, hg5, hgb5.trans H4.out.2.1, n1, ?_⟩, hI4.out.bel.trans (hbl5.mono HB2.out.size)⟩
                    have hp := H4.out.2.2.2.1
                    rcases n2 with ⟨_, e⟩ | e
                    · exact Or.inl e
                    · rcases hp with e' | e'
                      · rw [e'] at e
                        have : pot ([] : List TR) = 0 := rfl
                        omega
                      · exact Or.inr (by omega)
                  clear hg5 hd5 hgb5 hbl5
                  go_wp2
                  go_roundw
                  case rel => exact ⟨i4 + 1, HI60.out, by go_num, HN4⟩
                  case measure => simp [intOf]; have := HI60.out; omega
        · have H0 := hid h0
          have p0 : 0 < rm := by omega
          clear h0
          go_wp2_with fail
          refine HRM.out.mono ?_
          rintro e w5 ⟨rfl, hb5⟩
          have H5 := hid (HP.out.1.bel hb5)
          have y1 : w5.cell? ⟨gb, 1, none⟩ = some (.pointer (some ⟨l'.B.s, 0, none⟩)) := by rw [← HP.out.2.1]; exact H5.out.gblk.cell 1
          have RV := hid (Reserve_z w2.heap.size l'.B l'.V _ g.A c 1 w5 H5.out.work.sl H5.out.loN H5.out.work.hl H5.out.work.hn HC3.out ((H5.out.al.few H5.out.n6).2 c HC3.out.1 HC3.out.2))
          have HB5 := hid hb5
          clear hb5 y2
          go_wp2_with fail
          refine RV.out.mono ?_
          intro e w6 hp
          obtain ⟨a1, x1, rfl⟩ := hp.form
          obtain ⟨d1, d2, d3⟩ := H5.out.docMoved hp.only
          have WV := hid (WRsv_r w2.heap.size l'.wd _ g.cs g.ls l'.vC l'.vL c 1 w6 d1 d3 HC3.out (by have := H5.out.fewT.2; omega) H5.out.al.cl.symm (by decide))
          have y3 : w6.cell? ⟨gb, 2, none⟩ = some (.pointer (some ⟨l'.wd, 0, none⟩)) := by rw [← HP.out.2.1]; exact d2.cell 2
          have P6 := hid (⟨hp, hp.only⟩ : _ ∧ _)
          clear hp d1 d2 d3 y1
          go_wp2_with fail
          refine WV.out.mono ?_
          intro e w7 hp2
          obtain ⟨a, x, t1, rfl, A', V', cs', ls', vL', hg7, hrd, hrw⟩ := H5.out.reserved HC3.out P6.out.1 hp2
          obtain ⟨rfl, rfl⟩ := ret2_inj t1
          obtain ⟨rfl, rfl, rfl, hga, hj⟩ := HP.out.2.2.1.one.rsv (by rw [← HP.out.2.2.2]; exact H0.out) hrw
          have hok7 := hg7.gok
          have hl7 := HP.out.2.2.1.one.lst.rsv HP.out.2.2.1.one.ok HC3.out hrw hrd
          have DZ := do_z w2.heap.size 1 g.T.length _ _ 3 (-1) a1 0 w7 hg7 (by have := hg7.fewT.1; have e : ({ g with A := A', cs := g.cs, ls := setW g.ls a1 1 } : GA).T = g.T := rfl; rw [e] at this; omega) (by
            obtain ⟨j, hj, e⟩ := hj
            have h1 : isGet (setW g.ls a1 1) a1 ≠ 0 := by rw [isGet_setW, if_pos rfl]; decide
            obtain ⟨_, _, _, _, _, _, _, _, _, _, _, _, p10, p11⟩ := hg7.at (a := a1) h1
            omega) (by decide)
          have hbl7 : Below w.heap.size w w7 := by
            have b6 := P6.out.2.below (B := w2.heap.size) (fun k hk => H5.out.lo 2 k (H5.out.in2 hk)) H5.out.loN
            have b7 := hp2.only.below (B := w2.heap.size) (fun y hy => by
              rcases List.mem_cons.1 hy with rfl | hy
              · exact H5.out.wo.lo
              · exact own_base H5.out.wo.rc y (by simpa using hy)) (Nat.le_trans H5.out.loN P6.out.2.size)
            exact (HREL.out.trans (HB5.out.mono HREL.out.size)).trans ((b6.trans b7).mono HB2.out.size)
          have HDZ := hid DZ
          have H7 := hid (⟨hok7, hl7, hga, hj, hbl7⟩ : _ ∧ _ ∧ _ ∧ _ ∧ _)
          have HGB7 := hid (show l'.gb = gb from HP.out.2.1)
          clear hp2 t1 hg7 hrd hrw hga hj hok7 hl7 DZ hbl7 y3
          rw [show ({ l' with V := V', vL := vL' } : GL).gb = gb from HGB7.out] at HDZ
          go_wp2_with fail
          refine HDZ.out.mono ?_
          rintro e w8 ⟨rfl, l8, g8, hg8, hd8, hgb8, hbl8⟩
          have hN8 : Hid (Mx2 w w2.heap.size gb c u w8 ∧ 20 - lenAt w8 gb < 20 - lenAt wr gb) := by
            obtain ⟨j, hj, hje⟩ := H7.out.2.2.2.1
            have hl8 := H7.out.2.1.did H7.out.1 hd8
            have hr8 := (show Rng ({ g with A := A', cs := g.cs, ls := setW g.ls a1 1 } : GA).ma from HP.out.2.2.1.one.rng).did hd8
            obtain ⟨n1, n2⟩ := HP.out.2.2.1.next (g1 := { g with A := A', cs := g.cs, ls := setW g.ls a1 1 }) hg8.gok hl8 hr8 hj hje H7.out.2.2.1 rfl rfl rfl hd8
            have e8 : l8.gb = gb := hgb8
            refine ⟨⟨⟨l8, g8, by rw [n2]; exact hg8, e8, n1⟩, H7.out.2.2.2.2.trans (hbl8.mono HB2.out.size)⟩, ?_⟩
            have q1 := lenAt_game hg8
            have q2 := lenAt_game HP.out.1
            rw [e8] at q1
            rw [HP.out.2.1] at q2
            have := n1.one.turns
            omega
          clear hg8 hd8 hgb8 hbl8
          go_wp2
          go_roundw
          case rel => exact hN8.out.1
          case measure => exact hN8.out.2

end Go.Proofs.YtbkaemajjaiklaaGreat
