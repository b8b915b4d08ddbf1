/- SlabPlays: the walk. -/
import Derived.Test.YtbkaemajjaiklaaGreatGameC
import Derived.Test.YtbkaemajjaiklaaGreatWholeK
namespace Go.Proofs.YtbkaemajjaiklaaGreat
open Go.RowKit
set_option linter.unusedVariables false
set_option linter.unusedSimpArgs false

/-- acts handed in: kind, number, address, client -/
structure ActT where
  kd : Int
  nn : Int
  aa : Int
  cc : Int
def ActT.ok (x : ActT) : Prop := (-9223372036854775808 ≤ x.nn ∧ x.nn ≤ 9223372036854775807) ∧ 0 ≤ x.aa ∧ x.aa ≤ 18446744073709551615
structure ActsAt (w : World) (v : Value) (acts : List ActT) : Prop where
  at_ : ∃ ao cap, v = .slice ao acts.length cap ∧ (acts = [] ∨ ∃ b off, ao = some ⟨b, off, none⟩ ∧ b < w.heap.size ∧ ∀ i (h : i < acts.length), w.cell? ⟨b, off + i * 4, none⟩ = some (.int .i64 acts[i].kd) ∧ w.cell? ⟨b, off + i * 4 + 1, none⟩ = some (.int .i64 acts[i].nn) ∧ w.cell? ⟨b, off + i * 4 + 2, none⟩ = some (.int .u64 acts[i].aa) ∧ w.cell? ⟨b, off + i * 4 + 3, none⟩ = some (.int .i64 acts[i].cc))
  ok : ∀ x ∈ acts, x.ok
theorem ActsAt.bel {w w' : World} {v : Value} {acts : List ActT} (h : ActsAt w v acts) (hb : Below w.heap.size w w') : ActsAt w' v acts := by
  obtain ⟨ao, cap, rfl, hc⟩ := h.at_
  refine ⟨⟨ao, cap, rfl, ?_⟩, h.ok⟩
  rcases hc with h0 | ⟨b, off, rfl, hbl, hc⟩
  · exact Or.inl h0
  · refine Or.inr ⟨b, off, rfl, Nat.lt_of_lt_of_le hbl hb.size, fun i hi => ?_⟩
    obtain ⟨c0, c1, c2, c3⟩ := hc i hi
    exact ⟨(hb.cell (p := ⟨b, _, none⟩) hbl).trans c0, (hb.cell (p := ⟨b, _, none⟩) hbl).trans c1, (hb.cell (p := ⟨b, _, none⟩) hbl).trans c2, (hb.cell (p := ⟨b, _, none⟩) hbl).trans c3⟩
def okHd (x : Nat × Nat) : Bool := decide (x.1 ≤ 3) && mayBits x.2 (blocksZ x.1)
def fewG (hs : List (Nat × Nat)) (k most : Nat) : Bool := decide (1 ≤ hs.length ∧ hs.length ≤ 4) && decide (k ≤ most) && hs.all okHd
theorem headsOf {bs : List Int} {hs : List (Nat × Nat)} (h : ImgTo bs hs hs.length) {i : Nat} (hi : i < hs.length) : headOK bs (i + 1) = okHd hs[i] := by
  obtain ⟨h1, h2⟩ := h.ok i hi hi
  unfold headOK okHd
  rw [h1, h2]
theorem headsAll {bs : List Int} {hs : List (Nat × Nat)} (h : ImgTo bs hs hs.length) (hok : hs.all okHd = true) : ∀ i, 1 ≤ i → i ≤ hs.length → headOK bs i = true := by
  intro i h1 h2
  obtain ⟨j, rfl⟩ : ∃ j, i = j + 1 := ⟨i - 1, by omega⟩
  rw [headsOf h (show j < hs.length by omega)]
  rw [List.all_eq_true] at hok
  exact hok _ (List.getElem_mem _)
theorem headsNo {bs : List Int} {hs : List (Nat × Nat)} (h : ImgTo bs hs hs.length) (hok : hs.all okHd = false) : ∃ i, 1 ≤ i ∧ i ≤ hs.length ∧ headOK bs i = false := by
  rw [List.all_eq_false] at hok
  obtain ⟨x, hx, hn⟩ := hok
  obtain ⟨j, hj, rfl⟩ := List.mem_iff_getElem.1 hx
  exact ⟨j + 1, by omega, by omega, by rw [headsOf h hj]; simpa using hn⟩
theorem bytesOfG {w : World} {g : Nat} {bs : List Int} (h : Blk w g 5 (bytC bs)) (hb : isByte bs) : BytesIn w (some ⟨g, 0, none⟩) bs.length bs := by
  refine ⟨Nat.le_refl _, hb, fun _ => ⟨g, 0, rfl, h.lt, fun i x hx => ?_⟩⟩
  rw [Nat.zero_add, h.cell]
  unfold bytC
  rw [List.getElem?_toArray, List.getElem?_map, hx]; rfl

set_option maxRecDepth 100000 in
set_option maxHeartbeats 1000000 in
theorem fewG_r (v : Value) (hs : List (Nat × Nat)) (ao : Option Addr) (k cap most : Nat) (hm : most ≤ 1000) (w : World) (h : HeadsAt w v hs) :
    Calls Tryz.prog 17 #[v, .slice ao k cap, .int .i64 (most : Int)] w fun e w' => e = .returned (.bool (fewG hs k most)) ∧ Below w.heap.size w w' := by
  obtain ⟨ho, hcap, hv, _⟩ := h.at_
  by_cases h1 : hs.length < 1
  · have hf := hid (show fewG hs k most = false by unfold fewG; rw [decide_eq_false (by omega)]; rfl)
    subst hv
    obtain ⟨n, hn⟩ : ∃ n, n = hs.length := ⟨_, rfl⟩
    rw [← hn] at h1 ⊢
    have i1 : (n : Int) < 1 := by omega
    clear h hn h1
    go_enter Tryz.func17, Tryz.ntmps17
    go_wp2
    go_ret
    exact ⟨by rw [hf.out]; rfl, Below.refl _ _⟩
  by_cases h4 : hs.length > 4
  · have hf := hid (show fewG hs k most = false by unfold fewG; rw [decide_eq_false (by omega)]; rfl)
    subst hv
    obtain ⟨n, hn⟩ : ∃ n, n = hs.length := ⟨_, rfl⟩
    rw [← hn] at h1 h4 ⊢
    have i1 : ¬ (n : Int) < 1 := by omega
    have i2 : (n : Int) > 4 := by omega
    clear h hn h1 h4
    go_enter Tryz.func17, Tryz.ntmps17
    go_wp2
    go_ret
    exact ⟨by rw [hf.out]; rfl, Below.refl _ _⟩
  by_cases h5 : k > most
  · have hf := hid (show fewG hs k most = false by unfold fewG; rw [decide_eq_false (show ¬ k ≤ most by omega)]; simp)
    subst hv
    obtain ⟨n, hn⟩ : ∃ n, n = hs.length := ⟨_, rfl⟩
    rw [← hn] at h1 h4 ⊢
    have i1 : ¬ (n : Int) < 1 := by omega
    have i2 : ¬ (n : Int) > 4 := by omega
    have i3 : (k : Int) > (most : Int) := by omega
    clear h hn h1 h4 h5
    go_enter Tryz.func17, Tryz.ntmps17
    go_wp2
    go_ret
    exact ⟨by rw [hf.out]; rfl, Below.refl _ _⟩
  · have hI := hid (image_z v hs 0 (by omega) (by omega) w h)
    have hf := hid (show fewG hs k most = hs.all okHd by unfold fewG; rw [decide_eq_true (show 1 ≤ hs.length ∧ hs.length ≤ 4 by omega), decide_eq_true (show k ≤ most by omega)]; simp)
    have hlen : 1 ≤ hs.length ∧ hs.length ≤ 64 := by omega
    have HLEN := hid hlen
    subst hv
    obtain ⟨n, hn⟩ : ∃ n, n = hs.length := ⟨_, rfl⟩
    rw [← hn] at h1 h4 hI ⊢
    have i1 : ¬ (n : Int) < 1 := by omega
    have i2 : ¬ (n : Int) > 4 := by omega
    have i3 : ¬ (k : Int) > (most : Int) := by omega
    have HN := hid hn
    clear h hn h1 h4 h5 hlen
    go_enter Tryz.func17, Tryz.ntmps17
    go_wp2_with fail
    refine hI.out.mono ?_
    rintro e w1 ⟨g, bs, rfl, hbk, him, hlo, hb⟩
    rw [HN.out] at him
    have hR := ROf_r (some ⟨g, 0, none⟩) bs.length bs hs.length HLEN.out (by rw [him.len]) w1 (bytesOfG hbk him.byt)
    have HR := hid hR
    have HIM := hid him
    have HB := hid hb
    clear hR him hb hbk hlo
    go_wp2_with fail
    refine HR.out.mono ?_
    rintro e w2 hp
    have HB2 := hid (HB.out.trans (hp.bel.mono HB.out.size))
    cases hok : hs.all okHd
    · rw [hok] at hf
      obtain rfl := hp.no (headsNo HIM.out hok)
      clear hp
      go_wp2
      go_ret
      exact ⟨by rw [hf.out]; rfl, HB2.out⟩
    · rw [hok] at hf
      obtain ⟨gg, vC, vL, rfl, _⟩ := hp.yes (headsAll HIM.out hok)
      clear hp
      go_wp2
      go_ret
      exact ⟨by rw [hf.out]; rfl, HB2.out⟩

/-- while acts are done -/
structure PlI (w : World) (N n gb k : Nat) (W : World) : Prop where
  g : ∃ l g, GameIs W N n k l g ∧ l.gb = gb
  bel : Below w.heap.size w W

set_option maxRecDepth 100000 in
set_option maxHeartbeats 4000000 in
theorem SlabPlays_z (v : Value) (hs : List (Nat × Nat)) (v2 : Value) (acts : List ActT) (w : World) (h : HeadsAt w v hs) (h2 : ActsAt w v2 acts) :
    Calls Tryz.prog 4 #[v, v2] w fun e w' => e = .returned (.bool true) ∧ Below w.heap.size w w' := by
  obtain ⟨ao, acap, rfl, _⟩ := h2.at_
  have hF := hid (fewG_r v hs ao acts.length acap 150 (by decide) w h)
  have H := hid h
  have HA := hid h2
  obtain ⟨m, hm⟩ : ∃ m, m = acts.length := ⟨_, rfl⟩
  rw [← hm] at hF ⊢
  have HM := hid hm
  clear h h2 hm
  cases hfw : fewG hs m 150
  · rw [hfw] at hF
    clear hfw
    go_enter Tryz.func4, Tryz.ntmps4
    go_wp2_with fail
    refine hF.out.mono ?_
    rintro e w1 ⟨rfl, hb1⟩
    have HB1 := hid hb1
    clear hb1
    go_wp2_with fail
    refine (known6_z w1).mono ?_
    rintro e w2 ⟨rfl, hb2⟩
    have HB2 := hid (HB1.out.trans (hb2.mono HB1.out.size))
    clear hb2
    go_wp2
    go_ret
    exact ⟨rfl, HB2.out⟩
  · have hfw' := hfw
    unfold fewG at hfw'
    rw [Bool.and_eq_true, Bool.and_eq_true] at hfw'
    have HLEN := hid (show 1 ≤ hs.length ∧ hs.length ≤ 4 from of_decide_eq_true hfw'.1.1)
    have hm150 : m ≤ 150 := of_decide_eq_true hfw'.1.2
    have HALL := hid hfw'.2
    rw [hfw] at hF
    clear hfw hfw'
    go_enter Tryz.func4, Tryz.ntmps4
    go_wp2_with fail
    refine hF.out.mono ?_
    rintro e w1 ⟨rfl, hb1⟩
    have HI := hid (image_z v hs 0 (by omega) (by have := HLEN.out; omega) w1 (H.out.bel hb1))
    have HB1 := hid hb1
    clear hb1
    go_wp2_with fail
    refine HI.out.mono ?_
    rintro e w2 ⟨gg, bs, rfl, hbk, him, hlo, hb2⟩
    have HB2 := hid (HB1.out.trans (hb2.mono HB1.out.size))
    have hlen := him.len
    have hG := gbegin_z (some ⟨gg, 0, none⟩) bs.length bs hs.length (by have := HLEN.out; omega) hlen (by have := HLEN.out; omega) (headsAll him HALL.out) w2 (bytesOfG hbk him.byt)
    obtain ⟨L, hL⟩ : ∃ L, L = bs.length := ⟨_, rfl⟩
    rw [← hL] at hG ⊢
    have HG := hid hG
    clear hG him hlen hb2 hbk hlo hL
    go_wp2_with fail
    refine HG.out.mono ?_
    rintro e w3 ⟨l, rfl, hgm, hb3⟩
    obtain ⟨gb, hgb⟩ : ∃ gb, gb = l.gb := ⟨_, rfl⟩
    rw [← hgb]
    have HN := hid HB2.out.size
    have HP0 := hid (⟨⟨l, _, hgm, hgb.symm⟩, HB2.out.trans (hb3.mono HB2.out.size)⟩ : PlI w w2.heap.size hs.length gb 0 w3)
    clear hgm hb3 hgb
    go_wp2
    go_loopw [6] (fun i wr => ∃ k : Nat, k ≤ m ∧ i = .int .i64 k ∧ Hid (PlI w w2.heap.size hs.length gb k wr)) (fun i _ => (m - (intOf i).toNat))
    case atStart => exact ⟨0, by omega, rfl, HP0⟩
    case round =>
      obtain ⟨k, hk, rfl, hI⟩ := hrel
      by_cases hlt : k < m
      · have i1 : (k : Int) < (m : Int) := by omega
        have i0 : (0 : Int) ≤ (k : Int) := by omega
        have HLT := hid hlt
        have ha := HA.out.bel hI.out.bel
        obtain ⟨ao', cap', e, hc⟩ := ha.at_
        injection e with e1 e2 e3
        have hne : acts ≠ [] := by intro e; have := HM.out; rw [e] at this; simp at this; omega
        obtain ⟨b, off, hao, hbl, hcl⟩ := hc.resolve_left hne
        rw [hao] at e1
        subst e1
        have hkl : k < acts.length := by rw [← HM.out]; exact hlt
        obtain ⟨c0, c1, c2, c3⟩ := hcl k hkl
        have hok := ha.ok _ (List.getElem_mem hkl)
        obtain ⟨x, hx⟩ : ∃ x, x = acts[k] := ⟨_, rfl⟩
        rw [← hx] at c0 c1 c2 c3 hok
        obtain ⟨l, g, hg, hgb⟩ := hI.out.g
        have D := do_z w2.heap.size hs.length k l g x.kd x.nn x.aa x.cc wr hg (by omega) hok.2 hok.1.2
        rw [hgb] at D
        have HGB := hid hgb
        have HD := hid D
        clear ha hc hne hbl hcl hok hx hg hgb D hk hlt e2 e3 hao
        go_wp2_with fail
        refine HD.out.mono ?_
        rintro e w4 ⟨rfl, l', g', hg', _, hgb', hbel⟩
        have HQ := hid (⟨⟨l', g', hg', hgb'.trans HGB.out⟩, hI.out.bel.trans (hbel.mono HN.out)⟩ : PlI w w2.heap.size hs.length gb (k + 1) w4)
        clear hg' hgb' hbel
        go_wp2
        go_roundw
        case rel => exact ⟨k + 1, HLT.out, by go_num, HQ⟩
        case measure => simp [intOf]; have := HLT.out; omega
      · obtain rfl : k = m := by omega
        have i1 : ¬ (k : Int) < (k : Int) := by omega
        clear hlt hk
        go_wp2_with fail
        refine (known6_z wr).mono ?_
        rintro e w4 ⟨rfl, hb4⟩
        have HB4 := hid (hI.out.bel.trans (hb4.mono hI.out.bel.size))
        clear hb4
        go_wp2
        go_ret
        exact ⟨rfl, HB4.out⟩

end Go.Proofs.YtbkaemajjaiklaaGreat
