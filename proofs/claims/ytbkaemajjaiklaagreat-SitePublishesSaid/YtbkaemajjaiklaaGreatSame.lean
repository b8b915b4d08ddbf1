/- leveelaw06.same: of blocks that are alike it says so. -/
import Derived.Test.YtbkaemajjaiklaaGreatAlikeN
namespace Go.Proofs.YtbkaemajjaiklaaGreat
open Go.RowKit
set_option linter.unusedVariables false
set_option linter.unusedSimpArgs false

/-- the code's blocks and the document's, in one memory -/
structure BothS (w : World) (N : Nat) (B : SB) (V : Nat → Value) (size : Int) (A : SA) (n : Nat) (M g : Nat) (cs : List Int) (ls : List (Int × Int)) (vC vL : Value) : Prop where
  sl : SlabIs w N B V size A
  wo : WorldIs w M g size cs ls vC vL
  al : Alike A n cs ls
  hl : A.hd.length = 1 + n
  hn : 1 ≤ n ∧ n ≤ 64
  few : A.is.length ≤ 50000 ∧ ls.length ≤ 50000 ∧ ∀ c, 1 ≤ c → c ≤ 3 → (A.fr c).length ≤ 50000
theorem BothS.bel {w w' : World} {N : Nat} {B : SB} {V : Nat → Value} {size : Int} {A : SA} {n M g : Nat} {cs : List Int} {ls : List (Int × Int)} {vC vL : Value} (h : BothS w N B V size A n M g cs ls vC vL) (hb : Below w.heap.size w w') : BothS w' N B V size A n M g cs ls vC vL :=
  ⟨h.sl.bel hb, h.wo.bel hb, h.al, h.hl, h.hn, h.few⟩

set_option maxRecDepth 100000 in
set_option maxHeartbeats 4000000 in
theorem same_z (N : Nat) (B : SB) (V : Nat → Value) (size : Int) (A : SA) (n M g : Nat) (cs : List Int) (ls : List (Int × Int)) (vC vL : Value) (w : World) (h : BothS w N B V size A n M g cs ls vC vL) :
    Calls Tryz.prog 12 #[.pointer (some ⟨B.s, 0, none⟩), .pointer (some ⟨g, 0, none⟩)] w fun e w' => e = .returned (.bool true) ∧ Below w.heap.size w w' := by
  have y1 : w.cell? ⟨g, 1, none⟩ = some vC := h.wo.blk.cell 1
  obtain ⟨b, cap, rfl, hat⟩ : ∃ b cap, vC = .slice (some ⟨b, 0, none⟩) n cap ∧ ∀ i c, cs[i]? = some c → w.cell? ⟨b, i, none⟩ = some (.int .i64 c) := by
    have hcl := h.al.cl
    rcases h.wo.clsAt' with ⟨h1, h2⟩ | h1
    · exfalso; rw [h2] at hcl; simp at hcl; have := h.hn; omega
    · rw [hcl] at h1; exact h1
  have HAT := hid hat
  have HG := hid h.wo.blk.lt
  have n1 : 1 ≤ n := h.hn.1
  have n64 : n ≤ 64 := h.hn.2
  have H := hid h
  have e0 : ((n : Int) != (n : Int)) = false := by simp
  clear h hat
  go_enter Tryz.func12, Tryz.ntmps12
  have UL : Hid (∀ u : List Int, u = usedI ls → u.length ≤ 1000000000) := by
    intro u hu
    have hul := usedI_len ls ls.length
    rw [List.take_length] at hul
    have := H.out.few.2.1
    rw [hu]; omega
  have SL := hid (fun (W : World) (hb : Below w.heap.size w W) => Slabs_s _ n W (HasSlabs.of (H.out.bel hb).sl H.out.hl H.out.hn))
  have US := hid (fun (W : World) (hb : Below w.heap.size w W) => show Calls Tryz.prog 40 #[.pointer (some ⟨B.s, 0, none⟩)] W fun e w' => (∃ v, e = .returned v ∧ NumsAt .u64 w' v (usedI ls)) ∧ Below W.heap.size W w' from by
    refine (Used_s N B V size A n W (H.out.bel hb).sl H.out.hl H.out.hn (by have := H.out.few.1; omega)).mono ?_
    rintro e w1 ⟨⟨va, ys, rfl, p1, p2, p3⟩, hb1⟩
    have hys := H.out.al.used p1 p2
    subst hys
    exact ⟨⟨va, rfl, NumsAt.of_own p3⟩, hb1⟩)
  have WU := hid (fun (W : World) (hb : Below w.heap.size w W) => show Calls Tryz.prog 21 #[.pointer (some ⟨g, 0, none⟩)] W fun e w' => (∃ v, e = .returned v ∧ NumsAt .u64 w' v (usedI ls)) ∧ Below W.heap.size W w' from by
    refine (WUsed_r M g size cs ls _ vL W (H.out.bel hb).wo (by have := H.out.few.2.1; omega) (fun x hx => by
      obtain ⟨_, _, i, j, c, hi, hj, c1, c3, _, e⟩ := H.out.al.blk x hx
      rw [e]; exact block_ne (by have := H.out.hn; omega) ⟨c1, c3⟩ hj)).mono ?_
    rintro e w2 ⟨⟨vb, rfl, p3⟩, hb2⟩
    exact ⟨⟨vb, rfl, NumsAt.of_own p3⟩, hb2⟩)
  go_upto_region 1 with fail
  go_cut [25] from 10 (fun s25 wc => s25 = .bool false ∧ Hid (Below w.heap.size w wc))
  case first =>
    have hB0 : Below w.heap.size w w.drew := belDrew _
    have hBw : Below w.heap.size w w := Below.refl _ _
    have y1d : w.drew.cell? ⟨g, 1, none⟩ = some (.slice (some ⟨b, 0, none⟩) n cap) := y1
    go_region_held3 (fun w' => w'.cell? ⟨g, 1, none⟩ = some (.slice (some ⟨b, 0, none⟩) n cap) ∧ Below w.heap.size w w') (first | (with_reducible exact ⟨y1d, hB0⟩) | (with_reducible exact ⟨y1, hBw⟩) | (with_reducible exact ⟨yS, bS⟩))
      (first
      | (go_at_call 59; (with_reducible refine (SL.out _ (by with_reducible assumption)).mono ?_); rintro e v0 ⟨rfl, rfl⟩)
      | (go_at_call 40; (with_reducible refine (US.out _ (by with_reducible assumption)).mono ?_); rintro e v1 ⟨⟨va, rfl, n1⟩, hb1⟩; have N1 := hid n1; have bS := bx (by with_reducible assumption) hb1; have yS := (bS.cell (p := ⟨g, 1, none⟩) HG.out).trans y1; clear n1)
      | (go_at_call 21; (with_reducible refine (WU.out _ (by with_reducible assumption)).mono ?_); rintro e v2 ⟨⟨vb, rfl, n2⟩, hb2⟩; have N2 := hid n2; have bS := bx (by with_reducible assumption) hb2; have yS := (bS.cell (p := ⟨g, 1, none⟩) HG.out).trans y1; clear n2)
      | (go_at_call 26; (first | (with_reducible refine (Same5_r va vb _ _ _ (N1.out.bel hb2) N2.out (UL.out _ rfl) (UL.out _ rfl)).mono ?_) | (with_reducible refine (Same5_r va vb _ _ _ N1.out (N2.out.bel hb1) (UL.out _ rfl) (UL.out _ rfl)).mono ?_)); rintro e v3 ⟨rfl, hb3⟩; have bS := bx (by with_reducible assumption) hb3; have yS := (bS.cell (p := ⟨g, 1, none⟩) HG.out).trans y1; rw [decide_eq_true rfl]))
    all_goals
      go_wp2_with fail
      go_meet
      exact ⟨rfl, by assumption⟩
  case rest =>
    obtain ⟨rfl, hB⟩ := hcut
    clear SL US WU UL
    go_wp2
    go_loopw [5] (fun vi wr => ∃ k : Nat, vi = .int .i64 ((k : Int) + 1) ∧ k ≤ n ∧ Hid (Below w.heap.size w wr)) (fun vi _ => (n + 1 - (intOf vi).toNat))
    case atStart => exact ⟨0, rfl, Nat.zero_le _, hB⟩
    case round =>
      obtain ⟨k, rfl, hk, hBk⟩ := hrel
      have y3 : wr.cell? ⟨g, 1, none⟩ = some (.slice (some ⟨b, 0, none⟩) n cap) := (hBk.out.cell (p := ⟨g, 1, none⟩) HG.out).trans y1
      by_cases hlt : k < n
      · have i1 : (k : Int) + 1 ≤ (n : Int) := by omega
        have k1 : (k : Int) + 1 - 1 = (k : Int) := by omega
        have k0 : (0 : Int) ≤ (k : Int) := by omega
        have k2 : (k : Int) < (n : Int) := by omega
        have k3 := wrapN (q := k) (by omega)
        have k4 : (k : Int) + 1 ≤ 64 := by omega
        obtain ⟨q, hq⟩ : ∃ q, cs[k]? = some q := ⟨_, List.getElem?_eq_getElem (by rw [H.out.al.cl]; exact hlt)⟩
        have z1 := HAT.out k q hq
        have hbl := World.block_lt_of_cell? w _ z1
        have y4 : wr.cell? ⟨b, k, none⟩ = some (.int .i64 q) := (hBk.out.cell (p := ⟨b, k, none⟩) hbl).trans z1
        have hcl := Class_s N B V size A ((k : Int) + 1) n wr.drew (H.out.bel (hBk.out.drew)).sl H.out.hl H.out.hn
        have hcq : clsZ A ((k : Int) + 1) = q := by
          have h1 := H.out.al.cls k hlt
          rw [List.getD_eq_getElem?_getD, hq] at h1
          unfold clsZ
          rw [if_pos (by have := H.out.hl; omega), show ((k : Int) + 1).toNat = k + 1 by omega, h1]; rfl
        rw [hcq] at hcl
        have HCL := hid hcl
        have e1 : (q != q) = false := by simp
        have hBd := hid hBk.out.drew
        have HLT := hid hlt
        have y3d : wr.drew.cell? ⟨g, 1, none⟩ = some (.slice (some ⟨b, 0, none⟩) n cap) := y3
        have y4d : wr.drew.cell? ⟨b, k, none⟩ = some (.int .i64 q) := y4
        clear hq z1 hbl hcl hcq hlt
        go_wp2
        go_region_held3 (fun w' => w'.cell? ⟨g, 1, none⟩ = some (.slice (some ⟨b, 0, none⟩) n cap) ∧ w'.cell? ⟨b, k, none⟩ = some (.int .i64 q)) (first | (with_reducible exact ⟨y3d, y4d⟩) | (with_reducible exact ⟨y3, y4⟩) | (exact ⟨y3, y4⟩))
          (first | (go_at_call 13; (with_reducible refine HCL.out.mono ?_); rintro e v1 ⟨rfl, rfl⟩))
        all_goals go_wp2
        go_roundw
        case rel => exact ⟨k + 1, by go_num, HLT.out, hBd⟩
        case measure => simp [intOf]; have := HLT.out; omega
      · have i1 : ¬ (k : Int) + 1 ≤ (n : Int) := by omega
        clear hlt
        go_wp2
        go_loopw [6, 7, 8, 9] (fun vc _ _ _ wc => ∃ c : Nat, vc = .int .i64 (c : Int) ∧ 1 ≤ c ∧ c ≤ 4 ∧ Hid (Below w.heap.size w wc)) (fun vc _ _ _ _ => (5 - (intOf vc).toNat))
        case atStart => exact ⟨1, rfl, by omega, by omega, hBk⟩
        case round =>
          obtain ⟨c, rfl, c1, c4, hBc⟩ := hrel
          by_cases hc3 : c ≤ 3
          · have d1 : (c : Int) ≤ 3 := by omega
            have c0 : (0 : Int) ≤ (c : Int) := by omega
            have hroom := H.out.al.room H.out.hl n64 (c := c) ⟨c1, hc3⟩
            have HRM := hid (Room_z N B V size A c n wr (H.out.bel hBc.out).sl H.out.hl H.out.hn ⟨c1, hc3⟩ (by have := H.out.few.2.2 c c1 hc3; omega))
            rw [hroom] at HRM
            have HWR := hid (fun (W : World) (hb : Below w.heap.size w W) => WRoom_r M g size cs ls _ vL c W (H.out.bel hb).wo ⟨c1, hc3⟩ (by have := H.out.few.2.1; omega) (by rw [H.out.al.cl]; exact n64))
            obtain ⟨R, hR⟩ : ∃ R, R = roomW cs ls c cs.length := ⟨_, rfl⟩
            rw [← hR] at HRM HWR
            have e2 : ((R : Int) != (R : Int)) = false := by simp
            have HC13 := hid (show 1 ≤ c ∧ c ≤ 3 from ⟨c1, hc3⟩)
            clear hroom hR hc3 c4
            go_wp2_with fail
            refine HRM.out.mono ?_
            rintro e v1 ⟨rfl, hb1⟩
            have HB1 := hid (hBc.out.trans (hb1.mono hBc.out.size))
            clear hb1
            go_wp2_with fail
            refine (HWR.out _ HB1.out).mono ?_
            rintro e v2 ⟨rfl, hb2⟩
            have HB2 := hid (HB1.out.trans (hb2.mono HB1.out.size))
            clear hb2
            go_wp2
            go_loopw [7, 8, 9] (fun vi _ _ wi => ∃ i : Nat, vi = .int .i64 ((i : Int) + 1) ∧ i ≤ n ∧ Hid (Below w.heap.size w wi)) (fun vi _ _ _ => (n + 1 - (intOf vi).toNat))
            case atStart => exact ⟨0, rfl, Nat.zero_le _, HB2⟩
            case round =>
              obtain ⟨i, rfl, hi, hBi⟩ := hrel
              have y5 : wr.cell? ⟨g, 1, none⟩ = some (.slice (some ⟨b, 0, none⟩) n cap) := (hBi.out.cell (p := ⟨g, 1, none⟩) HG.out).trans y1
              by_cases hin : i < n
              · have i1 : (i : Int) + 1 ≤ (n : Int) := by omega
                have HIN := hid hin
                have hnb := nb_eq c
                have HBZ := hid (RBlocks_z (c : Int))
                obtain ⟨m, hm⟩ : ∃ m, m = nb c := ⟨_, rfl⟩
                have hnl := nb_le c
                rw [← hm] at hnb hnl
                rw [← hnb] at HBZ
                have HM := hid hm
                obtain ⟨q, hq⟩ : ∃ q, cs[i]? = some q := ⟨_, List.getElem?_eq_getElem (by rw [H.out.al.cl]; exact hin)⟩
                have z1 := HAT.out i q hq
                have ZB := hid (show w.cell? ⟨b, i, none⟩ = some (.int .i64 q) ∧ b < w.heap.size from ⟨z1, World.block_lt_of_cell? w _ z1⟩)
                clear hm hq z1 hin
                go_wp2
                go_loopw [8, 9] (fun vj _ wj => ∃ j : Nat, vj = .int .i64 (j : Int) ∧ j ≤ m ∧ Hid (Below w.heap.size w wj)) (fun vj _ _ => (m - (intOf vj).toNat))
                case atStart => exact ⟨0, rfl, Nat.zero_le _, hBi⟩
                case round =>
                  obtain ⟨j, rfl, hj, hBj⟩ := hrel
                  have y6 : wr.cell? ⟨g, 1, none⟩ = some (.slice (some ⟨b, 0, none⟩) n cap) := (hBj.out.cell (p := ⟨g, 1, none⟩) HG.out).trans y1
                  have y7 : wr.cell? ⟨b, i, none⟩ = some (.int .i64 q) := (hBj.out.cell (p := ⟨b, i, none⟩) ZB.out.2).trans ZB.out.1
                  have k1 : (i : Int) + 1 - 1 = (i : Int) := by omega
                  have k0 : (0 : Int) ≤ (i : Int) := by omega
                  have k2 : (i : Int) < (n : Int) := by omega
                  have k3 := wrapN (q := i) (by omega)
                  have nxt : Hid (i + 1 ≤ n) := HIN.out
                  by_cases hjm : j < m
                  · have j1 : (j : Int) < (m : Int) := by omega
                    have j1' : decide ((j : Int) < (m : Int)) = true := decide_eq_true j1
                    have HJM := hid hjm
                    by_cases hqc : q = (c : Int)
                    · have e3 : (q == (c : Int)) = true := by simp [hqc]
                      clear hqc hjm
                      go_wp2_with fail
                      refine (HBZ.out _).mono ?_
                      rintro e v3 ⟨rfl, rfl⟩
                      go_wp2_with fail
                      refine (RBlock_z ((i : Int) + 1) (c : Int) (j : Int) _).mono ?_
                      rintro e v3 ⟨rfl, rfl⟩
                      obtain ⟨a, ha⟩ : ∃ a, a = blockZ ((i : Int) + 1) (c : Int) (j : Int) := ⟨_, rfl⟩
                      rw [← ha]
                      clear ha
                      have HIs := hid (Is_z N B V size A a n wr (H.out.bel hBj.out).sl H.out.hl H.out.hn)
                      have HWI := hid (WIs_r M g size cs ls _ vL a wr (H.out.bel hBj.out).wo (by have := H.out.few.2.1; omega))
                      rw [H.out.al.is a] at HIs
                      obtain ⟨I, hI⟩ : ∃ I, I = isGet ls a := ⟨_, rfl⟩
                      rw [← hI] at HIs HWI
                      have e4 : (I != I) = false := by simp
                      clear hI
                      go_wp2_with fail
                      refine HIs.out.mono ?_
                      rintro e v3 ⟨rfl, rfl⟩
                      go_wp2_with fail
                      refine HWI.out.mono ?_
                      rintro e v3 ⟨rfl, rfl⟩
                      go_wp2
                      go_roundw
                      case rel => exact ⟨j + 1, by go_num, HJM.out, hBj⟩
                      case measure => simp [intOf]; have := HJM.out; omega
                    · have e3 : (q == (c : Int)) = false := by simp [hqc]
                      clear hqc hjm
                      go_wp2_with fail
                      refine (HBZ.out _).mono ?_
                      rintro e v3 ⟨rfl, rfl⟩
                      go_wp2
                      go_roundw
                      case rel => exact ⟨i + 1, by go_num, nxt.out, hBj⟩
                      case measure => simp [intOf]; have := nxt.out; omega
                  · have j1 : ¬ (j : Int) < (m : Int) := by omega
                    have j1' : decide ((j : Int) < (m : Int)) = false := decide_eq_false j1
                    clear hjm
                    go_wp2_with fail
                    refine (HBZ.out _).mono ?_
                    rintro e v3 ⟨rfl, rfl⟩
                    go_wp2
                    go_roundw
                    case rel => exact ⟨i + 1, by go_num, nxt.out, hBj⟩
                    case measure => simp [intOf]; have := nxt.out; omega
              · have i1 : ¬ (i : Int) + 1 ≤ (n : Int) := by omega
                clear hin
                go_wp2
                go_roundw
                case rel => exact ⟨c + 1, by go_num, by omega, by have := HC13.out; omega, hBi⟩
                case measure => simp [intOf]; have := HC13.out; omega
          · have d1 : ¬ (c : Int) ≤ 3 := by omega
            clear hc3
            go_wp2
            go_ret
            exact ⟨rfl, hBc.out⟩
end Go.Proofs.YtbkaemajjaiklaaGreat
