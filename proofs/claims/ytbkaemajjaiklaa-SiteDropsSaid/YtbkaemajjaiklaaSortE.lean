/- A row of addresses sorted: parted by a pivot. (Printed by tools/genSortE.py.) -/
import Derived.Test.YtbkaemajjaiklaaSortD
namespace Go.Proofs.Ytbkaemajjaiklaa
open Go.RowKit
open Go.Sort (swp ltInt scanUp scanDown partLoop partition)
set_option linter.unusedVariables false
set_option linter.unusedSimpArgs false

set_option maxRecDepth 100000 in
set_option maxHeartbeats 8000000 in
theorem part_s (g n cap : Nat) (d : Array Int) (tl : List Value) (a b p : Nat) (hap : a ≤ p) (hpb : p < b) (hb : b ≤ n) (hn : n ≤ 1000000000) (w : World) (h : RowS w g n d tl) :
    Calls Try.prog 124 #[.slice (some ⟨g, 0, none⟩) n cap, .int .i64 (a : Int), .int .i64 (b : Int), .int .i64 (p : Int)] w fun e w' =>
      e = .returned (.tuple #[.int .i64 ((partition ltInt d a b p).1 : Int), .bool (partition ltInt d a b p).2.1]) ∧ RowS w' g n (partition ltInt d a b p).2.2 tl ∧ Only [g] w w' := by
  have a9 : (a : Int) ≤ 1000000000 := by omega
  have b9 : (b : Int) ≤ 1000000000 := by omega
  have a0 : (0 : Int) ≤ (a : Int) := by omega
  have p0 : (0 : Int) ≤ (p : Int) := by omega
  have an : (a : Int) < (n : Int) := by omega
  have pn : (p : Int) < (n : Int) := by omega
  have b1 : (b : Int) - 1 = ((b - 1 : Nat) : Int) := by omega
  obtain ⟨j, hb'⟩ : ∃ j, j = b - 1 := ⟨_, rfl⟩
  rw [← hb'] at b1
  obtain ⟨x0, hx0⟩ : ∃ x, x = d[a]! := ⟨_, rfl⟩
  obtain ⟨xq, hxq⟩ : ∃ x, x = d[p]! := ⟨_, rfl⟩
  have hA : a < n := by omega
  have hP : p < n := by omega
  have c0 : w.cell? ⟨g, a, none⟩ = some (.int .u64 x0) := by rw [hx0]; exact h.cell hA
  have cq : w.cell? ⟨g, p, none⟩ = some (.int .u64 xq) := by rw [hxq]; exact h.cell hP
  have f0 := h.frozen a
  have fq := h.frozen p
  obtain ⟨yq, hyq⟩ : ∃ y, (w.setCell ⟨g, a, none⟩ (.int .u64 xq)).cell? ⟨g, p, none⟩ = some (.int .u64 y) := ⟨_, (h.set_ xq hA).cell hP⟩
  have fq2 := (h.set_ xq hA).frozen p
  have H := hid h
  have HX0 := hid hx0
  have HXQ := hid hxq
  have BN := hid hb
  have HN := hid hn
  have HA := hid hA
  have HP := hid hP
  have hij : Hid (a < a + 1 ∧ a + 1 ≤ j + 1 ∧ j < b) := by show a < a + 1 ∧ a + 1 ≤ j + 1 ∧ j < b; omega
  obtain ⟨dk, hdk⟩ : ∃ dk, dk = swp d a p := ⟨_, rfl⟩
  have hpe : Hid (partition ltInt d a b p = if scanUp (fun x => ltInt x dk[a]!) dk j (a + 1) > scanDown (fun x => !ltInt x dk[a]!) dk (scanUp (fun x => ltInt x dk[a]!) dk j (a + 1)) j then (scanDown (fun x => !ltInt x dk[a]!) dk (scanUp (fun x => ltInt x dk[a]!) dk j (a + 1)) j, true, swp dk (scanDown (fun x => !ltInt x dk[a]!) dk (scanUp (fun x => ltInt x dk[a]!) dk j (a + 1)) j) a) else
      ((partLoop ltInt a (scanUp (fun x => ltInt x dk[a]!) dk j (a + 1) + 1) (scanDown (fun x => !ltInt x dk[a]!) dk (scanUp (fun x => ltInt x dk[a]!) dk j (a + 1)) j - 1) (swp dk (scanUp (fun x => ltInt x dk[a]!) dk j (a + 1)) (scanDown (fun x => !ltInt x dk[a]!) dk (scanUp (fun x => ltInt x dk[a]!) dk j (a + 1)) j))).1, false,
        swp (partLoop ltInt a (scanUp (fun x => ltInt x dk[a]!) dk j (a + 1) + 1) (scanDown (fun x => !ltInt x dk[a]!) dk (scanUp (fun x => ltInt x dk[a]!) dk j (a + 1)) j - 1) (swp dk (scanUp (fun x => ltInt x dk[a]!) dk j (a + 1)) (scanDown (fun x => !ltInt x dk[a]!) dk (scanUp (fun x => ltInt x dk[a]!) dk j (a + 1)) j))).2
          (partLoop ltInt a (scanUp (fun x => ltInt x dk[a]!) dk j (a + 1) + 1) (scanDown (fun x => !ltInt x dk[a]!) dk (scanUp (fun x => ltInt x dk[a]!) dk j (a + 1)) j - 1) (swp dk (scanUp (fun x => ltInt x dk[a]!) dk j (a + 1)) (scanDown (fun x => !ltInt x dk[a]!) dk (scanUp (fun x => ltInt x dk[a]!) dk j (a + 1)) j))).1 a)) := by
    show partition ltInt d a b p = _
    rw [hb', hdk]; rfl
  have HDK := hid hdk
  clear h hx0 hxq hap hpb hb hn hA hP hb' hdk
  go_enter Try.func124, Try.ntmps124
  go_wp2
  go_region
  have hR : Hid (RowS ((w.setCell ⟨g, a, none⟩ (.int .u64 xq)).setCell ⟨g, p, none⟩ (.int .u64 x0)).drew g n dk tl) := by rw [HDK.out]; exact (RowS.swpV H.out HA.out HP.out HX0.out HXQ.out).drew
  have hO : Hid (Only [g] w ((w.setCell ⟨g, a, none⟩ (.int .u64 xq)).setCell ⟨g, p, none⟩ (.int .u64 x0)).drew) := (only_two w g a p (Value.int .u64 xq) (Value.int .u64 x0)).drew
  clear c0 cq f0 fq hyq fq2
  go_upto_block 0 with fail
  go_cut [10] (fun s9 wc => ∃ i2 : Nat, s9 = .int .i64 i2 ∧ Hid (i2 = scanUp (fun x => ltInt x dk[a]!) dk j (a + 1)) ∧ Hid (RowS wc g n dk tl) ∧ Hid (Only [g] w wc))
  case first =>
    go_wp2_with fail
    go_loopw [10] (fun vi wx => ∃ (t : Nat), vi = .int .i64 t ∧ Hid ((a + 1) ≤ t ∧ t ≤ j + 1) ∧ Hid (RowS wx g n dk tl) ∧ Hid (Only [g] w wx) ∧ Hid (scanUp (fun x => ltInt x dk[a]!) dk j t = scanUp (fun x => ltInt x dk[a]!) dk j (a + 1))) (fun vi _ => (j + 1 : Nat) - (intOf vi).toNat)
    case atStart => exact ⟨(a + 1), by first | rfl | go_num, (⟨Nat.le_refl _, hij.out.2.1⟩ : (a + 1) ≤ (a + 1) ∧ (a + 1) ≤ j + 1), hR, hO, rfl⟩
    case round =>
      obtain ⟨t, rfl, ht, hR1, hO1, hT⟩ := hrel
      obtain ⟨x0, hx0⟩ : ∃ x, x = dk[a]! := ⟨_, rfl⟩
      have hnl := HN.out
      have bj : j < n := by have := hij.out.2.2; have := BN.out; omega
      have t9 : (t : Int) ≤ 1000000000 := by have := ht.out.2; omega
      have t0 : (0 : Int) ≤ (t : Int) := by omega
      have j9 : (j : Int) ≤ 1000000000 := by omega
      have jn : (j : Int) < (n : Int) := by omega
      have c0 : wr.cell? ⟨g, a, none⟩ = some (.int .u64 x0) := by rw [hx0]; exact hR1.out.cell HA.out
      have HX0 := hid hx0
      by_cases htj : t ≤ j
      · have d1 : decide ((t : Int) ≤ (j : Int)) = true := by simp; omega
        have d2 : (t : Int) ≤ (j : Int) := by omega
        have tn : (t : Int) < (n : Int) := by omega
        obtain ⟨xt, hxt⟩ : ∃ x, x = dk[t]! := ⟨_, rfl⟩
        have ct : wr.cell? ⟨g, t, none⟩ = some (.int .u64 xt) := by rw [hxt]; exact hR1.out.cell (by omega)
        have HXT := hid hxt
        have HTJ := hid htj
        clear hx0 hxt htj bj
        go_wp2_with fail
        go_quiet (first | (go_at_call 122; exact Calls.quiet_of_same (Less_s _ _ _)))
        go_wp2
        · have hl : ltInt xt x0 = true := by assumption
          go_roundw
          case rel =>
            refine ⟨t + 1, by go_num, (by have := ht.out; have := HTJ.out; omega : (a + 1) ≤ t + 1 ∧ t + 1 ≤ j + 1), hR1.out.drewN _, hO1.out.drewN _, ?_⟩
            show scanUp _ dk j (t + 1) = _
            rw [← hT.out, ← up_go _ dk j t HTJ.out (by rw [← HX0.out, ← HXT.out]; exact hl)]
          case measure => first | (simp [intOf]; done) | (simp [intOf]; omega)
        · have hl : ltInt xt x0 = false := by assumption
          go_meet
          case rel =>
            refine ⟨t, rfl, ?_, hR1.out.drewN _, hO1.out.drewN _⟩
            show t = _
            rw [← hT.out, up_stop _ dk j t (fun _ => by rw [← HX0.out, ← HXT.out]; exact hl)]
      · have d1 : decide ((t : Int) ≤ (j : Int)) = false := by simp; omega
        have d2 : decide (t ≤ j) = false := by simp; omega
        have HTJ := hid htj
        clear hx0 htj bj
        go_wp2_with fail
        go_quiet (first | (go_at_call 122; exact Calls.quiet_of_same (Less_s _ _ _)))
        go_wp2
        go_meet
        case rel =>
          refine ⟨t, rfl, ?_, hR1.out.drewN _, hO1.out.drewN _⟩
          show t = _
          rw [← hT.out, up_stop _ dk j t (fun h => absurd h HTJ.out)]
  case rest =>
    obtain ⟨i2, rfl, hi2, hR2, hO2⟩ := hcut
    have hi2b : Hid ((a + 1) ≤ i2 ∧ i2 ≤ j + 1) := by
      have := Go.Sort.scanUp_spec (fun x => ltInt x dk[a]!) dk j _ ((a + 1)) rfl
      rw [← hi2.out] at this
      exact ⟨this.1, this.2.1 hij.out.2.1⟩
    go_upto_block 2 with fail
    go_cut [11] (fun s10 wc => ∃ j2 : Nat, s10 = .int .i64 j2 ∧ Hid (j2 = scanDown (fun x => !ltInt x dk[a]!) dk i2 j) ∧ Hid (RowS wc g n dk tl) ∧ Hid (Only [g] w wc))
    case first =>
      go_wp2_with fail
      go_loopw [11] (fun vi wx => ∃ (t : Nat), vi = .int .i64 t ∧ Hid (t ≤ j ∧ i2 ≤ t + 1) ∧ Hid (RowS wx g n dk tl) ∧ Hid (Only [g] w wx) ∧ Hid (scanDown (fun x => !ltInt x dk[a]!) dk i2 t = scanDown (fun x => !ltInt x dk[a]!) dk i2 j)) (fun vi _ => (intOf vi).toNat)
      case atStart => exact ⟨j, rfl, (⟨Nat.le_refl _, hi2b.out.2⟩ : j ≤ j ∧ i2 ≤ j + 1), hR2, hO2, rfl⟩
      case round =>
        obtain ⟨t, rfl, ht, hR1, hO1, hT⟩ := hrel
        obtain ⟨x0, hx0⟩ : ∃ x, x = dk[a]! := ⟨_, rfl⟩
        have hnl := HN.out
        have bj : j < n := by have := hij.out.2.2; have := BN.out; omega
        have i0 : 0 < i2 := by have := hi2b.out.1; have := hij.out.1; omega
        have t9 : (t : Int) ≤ 1000000000 := by have := ht.out.1; omega
        have t0 : (0 : Int) ≤ (t : Int) := by omega
        have c0 : wr.cell? ⟨g, a, none⟩ = some (.int .u64 x0) := by rw [hx0]; exact hR1.out.cell HA.out
        have HX0 := hid hx0
        have HI0 := hid i0
        by_cases htj : i2 ≤ t
        · obtain ⟨q, hq⟩ : ∃ q, t = q + 1 := ⟨t - 1, by omega⟩
          have d1 : decide ((i2 : Int) ≤ (t : Int)) = true := by simp; omega
          have d2 : (i2 : Int) ≤ (t : Int) := by omega
          have t1 : (1 : Int) ≤ (t : Int) := by omega
          have tn : (t : Int) < (n : Int) := by have := ht.out.1; omega
          obtain ⟨xt, hxt⟩ : ∃ x, x = dk[t]! := ⟨_, rfl⟩
          have ct : wr.cell? ⟨g, t, none⟩ = some (.int .u64 xt) := by rw [hxt]; exact hR1.out.cell (by omega)
          have HXT := hid hxt
          have HTJ := hid htj
          have HQ := hid hq
          clear hx0 hxt htj bj i0 hq
          go_wp2_with fail
          go_quiet (first | (go_at_call 122; exact Calls.quiet_of_same (Less_s _ _ _)))
          go_wp2
          · have hl : (!ltInt xt x0) = true := by assumption
            go_roundw
            case rel =>
              have := HQ.out
              refine ⟨q, by congr 1; omega, (by have := ht.out; have := HTJ.out; omega : q ≤ j ∧ i2 ≤ q + 1), hR1.out.drewN _, hO1.out.drewN _, ?_⟩
              show scanDown _ dk i2 q = _
              have h1 := HTJ.out
              have h2 := HXT.out
              rw [HQ.out] at h1 h2
              rw [← hT.out, HQ.out, ← down_go _ dk i2 q h1 (by rw [← HX0.out, ← h2]; exact hl)]
            case measure => first | (simp [intOf]; done) | (simp [intOf]; omega)
          · have hl : (!ltInt xt x0) = false := by assumption
            go_meet
            case rel =>
              refine ⟨t, rfl, ?_, hR1.out.drewN _, hO1.out.drewN _⟩
              show t = _
              rw [← hT.out, down_stop _ dk i2 t HI0.out (fun _ => by rw [← HX0.out, ← HXT.out]; exact hl)]
        · have d1 : decide ((i2 : Int) ≤ (t : Int)) = false := by simp; omega
          have d2 : decide (i2 ≤ t) = false := by simp; omega
          have HTJ := hid htj
          clear hx0 htj bj i0
          go_wp2_with fail
          go_quiet (first | (go_at_call 122; exact Calls.quiet_of_same (Less_s _ _ _)))
          go_wp2
          go_meet
          case rel =>
            refine ⟨t, rfl, ?_, hR1.out.drewN _, hO1.out.drewN _⟩
            show t = _
            rw [← hT.out, down_stop _ dk i2 t HI0.out (fun h => absurd h HTJ.out)]
    case rest =>
      obtain ⟨j2, rfl, hj2, hR3, hO3⟩ := hcut
      have hj2b : Hid (j2 ≤ j ∧ i2 ≤ j2 + 1) := by
        have := Go.Sort.scanDown_spec (fun x => !ltInt x dk[a]!) dk i2 j
        rw [← hj2.out] at this
        exact ⟨this.1, this.2.1 hi2b.out.2⟩
      rw [← hi2.out, ← hj2.out] at hpe
      by_cases hgt : i2 > j2
      · have d1 : (i2 : Int) > (j2 : Int) := by omega
        have e := hid (show partition ltInt d a b p = (j2, true, swp dk j2 a) from hpe.out.trans (if_pos hgt))
        clear hgt hpe
        have hnl := HN.out
        have bi : j2 < n := by have := hj2b.out.1; have := hij.out.2.2; have := BN.out; omega
        have bj : a < n := HA.out
        have i20 : (0 : Int) ≤ (j2 : Int) := by omega
        have i2n : (j2 : Int) < (n : Int) := by omega
        have j20 : (0 : Int) ≤ (a : Int) := by omega
        have j2n : (a : Int) < (n : Int) := by omega
        have i29 : (j2 : Int) ≤ 1000000000 := by omega
        have j29 : (a : Int) ≤ 1000000000 := by omega
        obtain ⟨x0, hx0⟩ : ∃ x, x = dk[j2]! := ⟨_, rfl⟩
        obtain ⟨xq, hxq⟩ : ∃ x, x = dk[a]! := ⟨_, rfl⟩
        have c0 : wc.cell? ⟨g, j2, none⟩ = some (.int .u64 x0) := by rw [hx0]; exact hR3.out.cell bi
        have cq : wc.cell? ⟨g, a, none⟩ = some (.int .u64 xq) := by rw [hxq]; exact hR3.out.cell bj
        have f0 := hR3.out.frozen j2
        have fq := hR3.out.frozen a
        obtain ⟨yq, hyq⟩ : ∃ y, (wc.setCell ⟨g, j2, none⟩ (.int .u64 xq)).cell? ⟨g, a, none⟩ = some (.int .u64 y) := ⟨_, (hR3.out.set_ xq bi).cell bj⟩
        have fq2 := (hR3.out.set_ xq bi).frozen a
        have HX0 := hid hx0
        have HXQ := hid hxq
        have BI := hid bi
        have BJ := hid bj
        clear hx0 hxq bi bj
        go_wp2
        go_region
        all_goals go_wp2
        go_ret2
        rw [e.out]
        exact ⟨rfl, RowS.swpV hR3.out.drew BI.out BJ.out HX0.out HXQ.out, hO3.out.drew.trans (only_two _ g _ _ _ _) (fun x hx => Or.inl hx)⟩
      · have d1 : ¬ (i2 : Int) > (j2 : Int) := by omega
        have hne : i2 ≠ j2 := by
          intro e
          have h1 := (Go.Sort.scanUp_spec (fun x => ltInt x dk[a]!) dk j _ (a + 1) rfl).2.2.2
          rw [← hi2.out] at h1
          have h2 := (Go.Sort.scanDown_spec (fun x => !ltInt x dk[a]!) dk i2 j).2.2.2
          rw [← hj2.out] at h2
          have h3 := h1 (by have := hj2b.out.1; omega)
          have h4 := h2 (by omega) (by have := hij.out.1; have := hi2b.out.1; omega)
          rw [e] at h3
          simp [h3] at h4
        have HLT : Hid (i2 < j2) := by show i2 < j2; omega
        have J1 : Hid (1 ≤ j2) := by have := HLT.out; show 1 ≤ j2; omega
        have HGT := hid hgt
        clear hgt hne
        have e := hid (hpe.out.trans (if_neg HGT.out))
        clear hpe
        have hnl := HN.out
        have bi : i2 < n := by have := HLT.out; have := hj2b.out.1; have := hij.out.2.2; have := BN.out; omega
        have bj : j2 < n := by have := hj2b.out.1; have := hij.out.2.2; have := BN.out; omega
        have i20 : (0 : Int) ≤ (i2 : Int) := by omega
        have i2n : (i2 : Int) < (n : Int) := by omega
        have j20 : (0 : Int) ≤ (j2 : Int) := by omega
        have j2n : (j2 : Int) < (n : Int) := by omega
        have i29 : (i2 : Int) ≤ 1000000000 := by omega
        have j29 : (j2 : Int) ≤ 1000000000 := by omega
        obtain ⟨x0, hx0⟩ : ∃ x, x = dk[i2]! := ⟨_, rfl⟩
        obtain ⟨xq, hxq⟩ : ∃ x, x = dk[j2]! := ⟨_, rfl⟩
        have c0 : wc.cell? ⟨g, i2, none⟩ = some (.int .u64 x0) := by rw [hx0]; exact hR3.out.cell bi
        have cq : wc.cell? ⟨g, j2, none⟩ = some (.int .u64 xq) := by rw [hxq]; exact hR3.out.cell bj
        have f0 := hR3.out.frozen i2
        have fq := hR3.out.frozen j2
        obtain ⟨yq, hyq⟩ : ∃ y, (wc.setCell ⟨g, i2, none⟩ (.int .u64 xq)).cell? ⟨g, j2, none⟩ = some (.int .u64 y) := ⟨_, (hR3.out.set_ xq bi).cell bj⟩
        have fq2 := (hR3.out.set_ xq bi).frozen j2
        have HX0 := hid hx0
        have HXQ := hid hxq
        have BI := hid bi
        have BJ := hid bj
        clear hx0 hxq bi bj
        go_wp2
        go_region
        have R4 := hid (RowS.swpV hR3.out.drew BI.out BJ.out HX0.out HXQ.out)
        have O4 := hid (hO3.out.drew.trans (only_two _ g i2 j2 (Value.int .u64 xq) (Value.int .u64 x0)) (fun x hx => Or.inl hx))
        obtain ⟨I0, hI0⟩ : ∃ I0, I0 = i2 + 1 := ⟨_, rfl⟩
        obtain ⟨J0, hJ0⟩ : ∃ J0, J0 = j2 - 1 := ⟨_, rfl⟩
        have eI : (i2 : Int) + 1 = (I0 : Int) := by omega
        have eJ : (j2 : Int) - 1 = (J0 : Int) := by have := J1.out; omega
        obtain ⟨dm, hdm⟩ : ∃ dm, dm = swp dk i2 j2 := ⟨_, rfl⟩
        rw [← hdm] at R4
        have e2 : Hid (partition ltInt d a b p = ((partLoop ltInt a I0 J0 dm).1, false, swp (partLoop ltInt a I0 J0 dm).2 (partLoop ltInt a I0 J0 dm).1 a)) := by
          show partition ltInt d a b p = _
          rw [hI0, hJ0, hdm]; exact e.out
        have hIJ : Hid (a < I0 ∧ I0 ≤ J0 + 1 ∧ J0 < b) := by
          show a < I0 ∧ I0 ≤ J0 + 1 ∧ J0 < b
          have := HLT.out; have := hi2b.out; have := hj2b.out; have := hij.out; omega
        have wI := wrapN (q := I0) (by omega)
        have wJ := wrapN (q := J0) (by omega)
        clear e hI0 hJ0 hdm c0 cq f0 fq hyq fq2 HX0 HXQ hij hi2 hj2 hi2b hj2b
        go_wp2
        go_loopw [10, 11] (fun vi vj wr => ∃ (i j : Nat) (dk : Array Int), vi = .int .i64 i ∧ vj = .int .i64 j ∧ Hid (a < i ∧ i ≤ j + 1 ∧ j < b) ∧ Hid (RowS wr g n dk tl) ∧ Hid (Only [g] w wr) ∧
            Hid (partLoop ltInt a i j dk = partLoop ltInt a I0 J0 dm)) (fun vi vj _ => (intOf vj + 1 - intOf vi).toNat)
        case atStart => exact ⟨I0, J0, dm, rfl, rfl, hIJ, R4, O4, rfl⟩
        case round =>
          clear hIJ R4 O4 hR hO hR2 hO2 hR3 hO3
          obtain ⟨i, j, dk, rfl, rfl, hij, hR, hO, hI⟩ := hrel
          go_upto_block 6 with fail
          go_cut [10] (fun s9 wc => ∃ i2 : Nat, s9 = .int .i64 i2 ∧ Hid (i2 = scanUp (fun x => ltInt x dk[a]!) dk j i) ∧ Hid (RowS wc g n dk tl) ∧ Hid (Only [g] w wc))
          case first =>
            go_wp2_with fail
            go_loopw [10] (fun vi wx => ∃ (t : Nat), vi = .int .i64 t ∧ Hid (i ≤ t ∧ t ≤ j + 1) ∧ Hid (RowS wx g n dk tl) ∧ Hid (Only [g] w wx) ∧ Hid (scanUp (fun x => ltInt x dk[a]!) dk j t = scanUp (fun x => ltInt x dk[a]!) dk j i)) (fun vi _ => (j + 1 : Nat) - (intOf vi).toNat)
            case atStart => exact ⟨i, by first | rfl | go_num, (⟨Nat.le_refl _, hij.out.2.1⟩ : i ≤ i ∧ i ≤ j + 1), hR, hO, rfl⟩
            case round =>
              obtain ⟨t, rfl, ht, hR1, hO1, hT⟩ := hrel
              obtain ⟨x0, hx0⟩ : ∃ x, x = dk[a]! := ⟨_, rfl⟩
              have hnl := HN.out
              have bj : j < n := by have := hij.out.2.2; have := BN.out; omega
              have t9 : (t : Int) ≤ 1000000000 := by have := ht.out.2; omega
              have t0 : (0 : Int) ≤ (t : Int) := by omega
              have j9 : (j : Int) ≤ 1000000000 := by omega
              have jn : (j : Int) < (n : Int) := by omega
              have c0 : wr.cell? ⟨g, a, none⟩ = some (.int .u64 x0) := by rw [hx0]; exact hR1.out.cell HA.out
              have HX0 := hid hx0
              by_cases htj : t ≤ j
              · have d1 : decide ((t : Int) ≤ (j : Int)) = true := by simp; omega
                have d2 : (t : Int) ≤ (j : Int) := by omega
                have tn : (t : Int) < (n : Int) := by omega
                obtain ⟨xt, hxt⟩ : ∃ x, x = dk[t]! := ⟨_, rfl⟩
                have ct : wr.cell? ⟨g, t, none⟩ = some (.int .u64 xt) := by rw [hxt]; exact hR1.out.cell (by omega)
                have HXT := hid hxt
                have HTJ := hid htj
                clear hx0 hxt htj bj
                go_wp2_with fail
                go_quiet (first | (go_at_call 122; exact Calls.quiet_of_same (Less_s _ _ _)))
                go_wp2
                · have hl : ltInt xt x0 = true := by assumption
                  go_roundw
                  case rel =>
                    refine ⟨t + 1, by go_num, (by have := ht.out; have := HTJ.out; omega : i ≤ t + 1 ∧ t + 1 ≤ j + 1), hR1.out.drewN _, hO1.out.drewN _, ?_⟩
                    show scanUp _ dk j (t + 1) = _
                    rw [← hT.out, ← up_go _ dk j t HTJ.out (by rw [← HX0.out, ← HXT.out]; exact hl)]
                  case measure => first | (simp [intOf]; done) | (simp [intOf]; omega)
                · have hl : ltInt xt x0 = false := by assumption
                  go_meet
                  case rel =>
                    refine ⟨t, rfl, ?_, hR1.out.drewN _, hO1.out.drewN _⟩
                    show t = _
                    rw [← hT.out, up_stop _ dk j t (fun _ => by rw [← HX0.out, ← HXT.out]; exact hl)]
              · have d1 : decide ((t : Int) ≤ (j : Int)) = false := by simp; omega
                have d2 : decide (t ≤ j) = false := by simp; omega
                have HTJ := hid htj
                clear hx0 htj bj
                go_wp2_with fail
                go_quiet (first | (go_at_call 122; exact Calls.quiet_of_same (Less_s _ _ _)))
                go_wp2
                go_meet
                case rel =>
                  refine ⟨t, rfl, ?_, hR1.out.drewN _, hO1.out.drewN _⟩
                  show t = _
                  rw [← hT.out, up_stop _ dk j t (fun h => absurd h HTJ.out)]
          case rest =>
            obtain ⟨i2, rfl, hi2, hR2, hO2⟩ := hcut
            have hi2b : Hid (i ≤ i2 ∧ i2 ≤ j + 1) := by
              have := Go.Sort.scanUp_spec (fun x => ltInt x dk[a]!) dk j _ (i) rfl
              rw [← hi2.out] at this
              exact ⟨this.1, this.2.1 hij.out.2.1⟩
            go_upto_block 8 with fail
            go_cut [11] (fun s10 wc => ∃ j2 : Nat, s10 = .int .i64 j2 ∧ Hid (j2 = scanDown (fun x => !ltInt x dk[a]!) dk i2 j) ∧ Hid (RowS wc g n dk tl) ∧ Hid (Only [g] w wc))
            case first =>
              go_wp2_with fail
              go_loopw [11] (fun vi wx => ∃ (t : Nat), vi = .int .i64 t ∧ Hid (t ≤ j ∧ i2 ≤ t + 1) ∧ Hid (RowS wx g n dk tl) ∧ Hid (Only [g] w wx) ∧ Hid (scanDown (fun x => !ltInt x dk[a]!) dk i2 t = scanDown (fun x => !ltInt x dk[a]!) dk i2 j)) (fun vi _ => (intOf vi).toNat)
              case atStart => exact ⟨j, rfl, (⟨Nat.le_refl _, hi2b.out.2⟩ : j ≤ j ∧ i2 ≤ j + 1), hR2, hO2, rfl⟩
              case round =>
                obtain ⟨t, rfl, ht, hR1, hO1, hT⟩ := hrel
                obtain ⟨x0, hx0⟩ : ∃ x, x = dk[a]! := ⟨_, rfl⟩
                have hnl := HN.out
                have bj : j < n := by have := hij.out.2.2; have := BN.out; omega
                have i0 : 0 < i2 := by have := hi2b.out.1; have := hij.out.1; omega
                have t9 : (t : Int) ≤ 1000000000 := by have := ht.out.1; omega
                have t0 : (0 : Int) ≤ (t : Int) := by omega
                have c0 : wr.cell? ⟨g, a, none⟩ = some (.int .u64 x0) := by rw [hx0]; exact hR1.out.cell HA.out
                have HX0 := hid hx0
                have HI0 := hid i0
                by_cases htj : i2 ≤ t
                · obtain ⟨q, hq⟩ : ∃ q, t = q + 1 := ⟨t - 1, by omega⟩
                  have d1 : decide ((i2 : Int) ≤ (t : Int)) = true := by simp; omega
                  have d2 : (i2 : Int) ≤ (t : Int) := by omega
                  have t1 : (1 : Int) ≤ (t : Int) := by omega
                  have tn : (t : Int) < (n : Int) := by have := ht.out.1; omega
                  obtain ⟨xt, hxt⟩ : ∃ x, x = dk[t]! := ⟨_, rfl⟩
                  have ct : wr.cell? ⟨g, t, none⟩ = some (.int .u64 xt) := by rw [hxt]; exact hR1.out.cell (by omega)
                  have HXT := hid hxt
                  have HTJ := hid htj
                  have HQ := hid hq
                  clear hx0 hxt htj bj i0 hq
                  go_wp2_with fail
                  go_quiet (first | (go_at_call 122; exact Calls.quiet_of_same (Less_s _ _ _)))
                  go_wp2
                  · have hl : (!ltInt xt x0) = true := by assumption
                    go_roundw
                    case rel =>
                      have := HQ.out
                      refine ⟨q, by congr 1; omega, (by have := ht.out; have := HTJ.out; omega : q ≤ j ∧ i2 ≤ q + 1), hR1.out.drewN _, hO1.out.drewN _, ?_⟩
                      show scanDown _ dk i2 q = _
                      have h1 := HTJ.out
                      have h2 := HXT.out
                      rw [HQ.out] at h1 h2
                      rw [← hT.out, HQ.out, ← down_go _ dk i2 q h1 (by rw [← HX0.out, ← h2]; exact hl)]
                    case measure => first | (simp [intOf]; done) | (simp [intOf]; omega)
                  · have hl : (!ltInt xt x0) = false := by assumption
                    go_meet
                    case rel =>
                      refine ⟨t, rfl, ?_, hR1.out.drewN _, hO1.out.drewN _⟩
                      show t = _
                      rw [← hT.out, down_stop _ dk i2 t HI0.out (fun _ => by rw [← HX0.out, ← HXT.out]; exact hl)]
                · have d1 : decide ((i2 : Int) ≤ (t : Int)) = false := by simp; omega
                  have d2 : decide (i2 ≤ t) = false := by simp; omega
                  have HTJ := hid htj
                  clear hx0 htj bj i0
                  go_wp2_with fail
                  go_quiet (first | (go_at_call 122; exact Calls.quiet_of_same (Less_s _ _ _)))
                  go_wp2
                  go_meet
                  case rel =>
                    refine ⟨t, rfl, ?_, hR1.out.drewN _, hO1.out.drewN _⟩
                    show t = _
                    rw [← hT.out, down_stop _ dk i2 t HI0.out (fun h => absurd h HTJ.out)]
            case rest =>
              obtain ⟨j2, rfl, hj2, hR3, hO3⟩ := hcut
              have hj2b : Hid (j2 ≤ j ∧ i2 ≤ j2 + 1) := by
                have := Go.Sort.scanDown_spec (fun x => !ltInt x dk[a]!) dk i2 j
                rw [← hj2.out] at this
                exact ⟨this.1, this.2.1 hi2b.out.2⟩
              have heq : Hid (partLoop ltInt a i j dk = if i2 > j2 then (j2, dk) else partLoop ltInt a (i2 + 1) (j2 - 1) (swp dk i2 j2)) := by
                show partLoop ltInt a i j dk = _
                rw [Go.Sort.partLoop_eq, ← hi2.out, ← hj2.out]
              by_cases hgt : i2 > j2
              · have d1 : (i2 : Int) > (j2 : Int) := by omega
                have e := hid (heq.out.trans (if_pos hgt))
                clear hgt
                have hnl := HN.out
                have bi : j2 < n := by have := hj2b.out.1; have := hij.out.2.2; have := BN.out; omega
                have bj : a < n := HA.out
                have i20 : (0 : Int) ≤ (j2 : Int) := by omega
                have i2n : (j2 : Int) < (n : Int) := by omega
                have j20 : (0 : Int) ≤ (a : Int) := by omega
                have j2n : (a : Int) < (n : Int) := by omega
                have i29 : (j2 : Int) ≤ 1000000000 := by omega
                have j29 : (a : Int) ≤ 1000000000 := by omega
                obtain ⟨x0, hx0⟩ : ∃ x, x = dk[j2]! := ⟨_, rfl⟩
                obtain ⟨xq, hxq⟩ : ∃ x, x = dk[a]! := ⟨_, rfl⟩
                have c0 : wc.cell? ⟨g, j2, none⟩ = some (.int .u64 x0) := by rw [hx0]; exact hR3.out.cell bi
                have cq : wc.cell? ⟨g, a, none⟩ = some (.int .u64 xq) := by rw [hxq]; exact hR3.out.cell bj
                have f0 := hR3.out.frozen j2
                have fq := hR3.out.frozen a
                obtain ⟨yq, hyq⟩ : ∃ y, (wc.setCell ⟨g, j2, none⟩ (.int .u64 xq)).cell? ⟨g, a, none⟩ = some (.int .u64 y) := ⟨_, (hR3.out.set_ xq bi).cell bj⟩
                have fq2 := (hR3.out.set_ xq bi).frozen a
                have HX0 := hid hx0
                have HXQ := hid hxq
                have BI := hid bi
                have BJ := hid bj
                clear hx0 hxq bi bj
                go_wp2
                go_region
                all_goals go_wp2
                go_ret2
                rw [e2.out, ← hI.out, e.out]
                exact ⟨rfl, RowS.swpV hR3.out.drew BI.out BJ.out HX0.out HXQ.out, hO3.out.drew.trans (only_two _ g _ _ _ _) (fun x hx => Or.inl hx)⟩
              · have d1 : ¬ (i2 : Int) > (j2 : Int) := by omega
                have hne : i2 ≠ j2 := by
                  intro e
                  have h1 := (Go.Sort.scanUp_spec (fun x => ltInt x dk[a]!) dk j _ (i) rfl).2.2.2
                  rw [← hi2.out] at h1
                  have h2 := (Go.Sort.scanDown_spec (fun x => !ltInt x dk[a]!) dk i2 j).2.2.2
                  rw [← hj2.out] at h2
                  have h3 := h1 (by have := hj2b.out.1; omega)
                  have h4 := h2 (by omega) (by have := hij.out.1; have := hi2b.out.1; omega)
                  rw [e] at h3
                  simp [h3] at h4
                have HLT : Hid (i2 < j2) := by show i2 < j2; omega
                have J1 : Hid (1 ≤ j2) := by have := HLT.out; show 1 ≤ j2; omega
                have HGT := hid hgt
                clear hgt hne
                have e := hid (heq.out.trans (if_neg HGT.out))
                clear heq
                have hnl := HN.out
                have bi : i2 < n := by have := HLT.out; have := hj2b.out.1; have := hij.out.2.2; have := BN.out; omega
                have bj : j2 < n := by have := hj2b.out.1; have := hij.out.2.2; have := BN.out; omega
                have i20 : (0 : Int) ≤ (i2 : Int) := by omega
                have i2n : (i2 : Int) < (n : Int) := by omega
                have j20 : (0 : Int) ≤ (j2 : Int) := by omega
                have j2n : (j2 : Int) < (n : Int) := by omega
                have i29 : (i2 : Int) ≤ 1000000000 := by omega
                have j29 : (j2 : Int) ≤ 1000000000 := by omega
                obtain ⟨x0, hx0⟩ : ∃ x, x = dk[i2]! := ⟨_, rfl⟩
                obtain ⟨xq, hxq⟩ : ∃ x, x = dk[j2]! := ⟨_, rfl⟩
                have c0 : wc.cell? ⟨g, i2, none⟩ = some (.int .u64 x0) := by rw [hx0]; exact hR3.out.cell bi
                have cq : wc.cell? ⟨g, j2, none⟩ = some (.int .u64 xq) := by rw [hxq]; exact hR3.out.cell bj
                have f0 := hR3.out.frozen i2
                have fq := hR3.out.frozen j2
                obtain ⟨yq, hyq⟩ : ∃ y, (wc.setCell ⟨g, i2, none⟩ (.int .u64 xq)).cell? ⟨g, j2, none⟩ = some (.int .u64 y) := ⟨_, (hR3.out.set_ xq bi).cell bj⟩
                have fq2 := (hR3.out.set_ xq bi).frozen j2
                have HX0 := hid hx0
                have HXQ := hid hxq
                have BI := hid bi
                have BJ := hid bj
                clear hx0 hxq bi bj
                go_wp2
                go_region
                all_goals go_wp2
                go_roundw
                case rel =>
                  refine ⟨i2 + 1, j2 - 1, swp dk i2 j2, by go_num, by have := J1.out; go_num, (by have := hij.out; have := hi2b.out; have := hj2b.out; have := J1.out; have := HLT.out; omega : a < i2 + 1 ∧ i2 + 1 ≤ j2 - 1 + 1 ∧ j2 - 1 < b), ?_, ?_, ?_⟩
                  · exact RowS.swpV hR3.out.drew BI.out BJ.out HX0.out HXQ.out
                  · exact hO3.out.drew.trans (only_two _ g _ _ _ _) (fun x hx => Or.inl hx)
                  · show partLoop ltInt a (i2 + 1) (j2 - 1) (swp dk i2 j2) = _
                    rw [← e.out]; exact hI.out
                case measure => have := hi2b.out; have := hj2b.out; first | (simp [intOf]; done) | (simp [intOf]; omega)

end Go.Proofs.Ytbkaemajjaiklaa
