/- A row of addresses sorted: a few out of place. -/
import Derived.Test.YtbkaemajjaiklaaSortE
namespace Go.Proofs.Ytbkaemajjaiklaa
open Go.RowKit
open Go.Sort (swp ltInt scanSorted shiftDown shiftUp fixDown fixUp partialIns partialInsertionSort)
set_option linter.unusedVariables false
set_option linter.unusedSimpArgs false

theorem sorted_go (d : Array Int) (b t q : Nat) (hq : t = q + 1) (h : t < b) (hp : ltInt d[t]! d[q]! = false) : scanSorted ltInt d b t = scanSorted ltInt d b (t + 1) := by
  subst hq; rw [scanSorted, if_pos (by simp [h, hp])]
theorem sorted_stop (d : Array Int) (b t q : Nat) (hq : t = q + 1) (h : t < b → ltInt d[t]! d[q]! = true) : scanSorted ltInt d b t = t := by
  subst hq; rw [scanSorted, if_neg]; intro hc; simp at hc; rw [h hc.1] at hc; simp at hc
theorem down_go2 (d : Array Int) (j : Nat) (h : ltInt d[j + 1]! d[j]! = true) : shiftDown ltInt (j + 1) d = shiftDown ltInt j (swp d (j + 1) j) := by rw [shiftDown, if_neg (by simp [h])]
theorem down_stop2 (d : Array Int) (j : Nat) (h : ltInt d[j + 1]! d[j]! = false) : shiftDown ltInt (j + 1) d = d := by rw [shiftDown, if_pos (by simp [h])]
theorem up_go2 (d : Array Int) (b j : Nat) (hb : j + 1 < b) (h : ltInt d[j + 1]! d[j]! = true) : shiftUp ltInt b (j + 1) d = shiftUp ltInt b (j + 2) (swp d (j + 1) j) := by rw [shiftUp, if_pos hb, if_neg (by simp [h])]; rfl
theorem up_stop2 (d : Array Int) (b j : Nat) (h : j + 1 < b → ltInt d[j + 1]! d[j]! = false) : shiftUp ltInt b (j + 1) d = d := by
  rw [shiftUp]
  by_cases hb : j + 1 < b
  · rw [if_pos hb, if_pos (by simp [h hb])]
  · rw [if_neg hb]
theorem sorted_ge (d : Array Int) (b : Nat) : ∀ (m i : Nat), b - i = m → i ≤ b → i ≤ scanSorted ltInt d b i ∧ scanSorted ltInt d b i ≤ b := by
  intro m
  induction m with
  | zero =>
    intro i hm hi
    rw [scanSorted, if_neg (by simp; omega)]
    exact ⟨Nat.le_refl _, hi⟩
  | succ m ih =>
    intro i hm hi
    rw [scanSorted]
    split
    · have := ih (i + 1) (by omega) (by omega)
      omega
    · exact ⟨Nat.le_refl _, hi⟩

set_option maxRecDepth 100000 in
set_option maxHeartbeats 8000000 in
theorem partial_s (g n cap : Nat) (d : Array Int) (tl : List Value) (a b : Nat) (hab : a < b) (hb : b ≤ n) (hn : n ≤ 1000000000) (w : World) (h : RowS w g n d tl) :
    Calls Try.prog 121 #[.slice (some ⟨g, 0, none⟩) n cap, .int .i64 (a : Int), .int .i64 (b : Int)] w fun e w' =>
      e = .returned (.bool (partialInsertionSort ltInt d a b).2) ∧ RowS w' g n (partialInsertionSort ltInt d a b).1 tl ∧ Only [g] w w' := by
  have a9 : (a : Int) ≤ 1000000000 := by omega
  have b9 : (b : Int) ≤ 1000000000 := by omega
  have H := hid h
  have AB := hid hab
  have BN := hid hb
  have HN := hid hn
  clear h hab hb hn
  go_enter Try.func121, Try.ntmps121
  go_wp2
  go_loopw [7, 8] (fun vi vj wr => ∃ (i s : Nat) (dk : Array Int), vi = .int .i64 i ∧ vj = .int .i64 ((5 - s : Nat) : Int) ∧ Hid (a < i ∧ i ≤ b ∧ s ≤ 5) ∧ Hid (RowS wr g n dk tl) ∧ Hid (Only [g] w wr) ∧
      Hid (partialIns ltInt a b s i dk = partialInsertionSort ltInt d a b)) (fun vi vj _ => 5 - (intOf vj).toNat)
  case atStart => exact ⟨a + 1, 5, d, by go_num, rfl, (by have := AB.out; omega : a < a + 1 ∧ a + 1 ≤ b ∧ 5 ≤ 5), H, Only.refl _ _, rfl⟩
  case round =>
    obtain ⟨i, s, dk, rfl, rfl, hij, hR, hO, hI⟩ := hrel
    have hnl := HN.out
    cases s with
    | zero =>
      have e : Hid ((dk, false) = partialInsertionSort ltInt d a b) := hI
      go_wp2
      go_ret
      rw [← e.out]
      exact ⟨rfl, hR.out, hO.out⟩
    | succ s =>
      obtain ⟨z, hz⟩ : ∃ z, z = 5 - (s + 1) := ⟨_, rfl⟩
      rw [← hz]
      have z9 : (z : Int) < 5 := by omega
      have z0 : (0 : Int) ≤ (z : Int) := by omega
      have HZ := hid hz
      clear hz
      go_upto_block 2 with fail
      go_cut [7] (fun s9 wc => ∃ i2 : Nat, s9 = .int .i64 i2 ∧ Hid (i2 = scanSorted ltInt dk b i) ∧ Hid (RowS wc g n dk tl) ∧ Hid (Only [g] w wc))
      case first =>
        go_wp2_with fail
        go_loopw [7] (fun vi wx => ∃ (t : Nat), vi = .int .i64 t ∧ Hid (i ≤ t ∧ t ≤ b) ∧ Hid (RowS wx g n dk tl) ∧ Hid (Only [g] w wx) ∧ Hid (scanSorted ltInt dk b t = scanSorted ltInt dk b i)) (fun vi _ => b - (intOf vi).toNat)
        case atStart => exact ⟨i, rfl, (⟨Nat.le_refl _, hij.out.2.1⟩ : i ≤ i ∧ i ≤ b), hR, hO, rfl⟩
        case round =>
          obtain ⟨t, rfl, ht, hR1, hO1, hT⟩ := hrel
          obtain ⟨q, hq⟩ : ∃ q, t = q + 1 := ⟨t - 1, by have := ht.out.1; have := hij.out.1; omega⟩
          have e1 : (t : Int) - 1 = (q : Int) := by omega
          have t9 : (t : Int) ≤ 1000000000 := by have := ht.out.2; omega
          have t0 : (0 : Int) ≤ (t : Int) := by omega
          have q0 : (0 : Int) ≤ (q : Int) := by omega
          have wq := wrapN (q := q) (by omega)
          have HQ := hid hq
          by_cases htj : t < b
          · have d1 : decide ((t : Int) < (b : Int)) = true := by simp; omega
            have d2 : (t : Int) < (b : Int) := by omega
            have bt : t < n := by have := BN.out; omega
            have tn : (t : Int) < (n : Int) := by omega
            have qn : (q : Int) < (n : Int) := by omega
            obtain ⟨x0, hx0⟩ : ∃ x, x = dk[t]! := ⟨_, rfl⟩
            obtain ⟨xq, hxq⟩ : ∃ x, x = dk[q]! := ⟨_, rfl⟩
            have c0 : wr.cell? ⟨g, t, none⟩ = some (.int .u64 x0) := by rw [hx0]; exact hR1.out.cell bt
            have cq : wr.cell? ⟨g, q, none⟩ = some (.int .u64 xq) := by rw [hxq]; exact hR1.out.cell (by omega)
            have HX0 := hid hx0
            have HXQ := hid hxq
            have HTJ := hid htj
            clear hx0 hxq htj bt hq
            go_wp2_with fail
            go_quiet (first | (go_at_call 122; exact Calls.quiet_of_same (Less_s _ _ _)))
            go_wp2
            · have hl : ltInt x0 xq = false := not_t (by assumption)
              go_roundw
              case rel =>
                refine ⟨t + 1, by go_num, (by have := ht.out; have := HTJ.out; omega : i ≤ t + 1 ∧ t + 1 ≤ b), hR1.out.drewN _, hO1.out.drewN _, ?_⟩
                show scanSorted ltInt dk b (t + 1) = _
                rw [← hT.out, ← sorted_go dk b t q HQ.out HTJ.out (by rw [← HX0.out, ← HXQ.out]; exact hl)]
              case measure => first | (simp [intOf]; done) | (simp [intOf]; omega)
            · have hl : ltInt x0 xq = true := not_f (by assumption)
              go_meet
              case rel =>
                refine ⟨t, rfl, ?_, hR1.out.drewN _, hO1.out.drewN _⟩
                show t = _
                rw [← hT.out, sorted_stop dk b t q HQ.out (fun _ => by rw [← HX0.out, ← HXQ.out]; exact hl)]
          · have d1 : decide ((t : Int) < (b : Int)) = false := by simp; omega
            have d2 : decide (t < b) = false := by simp; omega
            have HTJ := hid htj
            clear htj hq
            go_wp2_with fail
            go_quiet (first | (go_at_call 122; exact Calls.quiet_of_same (Less_s _ _ _)))
            go_wp2
            go_meet
            case rel =>
              refine ⟨t, rfl, ?_, hR1.out.drewN _, hO1.out.drewN _⟩
              show t = _
              rw [← hT.out, sorted_stop dk b t q HQ.out (fun h => absurd h HTJ.out)]
      case rest =>
        obtain ⟨i2, rfl, hi2, hR2, hO2⟩ := hcut
        have hib : Hid (i ≤ i2 ∧ i2 ≤ b) := by
          have := sorted_ge dk b _ i rfl hij.out.2.1
          rw [← hi2.out] at this
          exact this
        have heq := hid (Go.Sort.partialIns_succ (lt := ltInt) a b s i dk)
        rw [← hi2.out] at heq
        by_cases hend : i2 = b
        · have d1 : ((i2 : Int) == (b : Int)) = true := by simp [hend]
          have e := heq.out
          rw [if_pos hend, hI.out] at e
          have E := hid e
          clear e hend
          go_wp2
          go_ret
          rw [E.out]
          exact ⟨rfl, hR2.out, hO2.out⟩
        · have d1 : ((i2 : Int) == (b : Int)) = false := by simp; omega
          have HEND := hid hend
          by_cases h50 : b - a < 50
          · have d2 : (b : Int) - (a : Int) < 50 := by have := AB.out; omega
            have e := heq.out
            rw [if_neg hend, if_pos h50, hI.out] at e
            have E := hid e
            clear e hend h50
            go_wp2
            go_ret
            rw [E.out]
            exact ⟨rfl, hR2.out, hO2.out⟩
          · have d2 : ¬ (b : Int) - (a : Int) < 50 := by have := AB.out; omega
            have e := heq.out
            rw [if_neg hend, if_neg h50, hI.out] at e
            have E := hid e
            obtain ⟨q, hq⟩ : ∃ q, i2 = q + 1 := ⟨i2 - 1, by have := hib.out.1; have := hij.out.1; omega⟩
            have e1 : (i2 : Int) - 1 = (q : Int) := by omega
            have bi : i2 < n := by have := hib.out.2; have := BN.out; omega
            have bq : q < n := by omega
            have i20 : (0 : Int) ≤ (i2 : Int) := by omega
            have i29 : (i2 : Int) ≤ 1000000000 := by omega
            have i2n : (i2 : Int) < (n : Int) := by omega
            have q0 : (0 : Int) ≤ (q : Int) := by omega
            have qn : (q : Int) < (n : Int) := by omega
            have wq := wrapN (q := q) (by omega)
            have HQ := hid hq
            obtain ⟨x0, hx0⟩ : ∃ x, x = dk[i2]! := ⟨_, rfl⟩
            obtain ⟨xq, hxq⟩ : ∃ x, x = dk[q]! := ⟨_, rfl⟩
            have c0 : wc.cell? ⟨g, i2, none⟩ = some (.int .u64 x0) := by rw [hx0]; exact hR2.out.cell bi
            have cq : wc.cell? ⟨g, q, none⟩ = some (.int .u64 xq) := by rw [hxq]; exact hR2.out.cell bq
            have f0 := hR2.out.frozen i2
            have fq := hR2.out.frozen q
            obtain ⟨yq, hyq⟩ : ∃ y, (wc.setCell ⟨g, i2, none⟩ (.int .u64 xq)).cell? ⟨g, q, none⟩ = some (.int .u64 y) := ⟨_, (hR2.out.set_ xq bi).cell bq⟩
            have fq2 := (hR2.out.set_ xq bi).frozen q
            have HX0 := hid hx0
            have HXQ := hid hxq
            have BI := hid bi
            have BQ := hid bq
            have HI2 := hid (show a < i2 ∧ i2 < b by have := hib.out; have := hij.out; omega)
            clear hx0 hxq bi bq hq e hend h50 heq hI hR hO
            go_upto_region 11 with fail
            go_region
            obtain ⟨d1k, hd1k⟩ : ∃ D, D = swp dk i2 q := ⟨_, rfl⟩
            have R3 := hid (RowS.swpV hR2.out.drew BI.out BQ.out HX0.out HXQ.out)
            have O3 := hid (hO2.out.drew.trans (only_two _ g i2 q (Value.int .u64 xq) (Value.int .u64 x0)) (fun x hx => Or.inl hx))
            rw [← hd1k] at R3
            have E2 : Hid (partialIns ltInt a b s i2 (fixUp ltInt b i2 (fixDown ltInt a i2 d1k)) = partialInsertionSort ltInt d a b) := by
              show partialIns ltInt a b s i2 (fixUp ltInt b i2 (fixDown ltInt a i2 d1k)) = _
              rw [E.out, hd1k, show i2 - 1 = q by have := HQ.out; omega]
            clear hd1k E hR2 hO2 c0 cq f0 fq hyq fq2 HX0 HXQ
            go_upto_if 61 with fail
            go_cut [] (fun wc => Hid (RowS wc g n (fixDown ltInt a i2 d1k) tl) ∧ Hid (Only [g] w wc))
            case first =>
              by_cases h2 : i2 - a ≥ 2
              · have d3 : (i2 : Int) - (a : Int) ≥ 2 := by omega
                have ef : Hid (fixDown ltInt a i2 d1k = shiftDown ltInt q d1k) := by
                  show fixDown ltInt a i2 d1k = _
                  unfold fixDown
                  rw [if_pos h2, show i2 - 1 = q by have := HQ.out; omega]
                clear h2
                go_wp2
                go_loopw [9] (fun vj wx => ∃ (t : Nat) (dt : Array Int), vj = .int .i64 t ∧ Hid (t ≤ q) ∧ Hid (RowS wx g n dt tl) ∧ Hid (Only [g] w wx) ∧ Hid (shiftDown ltInt t dt = shiftDown ltInt q d1k)) (fun vj _ => (intOf vj).toNat)
                case atStart => exact ⟨q, d1k, rfl, Nat.le_refl _, R3, O3, rfl⟩
                case round =>
                  obtain ⟨t, dt, rfl, ht, hR4, hO4, hT⟩ := hrel
                  by_cases ht0 : t = 0
                  · subst ht0
                    have hT0 : Hid (dt = shiftDown ltInt q d1k) := hT
                    go_wp2
                    go_meet
                    case rel =>
                      refine ⟨?_, hO4⟩
                      rw [ef.out, ← hT0.out]; exact hR4
                  · obtain ⟨r, hr⟩ : ∃ r, t = r + 1 := ⟨t - 1, by omega⟩
                    have e2 : (t : Int) - 1 = (r : Int) := by omega
                    have bt : t < n := by have := ht.out; have := BQ.out; omega
                    have br : r < n := by omega
                    have t1 : (1 : Int) ≤ (t : Int) := by omega
                    have t1' : (t : Int) ≥ 1 := by omega
                    have t9 : (t : Int) ≤ 1000000000 := by omega
                    have tn : (t : Int) < (n : Int) := by omega
                    have r0 : (0 : Int) ≤ (r : Int) := by omega
                    have rn : (r : Int) < (n : Int) := by omega
                    have wr_ := wrapN (q := r) (by omega)
                    obtain ⟨x0, hx0⟩ : ∃ x, x = dt[t]! := ⟨_, rfl⟩
                    obtain ⟨xq, hxq⟩ : ∃ x, x = dt[r]! := ⟨_, rfl⟩
                    have c0 : wr.cell? ⟨g, t, none⟩ = some (.int .u64 x0) := by rw [hx0]; exact hR4.out.cell bt
                    have cq : wr.cell? ⟨g, r, none⟩ = some (.int .u64 xq) := by rw [hxq]; exact hR4.out.cell br
                    have HX0 := hid hx0
                    have HXQ := hid hxq
                    have BT := hid bt
                    have BR := hid br
                    have HR_ := hid hr
                    clear hx0 hxq bt br hr ht0
                    go_wp2_with fail
                    go_quiet (first | (go_at_call 122; exact Calls.quiet_of_same (Less_s _ _ _)))
                    go_wp2_with fail
                    · have hl : ltInt x0 xq = false := not_t (by assumption)
                      go_meet
                      case rel =>
                        refine ⟨?_, hO4.out.drewN _⟩
                        rw [ef.out, ← hT.out, HR_.out, down_stop2 dt r (by rw [← HXQ.out]; have := HX0.out; rw [HR_.out] at this; rw [← this]; exact hl)]
                        exact hR4.out.drewN _
                    · have hl : ltInt x0 xq = true := not_f (by assumption)
                      have HL := hid hl
                      clear hl
                      revert nq
                      intro nq1
                      have R5 : Hid (RowS (wr.drewN nq1) g n dt tl) := hR4.out.drewN nq1
                      have O5 : Hid (Only [g] w (wr.drewN nq1)) := hO4.out.drewN nq1
                      clear c0 cq hR4 hO4
                      generalize wr.drewN nq1 = wr2 at R5 O5 ⊢
                      have c0 : wr2.cell? ⟨g, t, none⟩ = some (.int .u64 x0) := by rw [HX0.out]; exact R5.out.cell BT.out
                      have cq : wr2.cell? ⟨g, r, none⟩ = some (.int .u64 xq) := by rw [HXQ.out]; exact R5.out.cell BR.out
                      have f0 := R5.out.frozen t
                      have fq := R5.out.frozen r
                      obtain ⟨yq, hyq⟩ : ∃ y, (wr2.setCell ⟨g, t, none⟩ (.int .u64 xq)).cell? ⟨g, r, none⟩ = some (.int .u64 y) := ⟨_, (R5.out.set_ xq BT.out).cell BR.out⟩
                      have fq2 := (R5.out.set_ xq BT.out).frozen r
                      go_region
                      all_goals go_wp2
                      go_roundw
                      case rel =>
                        refine ⟨r, _, rfl, (by have := ht.out; have := HR_.out; omega : r ≤ q), RowS.swpV R5.out.drew BT.out BR.out HX0.out HXQ.out, O5.out.drew.trans (only_two _ g _ _ _ _) (fun x hx => Or.inl hx), ?_⟩
                        show shiftDown ltInt r (swp dt t r) = _
                        rw [← hT.out, HR_.out, ← down_go2 dt r (by rw [← HXQ.out]; have := HX0.out; rw [HR_.out] at this; rw [← this]; exact HL.out)]
                      case measure => have := HR_.out; first | (simp [intOf]; done) | (simp [intOf]; omega)
              · have d3 : ¬ (i2 : Int) - (a : Int) ≥ 2 := by omega
                have ef : Hid (fixDown ltInt a i2 d1k = d1k) := by
                  show fixDown ltInt a i2 d1k = _
                  unfold fixDown
                  rw [if_neg h2]
                clear h2
                go_wp2
                go_meet
                case rel =>
                  refine ⟨?_, O3⟩
                  rw [ef.out]; exact R3
            case rest =>
              obtain ⟨R6, O6⟩ := hcut
              clear R3 O3
              obtain ⟨d2k, hd2k⟩ : ∃ D, D = fixDown ltInt a i2 d1k := ⟨_, rfl⟩
              rw [← hd2k] at E2 R6
              clear hd2k
              have OUT : Hid (∀ W, RowS W g n (fixUp ltInt b i2 d2k) tl → Only [g] w W → ∃ i' s' dk', Value.int .i64 (i2 : Int) = .int .i64 (i' : Nat) ∧ Value.int .i64 ((z : Int) + 1) = .int .i64 ((5 - s' : Nat) : Int) ∧ Hid (a < i' ∧ i' ≤ b ∧ s' ≤ 5) ∧ Hid (RowS W g n dk' tl) ∧ Hid (Only [g] w W) ∧ Hid (partialIns ltInt a b s' i' dk' = partialInsertionSort ltInt d a b)) := by
                intro W h1 h2
                have hz := HZ.out
                have hs := hij.out.2.2
                refine ⟨i2, s, _, rfl, by congr 1; omega, (by have := HI2.out; omega : a < i2 ∧ i2 ≤ b ∧ s ≤ 5), h1, h2, E2.out⟩
              by_cases h2 : b - i2 ≥ 2
              · have d4 : (b : Int) - (i2 : Int) ≥ 2 := by omega
                have ef : Hid (fixUp ltInt b i2 d2k = shiftUp ltInt b (i2 + 1) d2k) := by
                  show fixUp ltInt b i2 d2k = _
                  unfold fixUp
                  rw [if_pos h2]
                clear h2
                go_wp2
                go_loopw [10] (fun vj wx => ∃ (t : Nat) (dt : Array Int), vj = .int .i64 t ∧ Hid (i2 < t ∧ t ≤ b) ∧ Hid (RowS wx g n dt tl) ∧ Hid (Only [g] w wx) ∧ Hid (shiftUp ltInt b t dt = shiftUp ltInt b (i2 + 1) d2k)) (fun vj _ => b - (intOf vj).toNat)
                case atStart => exact ⟨i2 + 1, d2k, by go_num, (by have := HI2.out; omega : i2 < i2 + 1 ∧ i2 + 1 ≤ b), R6, O6, rfl⟩
                case round =>
                  obtain ⟨t, dt, rfl, ht, hR4, hO4, hT⟩ := hrel
                  obtain ⟨r, hr⟩ : ∃ r, t = r + 1 := ⟨t - 1, by have := ht.out; omega⟩
                  have HR_ := hid hr
                  by_cases htb : t < b
                  · have d5 : (t : Int) < (b : Int) := by omega
                    have e2 : (t : Int) - 1 = (r : Int) := by omega
                    have bt : t < n := by have := BN.out; omega
                    have br : r < n := by omega
                    have t0 : (0 : Int) ≤ (t : Int) := by omega
                    have t9 : (t : Int) ≤ 1000000000 := by omega
                    have tn : (t : Int) < (n : Int) := by omega
                    have r0 : (0 : Int) ≤ (r : Int) := by omega
                    have rn : (r : Int) < (n : Int) := by omega
                    have wr_ := wrapN (q := r) (by omega)
                    obtain ⟨x0, hx0⟩ : ∃ x, x = dt[t]! := ⟨_, rfl⟩
                    obtain ⟨xq, hxq⟩ : ∃ x, x = dt[r]! := ⟨_, rfl⟩
                    have c0 : wr.cell? ⟨g, t, none⟩ = some (.int .u64 x0) := by rw [hx0]; exact hR4.out.cell bt
                    have cq : wr.cell? ⟨g, r, none⟩ = some (.int .u64 xq) := by rw [hxq]; exact hR4.out.cell br
                    have HX0 := hid hx0
                    have HXQ := hid hxq
                    have BT := hid bt
                    have BR := hid br
                    have HTB := hid htb
                    clear hx0 hxq bt br hr htb
                    go_wp2_with fail
                    go_quiet (first | (go_at_call 122; exact Calls.quiet_of_same (Less_s _ _ _)))
                    go_wp2_with fail
                    · have hl : ltInt x0 xq = false := not_t (by assumption)
                      go_roundw
                      case rel =>
                        refine OUT.out _ ?_ (hO4.out.drewN _)
                        rw [ef.out, ← hT.out, HR_.out, up_stop2 dt b r (fun _ => by rw [← HXQ.out]; have := HX0.out; rw [HR_.out] at this; rw [← this]; exact hl)]
                        exact hR4.out.drewN _
                      case measure => first | (simp [intOf]; done) | (simp [intOf]; omega)
                    · have hl : ltInt x0 xq = true := not_f (by assumption)
                      have HL := hid hl
                      clear hl
                      revert nq
                      intro nq1
                      have R5 : Hid (RowS (wr.drewN nq1) g n dt tl) := hR4.out.drewN nq1
                      have O5 : Hid (Only [g] w (wr.drewN nq1)) := hO4.out.drewN nq1
                      clear c0 cq hR4 hO4
                      generalize wr.drewN nq1 = wr2 at R5 O5 ⊢
                      have c0 : wr2.cell? ⟨g, t, none⟩ = some (.int .u64 x0) := by rw [HX0.out]; exact R5.out.cell BT.out
                      have cq : wr2.cell? ⟨g, r, none⟩ = some (.int .u64 xq) := by rw [HXQ.out]; exact R5.out.cell BR.out
                      have f0 := R5.out.frozen t
                      have fq := R5.out.frozen r
                      obtain ⟨yq, hyq⟩ : ∃ y, (wr2.setCell ⟨g, t, none⟩ (.int .u64 xq)).cell? ⟨g, r, none⟩ = some (.int .u64 y) := ⟨_, (R5.out.set_ xq BT.out).cell BR.out⟩
                      have fq2 := (R5.out.set_ xq BT.out).frozen r
                      go_region
                      all_goals go_wp2
                      go_roundw
                      case rel =>
                        refine ⟨t + 1, _, by go_num, (by have := ht.out; have := HTB.out; omega : i2 < t + 1 ∧ t + 1 ≤ b), RowS.swpV R5.out.drew BT.out BR.out HX0.out HXQ.out, O5.out.drew.trans (only_two _ g _ _ _ _) (fun x hx => Or.inl hx), ?_⟩
                        show shiftUp ltInt b (t + 1) (swp dt t r) = _
                        have htb := HTB.out
                        rw [HR_.out] at htb
                        rw [← hT.out, HR_.out, up_go2 dt b r htb (by rw [← HXQ.out]; have := HX0.out; rw [HR_.out] at this; rw [← this]; exact HL.out)]
                      case measure => have := HTB.out; first | (simp [intOf]; done) | (simp [intOf]; omega)
                  · have d5 : ¬ (t : Int) < (b : Int) := by omega
                    have HTB := hid htb
                    clear hr htb
                    go_wp2
                    go_roundw
                    case rel =>
                      refine OUT.out _ ?_ hO4.out
                      have htb := HTB.out
                      rw [HR_.out] at htb
                      rw [ef.out, ← hT.out, HR_.out, up_stop2 dt b r (fun h => absurd h htb)]
                      exact hR4.out
                    case measure => first | (simp [intOf]; done) | (simp [intOf]; omega)
              · have d4 : ¬ (b : Int) - (i2 : Int) ≥ 2 := by have := HI2.out; omega
                have ef : Hid (fixUp ltInt b i2 d2k = d2k) := by
                  show fixUp ltInt b i2 d2k = _
                  unfold fixUp
                  rw [if_neg h2]
                clear h2
                go_wp2
                go_roundw
                case rel =>
                  refine OUT.out _ ?_ O6.out
                  rw [ef.out]; exact R6.out
                case measure => first | (simp [intOf]; done) | (simp [intOf]; omega)

end Go.Proofs.Ytbkaemajjaiklaa
