/- The document's Pairs: the least key, then the least one above it, and so on. -/
import Derived.Maps.AppendAt
import Derived.Test.YtdhnacajgmjmlaaRefC
namespace Go.Proofs.Ytdhnacajgmjmlaa
open Go.RowKit
set_option linter.unusedVariables false

def kx (L : RL) (x : Nat) : Int := match L[x]? with | some p => p.1 | none => 0
theorem kx_in {L : RL} {x : Nat} (h : x < L.length) : kx L x = L[x].1 := by unfold kx; rw [List.getElem?_eq_getElem h]
def Cand (L : RL) (j x : Nat) : Prop := x < L.length ∧ findZ (kx L x) L = (x : Int) ∧ ∀ q ∈ (absL L).take j, q.1 < kx L x
def LeastS (L : RL) (j i : Nat) (l : Int) : Prop :=
  (l = -1 ∧ ∀ x, x < i → ¬ Cand L j x) ∨ ∃ c : Nat, l = (c : Int) ∧ c < i ∧ Cand L j c ∧ ∀ x, x < i → Cand L j x → kx L c ≤ kx L x
theorem cand_last {ps : PairL} (hr : Rises ps) {j : Nat} (h0 : 0 < j) (hj : j ≤ ps.length) (k : Int) : (∀ q ∈ ps.take j, q.1 < k) ↔ (ps[j - 1]'(by omega)).1 < k := by
  constructor
  · intro h
    refine h _ (List.mem_iff_getElem.2 ⟨j - 1, by simp; omega, by simp⟩)
  · intro h q hq
    obtain ⟨i, hi, rfl⟩ := List.mem_iff_getElem.1 hq
    have hi' : i < j := by simp at hi; omega
    rw [List.getElem_take]
    by_cases he : i = j - 1
    · subst he; exact h
    · have := hr i (j - 1) (by omega) (by omega); omega
theorem LeastS.start (L : RL) (j : Nat) : LeastS L j 0 (-1) := Or.inl ⟨rfl, fun x hx => by omega⟩
theorem LeastS.skip {L : RL} {j i : Nat} {l : Int} (h : LeastS L j i l) (hn : ¬ Cand L j i) : LeastS L j (i + 1) l := by
  rcases h with ⟨h, hx⟩ | ⟨c, h, hc, hcc, hx⟩
  · refine Or.inl ⟨h, fun x hxi hcx => ?_⟩
    by_cases he : x = i
    · subst he; exact hn hcx
    · exact hx x (by omega) hcx
  · refine Or.inr ⟨c, h, by omega, hcc, fun x hxi hcx => ?_⟩
    by_cases he : x = i
    · subst he; exact absurd hcx hn
    · exact hx x (by omega) hcx
theorem LeastS.first {L : RL} {j i : Nat} {l : Int} (h : LeastS L j i l) (hl : l < 0) (hc : Cand L j i) : LeastS L j (i + 1) (i : Int) := by
  rcases h with ⟨h, hx⟩ | ⟨c, h, hc', _⟩
  · refine Or.inr ⟨i, rfl, by omega, hc, fun x hxi hcx => ?_⟩
    by_cases he : x = i
    · subst he; exact Int.le_refl _
    · exact absurd hcx (hx x (by omega))
  · omega
theorem LeastS.less {L : RL} {j i c : Nat} (h : LeastS L j i (c : Int)) (hc : Cand L j i) (hlt : kx L i < kx L c) : LeastS L j (i + 1) (i : Int) := by
  rcases h with ⟨h, hx⟩ | ⟨c', h, hc', _, hx⟩
  · omega
  · obtain rfl : c = c' := by omega
    refine Or.inr ⟨i, rfl, by omega, hc, fun x hxi hcx => ?_⟩
    by_cases he : x = i
    · subst he; exact Int.le_refl _
    · have := hx x (by omega) hcx; omega
theorem LeastS.keep {L : RL} {j i c : Nat} (h : LeastS L j i (c : Int)) (hlt : ¬ kx L i < kx L c) : LeastS L j (i + 1) (c : Int) := by
  rcases h with ⟨h, hx⟩ | ⟨c', h, hc', hcc, hx⟩
  · omega
  · obtain rfl : c = c' := by omega
    refine Or.inr ⟨c, rfl, by omega, hcc, fun x hxi hcx => ?_⟩
    by_cases he : x = i
    · subst he; omega
    · exact hx x (by omega) hcx
theorem LeastS.bound {L : RL} {j i : Nat} {l : Int} (h : LeastS L j i l) : l = -1 ∨ ∃ c : Nat, l = (c : Int) ∧ c < i ∧ c < L.length := by
  rcases h with ⟨h, _⟩ | ⟨c, h, hc, hcc, _⟩
  · exact Or.inl h
  · exact Or.inr ⟨c, h, hc, hcc.1⟩
/-- the j-th pair is a candidate -/
theorem cand_next {L : RL} {j : Nat} (hj : j < (absL L).length) : ∃ i, Cand L j i ∧ kx L i = (absL L)[j].1 := by
  obtain ⟨i, q, hq, hf, h1, h2⟩ := (mem_absL L _).1 (List.getElem_mem hj)
  have hil : i < L.length := (List.getElem?_eq_some_iff.1 hq).1
  have hk : kx L i = (absL L)[j].1 := by unfold kx; rw [hq]; exact h1
  refine ⟨i, ⟨hil, by rw [hk]; exact hf, fun p hp => ?_⟩, hk⟩
  obtain ⟨x, hx, rfl⟩ := List.mem_iff_getElem.1 hp
  rw [List.getElem_take, hk]
  exact absL_rises L x j (by simp at hx; omega) hj
theorem LeastS.none {L : RL} {j : Nat} (h : LeastS L j L.length (-1)) (hj : j ≤ (absL L).length) : j = (absL L).length := by
  rcases h with ⟨_, hx⟩ | ⟨c, h, _⟩
  · by_cases he : j = (absL L).length
    · exact he
    · obtain ⟨i, hc, _⟩ := cand_next (L := L) (j := j) (by omega)
      exact absurd hc (hx i hc.1)
  · omega
theorem LeastS.some {L : RL} {j c : Nat} (h : LeastS L j L.length (c : Int)) : ∃ (hj : j < (absL L).length) (hc : c < L.length), (absL L)[j] = (L[c].1, L[c].2.1) := by
  rcases h with ⟨h, _⟩ | ⟨c', h, hc', hcc, hx⟩
  · omega
  · obtain rfl : c = c' := by omega
    obtain ⟨hcl, hf, hlt⟩ := hcc
    have hk := kx_in hcl
    have hp : (L[c].1, L[c].2.1) ∈ absL L := (mem_absL L _).2 ⟨c, L[c], List.getElem?_eq_getElem hcl, by rw [← hk]; exact hf, rfl, rfl⟩
    have hp2 : (L[c].1, L[c].2.1) ∈ (absL L).drop j := by
      rw [← List.take_append_drop j (absL L), List.mem_append] at hp
      rcases hp with hp | hp
      · have := hlt _ hp; simp only at this; omega
      · exact hp
    obtain ⟨x, hx1, hx2⟩ := List.mem_iff_getElem.1 hp2
    have hj : j < (absL L).length := by simp at hx1; omega
    refine ⟨hj, hcl, ?_⟩
    rw [List.getElem_drop] at hx2
    have hjx : (absL L)[j].1 ≤ L[c].1 := by
      by_cases he : x = 0
      · subst he; simp only [Nat.add_zero] at hx2; rw [hx2]; exact Int.le_refl _
      · have := absL_rises L j (j + x) (by omega) (by simp at hx1; omega)
        rw [hx2] at this; simp only at this; omega
    obtain ⟨i, hci, hki⟩ := cand_next hj
    have := hx i hci.1 hci
    exact rises_inj (absL_rises L) (List.getElem_mem hj) hp (by simp only; omega)

def slen : Value → Nat
  | .slice _ n _ => n
  | _ => 0

set_option maxRecDepth 100000 in
set_option maxHeartbeats 4000000 in
theorem RPairs_some (r g n cap : Nat) (L : RL) (w : World) (h : RefIs w r (.slice (some ⟨g, 0, none⟩) n cap) L) (hl : L.length = n) :
    Calls Try.prog 25 #[.pointer (some ⟨r, 0, none⟩)] w (FreshRow w 52 2 (absL L).length (pc (absL L))) := by
  obtain ⟨i0, hi0, hz0, hz1, hz2⟩ := info_parts infoPair
  have hn := h.few
  rw [hl] at hn
  have hML := absL_length L
  rw [hl] at hML
  obtain ⟨M, hM⟩ : ∃ M, M = absL L := ⟨_, rfl⟩
  have hMr : Rises M := hM ▸ absL_rises L
  rw [← hM] at hML ⊢
  have HM := hid hM
  have HMr := hid hMr
  have HH := hid h
  have HL := hid hl
  clear h hM hMr hl
  go_enter Try.func25, Try.ntmps25
  go_wp2_with fail
  go_loopw [3, 4, 5, 6] (fun v _ _ _ wr => ∃ j, j ≤ M.length ∧ slen v = j ∧ Hid (wr.ownsRow w.heap.size 52 2 v j (pc (M.take j))) ∧ Below w.heap.size w wr) (fun v _ _ _ _ => M.length - slen v)
  case atStart => exact ⟨0, by omega, rfl, ⟨rfl, Or.inl ⟨rfl, rfl⟩⟩, Below.refl _ _⟩
  case round =>
    obtain ⟨j, hj, hsl, HO, hB⟩ := hrel
    obtain ⟨a, c, rfl⟩ := row_form HO.out
    clear hsl
    have hR := HH.out.bel hB
    have x0 : wr.cell? ⟨r, 0, none⟩ = some (.slice (some ⟨g, 0, none⟩) n cap) := hR.obj.cell 0
    have HR := hid hR
    clear hR
    go_wp2_with fail
    go_loopw [4, 5, 6] (fun l i _ wr' => ∃ i' : Nat, ∃ l' : Int, i' ≤ n ∧ i = .int .i64 i' ∧ l = .int .i64 l' ∧ wr' = wr ∧ Hid (LeastS L j i' l')) (fun _ i _ _ => (n - (intOf i).toNat))
    case atStart => exact ⟨0, -1, by omega, rfl, rfl, rfl, LeastS.start L j⟩
    case round =>
      obtain ⟨i, l, hi, rfl, rfl, rfl, hS⟩ := hrel
      by_cases hlt : i < n
      · have hil : i < L.length := by have := HL.out; omega
        have hrow := hid HR.out.row
        rw [HL.out] at hrow
        obtain ⟨y0, y1, y2⟩ := rrow_at hrow.out HL.out i hil
        obtain ⟨K, hK⟩ : ∃ K, K = L[i].1 := ⟨_, rfl⟩
        have hk := hid (hK.trans (kx_in hil).symm)
        rw [← hK] at y0
        have i1 : (0 : Int) ≤ (i : Int) := by omega
        have i2 : (i : Int) < (n : Int) := by omega
        obtain ⟨fz, hfz⟩ : ∃ fz, fz = findZ K L := ⟨_, rfl⟩
        have HFZ := hid hfz
        clear y1 y2 hK
        go_wp2_with fail
        refine (Find_z r _ K L _ HR.out).mono ?_
        rintro e w1 ⟨rfl, rfl⟩
        rw [← hfz]
        clear hfz
        by_cases t1 : fz = (i : Int)
        · subst t1
          by_cases j0 : j = 0
          · subst j0
            have hC : Hid (Cand L 0 i) := ⟨hil, by rw [← hk.out]; exact HFZ.out.symm, fun q hq => by simp at hq⟩
            rcases hS.out.bound with rfl | ⟨cc, rfl, hcc1, hcc2⟩
            · have hS' : Hid (LeastS L 0 (i + 1) (i : Int)) := hS.out.first (by omega) hC.out
              clear hS hC
              go_wp2
              go_roundw
              case rel => exact ⟨i + 1, i, by omega, by go_num, rfl, trivial, hS'⟩
              case measure => simp [intOf]; omega
            · obtain ⟨z0, z1, z2⟩ := rrow_at hrow.out HL.out cc hcc2
              obtain ⟨K2, hK2⟩ : ∃ K2, K2 = L[cc].1 := ⟨_, rfl⟩
              have hk2 := hid (hK2.trans (kx_in hcc2).symm)
              rw [← hK2] at z0
              have i3 : (0 : Int) ≤ (cc : Int) := by omega
              have i4 : (cc : Int) < (n : Int) := by omega
              have i5 : ¬ (cc : Int) < 0 := by omega
              clear z1 z2 hK2
              by_cases t5 : K < K2
              · have hS' : Hid (LeastS L 0 (i + 1) (i : Int)) := hS.out.less hC.out (by rw [← hk.out, ← hk2.out]; exact t5)
                clear hS hC
                go_wp2
                go_roundw
                case rel => exact ⟨i + 1, i, by omega, by go_num, rfl, trivial, hS'⟩
                case measure => simp [intOf]; omega
              · have hS' : Hid (LeastS L 0 (i + 1) (cc : Int)) := hS.out.keep (by rw [← hk.out, ← hk2.out]; exact t5)
                clear hS hC
                go_wp2
                go_roundw
                case rel => exact ⟨i + 1, cc, by omega, by go_num, rfl, trivial, hS'⟩
                case measure => simp [intOf]; omega
          · rcases HO.out.2 with ⟨h0, _⟩ | ⟨g2, cap2, cur2, h0, _⟩
            · injection h0 with _ h0 _; omega
            obtain ⟨rfl, _, rfl⟩ : a = some ⟨g2, 0, none⟩ ∧ j = j ∧ c = cap2 := by injection h0 with h1 h2 h3; exact ⟨h1, rfl, h3⟩
            clear h0
            have hj1 : j - 1 < M.length := by omega
            have hpx := pc_at (M.take j) (j - 1) (by simp; omega)
            have hpx1 := hpx.1
            rw [List.getElem_take] at hpx1
            have x5 := (HO.out.cellAt ((j - 1) * 2) (by omega)).trans hpx1
            obtain ⟨K1, hK1⟩ : ∃ K1, K1 = (M[j - 1]'hj1).1 := ⟨_, rfl⟩
            rw [← hK1] at x5
            have hcl := hid (cand_last HMr.out (j := j) (by omega) hj K)
            have HK1 := hid hK1
            have e1 : IntKind.i64.wrap ((j : Int) - 1) = (j : Int) - 1 := IntWalk.i64_in _ (by omega)
            have e2 : ((j : Int) - 1).toNat = j - 1 := by omega
            have e3 : (0 : Int) ≤ (j : Int) - 1 := by omega
            have e4 : (j : Int) - 1 < (j : Int) := by omega
            have e5 : ((j : Int) == 0) = false := beq_eq_false_iff_ne.2 (by omega)
            clear hpx hpx1 hK1
            by_cases t3 : K > K1
            · have hC : Hid (Cand L j i) := ⟨hil, by rw [← hk.out]; exact HFZ.out.symm, by rw [← hk.out, ← HM.out]; exact hcl.out.2 (by rw [← HK1.out]; exact t3)⟩
              rcases hS.out.bound with rfl | ⟨cc, rfl, hcc1, hcc2⟩
              · have hS' : Hid (LeastS L j (i + 1) (i : Int)) := hS.out.first (by omega) hC.out
                clear hS hC
                go_wp2
                go_roundw
                case rel => exact ⟨i + 1, i, by omega, by go_num, rfl, trivial, hS'⟩
                case measure => simp [intOf]; omega
              · obtain ⟨z0, z1, z2⟩ := rrow_at hrow.out HL.out cc hcc2
                obtain ⟨K2, hK2⟩ : ∃ K2, K2 = L[cc].1 := ⟨_, rfl⟩
                have hk2 := hid (hK2.trans (kx_in hcc2).symm)
                rw [← hK2] at z0
                have i3 : (0 : Int) ≤ (cc : Int) := by omega
                have i4 : (cc : Int) < (n : Int) := by omega
                have i5 : ¬ (cc : Int) < 0 := by omega
                clear z1 z2 hK2
                by_cases t5 : K < K2
                · have hS' : Hid (LeastS L j (i + 1) (i : Int)) := hS.out.less hC.out (by rw [← hk.out, ← hk2.out]; exact t5)
                  clear hS hC
                  go_wp2
                  go_roundw
                  case rel => exact ⟨i + 1, i, by omega, by go_num, rfl, trivial, hS'⟩
                  case measure => simp [intOf]; omega
                · have hS' : Hid (LeastS L j (i + 1) (cc : Int)) := hS.out.keep (by rw [← hk.out, ← hk2.out]; exact t5)
                  clear hS hC
                  go_wp2
                  go_roundw
                  case rel => exact ⟨i + 1, cc, by omega, by go_num, rfl, trivial, hS'⟩
                  case measure => simp [intOf]; omega
            · have hC : Hid (¬ Cand L j i) := fun hc => t3 (by have := hcl.out.1 (by have := hc.2.2; rw [← hk.out, ← HM.out] at this; exact this); rw [HK1.out]; exact this)
              have hS' : Hid (LeastS L j (i + 1) l) := hS.out.skip hC.out
              clear hS hC
              go_wp2
              go_roundw
              case rel => exact ⟨i + 1, l, by omega, by go_num, rfl, trivial, hS'⟩
              case measure => simp [intOf]; omega
        · have t1' : (fz == (i : Int)) = false := beq_eq_false_iff_ne.2 t1
          have hC : Hid (¬ Cand L j i) := fun hc => t1 (by have := hc.2.1; rw [← hk.out] at this; exact HFZ.out.trans this)
          have hS' : Hid (LeastS L j (i + 1) l) := hS.out.skip hC.out
          clear hS hC
          go_wp2
          go_roundw
          case rel => exact ⟨i + 1, l, by omega, by go_num, rfl, trivial, hS'⟩
          case measure => simp [intOf]; omega
      · obtain rfl : i = n := by omega
        have hS1 : Hid (LeastS L j L.length l) := by rw [HL.out]; exact hS.out
        rcases hS.out.bound with rfl | ⟨cc, rfl, hcc1, hcc2⟩
        · have hjM := hid (hS1.out.none (by rw [← HM.out]; exact hj))
          rw [← HM.out] at hjM
          clear hS hS1
          go_wp2
          go_ret
          have he := hjM.out
          subst he
          have := HO.out
          rw [List.take_length] at this
          exact ⟨_, rfl, this, hB⟩
        · have hs := hS1.out.some
          rw [← HM.out] at hs
          obtain ⟨hjl, hcl, hMj⟩ := hs
          have hrow := hid HR.out.row
          rw [HL.out] at hrow
          obtain ⟨z0, z1, z2⟩ := rrow_at hrow.out HL.out cc hcc2
          obtain ⟨K, hK⟩ : ∃ K, K = L[cc].1 := ⟨_, rfl⟩
          obtain ⟨S, hSS⟩ : ∃ S, S = L[cc].2.1 := ⟨_, rfl⟩
          rw [← hK, ← hSS] at hMj
          rw [← hK] at z0
          rw [← hSS] at z1
          have i3 : (0 : Int) ≤ (cc : Int) := by omega
          have i4 : (cc : Int) < (i : Int) := by omega
          have i5 : ¬ (cc : Int) < 0 := by omega
          have hTk := hid (show M.take (j + 1) = M.take j ++ [(K, S)] by rw [← hMj]; simp)
          obtain ⟨v', w', hrun, hown', hgrow, _, hob⟩ := run_append_own_at (P := Try.prog) (w := (wr.alloc (.cells #[.int .u64 K, .string S] 52)).drew) w.heap.size 46 46 52 i0 (.agg #[.int .u64 0, .string ⟨#[]⟩]) 2 24 Try.underlying46 hi0 hz0 hz1 hz2 rfl (by decide)
            (.slice a j c) j (pc (M.take j)) (row_alloc HO.out _) ⟨wr.heap.size, 0, none⟩ 1 1 [.int .u64 K, .string S] rfl (cells_two_new wr _ _ _) (by simp [Value.oneCell']) (by unfold maxLen; omega) (by omega) (by have := hB.size; simp; omega)
          obtain ⟨a', c', rfl⟩ := row_form hown'
          have hBB : Below w.heap.size w w' := (bdrew (ba hB (.cells #[.int .u64 K, .string S] 52))).grown hgrow (by have := hB.size; simp; omega) (fun k e => (row_lt HO.out k e).1)
          have hOO : Hid (w'.ownsRow w.heap.size 52 2 (.slice a' (j + 1) c') (j + 1) (pc (M.take (j + 1)))) := by rw [hTk.out, pc_append]; exact hown'
          have HRUN := hid hrun
          clear hS hS1 z2 hK hSS hMj hrun hown' hgrow hob
          go_wp2
          go_region_law (refine step_append_runI rfl (.tmp 65) (.tmp 83) 46 46 rfl _ _ (by simp [Act.eval]) (by simp [Act.eval]) HRUN.out ?_)
          all_goals
            try go_simp
            try simp only [Act.put, List.setIfInBounds_toArray, List.set_cons_zero, List.set_cons_succ]
            go_roundw
            case rel =>
              refine ⟨_, _, _, _, _, _, _, _, _, _, _, _, _, _, _, _, _, _, _, _, _, _, _, _, _, _, _, _, _, _, _, _, _, _, _, _, _, _, _, _, _, _, _, _, _, _, _, _, _, _, _, _, _, _, _, _, _, _, _, _, _, _, _, _, _, _, _, _, _, _, _, _, _, _, _, _, _, _, _, _, _, _, _, ?_, rfl⟩
              exact ⟨j + 1, by omega, rfl, hOO, hBB⟩
            case measure => simp [slen]; omega

set_option maxRecDepth 100000 in
set_option maxHeartbeats 1000000 in
theorem RPairs_z (r : Nat) (v : Value) (L : RL) (w : World) (h : RefIs w r v L) :
    Calls Try.prog 25 #[.pointer (some ⟨r, 0, none⟩)] w (FreshRow w 52 2 (absL L).length (pc (absL L))) := by
  rcases h.row.2 with ⟨rfl, h0⟩ | ⟨g, cap, cur, rfl, _⟩
  · have : L = [] := List.eq_nil_of_length_eq_zero h0
    subst this
    have x0 : w.cell? ⟨r, 0, none⟩ = some (.slice none 0 0) := h.obj.cell 0
    clear h h0
    go_enter Try.func25, Try.ntmps25
    go_wp2_with fail
    go_loopw [3, 4, 5, 6] (fun v _ _ _ wr => v = .slice none 0 0 ∧ wr = w) (fun _ _ _ _ _ => 0)
    case atStart => exact ⟨rfl, rfl⟩
    case round =>
      obtain ⟨rfl, rfl⟩ := hrel
      go_wp2_with fail
      go_loopw [4, 5, 6] (fun l i _ wr' => i = .int .i64 0 ∧ l = .int .i64 (-1) ∧ wr' = wr) (fun _ _ _ _ => 0)
      case atStart => exact ⟨rfl, rfl, rfl⟩
      case round =>
        obtain ⟨rfl, rfl, rfl⟩ := hrel
        go_wp2
        go_ret
        exact ⟨_, rfl, ⟨rfl, Or.inl ⟨rfl, rfl⟩⟩, Below.refl _ _⟩
  · exact RPairs_some r g L.length cap L w h rfl

end Go.Proofs.Ytdhnacajgmjmlaa
