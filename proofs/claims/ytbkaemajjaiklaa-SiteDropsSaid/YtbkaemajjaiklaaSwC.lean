/- A memory's primitives counted. -/
import Derived.WalkMore
import Derived.Test.YtbkaemajjaiklaaSwB
namespace Go.Proofs.Ytbkaemajjaiklaa
open Go.RowKit
set_option linter.unusedVariables false
set_option linter.unusedSimpArgs false

def cntC (m : Nat) (z : Int) : Array Value := #[ptrV m, .int .u64 z]
set_option maxRecDepth 100000 in
set_option maxHeartbeats 1000000 in
theorem did_z (c m : Nat) (B : MB) (M : MemS) (z : Int) (hz : 0 ≤ z ∧ z < 18446744073709551616) (w : World) (hc : Blk w c 120 (cntC m z)) (h : MemIs w m B M) :
    Calls Try.prog 63 #[.pointer (some ⟨c, 0, none⟩)] w fun e w' => e = .returned (.int .u64 ((tot M - z) % 18446744073709551616)) ∧ Blk w' c 120 (cntC m (tot M % 18446744073709551616)) ∧ Only [c] w w' := by
  have x0 : w.cell? ⟨c, 0, none⟩ = some (ptrV m) := hc.cell 0
  have H := hid h
  have HC := hid hc
  have HT : tot M = M.st.a + M.st.b + M.st.c + M.st.d := rfl
  have HTT := hid HT
  have HZ := hid hz
  clear h hc HT hz
  go_enter Try.func63, Try.ntmps63
  go_wp2_with fail
  refine (Stats_m m B M.view.length M.st H.out.pos _ H.out.blk).mono ?_
  rintro e w1 ⟨rfl, hb⟩
  have c1 := HC.out.bel hb
  have y0 : (w1.alloc (.cells #[.int .u64 M.st.a, .int .u64 M.st.b, .int .u64 M.st.c, .int .u64 M.st.d] 131)).cell? ⟨c, 1, none⟩ = some (.int .u64 z) := (c1.alloc _).cell 1
  have y1 := (c1.alloc (.cells #[.int .u64 M.st.a, .int .u64 M.st.b, .int .u64 M.st.c, .int .u64 M.st.d] 131)).frozen 1
  have hne : c ≠ w1.heap.size := fun e => by have := c1.lt; omega
  have HB := hid hb
  have C1 := hid c1
  clear hb c1
  go_wp2
  go_ret
  have hw : ∀ x, IntKind.u64.wrap x = x % 18446744073709551616 := fun x => rfl
  have e1 : IntKind.u64.wrap (IntKind.u64.wrap (IntKind.u64.wrap (IntKind.u64.wrap (M.st.a + M.st.b) + M.st.c) + M.st.d) - z) = (tot M - z) % 18446744073709551616 := by
    rw [HTT.out]; simp only [hw]; omega
  have e2 : IntKind.u64.wrap (IntKind.u64.wrap (IntKind.u64.wrap (M.st.a + M.st.b) + M.st.c) + M.st.d) = tot M % 18446744073709551616 := by
    rw [HTT.out]; simp only [hw]; omega
  refine ⟨congrArg (fun x => Ending.returned (Value.int .u64 x)) e1, ?_, ?_⟩
  · have := (C1.out.alloc (.cells #[.int .u64 M.st.a, .int .u64 M.st.b, .int .u64 M.st.c, .int .u64 M.st.d] 131)).set_ 1 (.int .u64 (IntKind.u64.wrap (IntKind.u64.wrap (IntKind.u64.wrap (M.st.a + M.st.b) + M.st.c) + M.st.d)))
    rw [e2] at this ⊢
    exact this
  · exact (((Only.of_below HB.out [c]).alloc _).setCell (Or.inl (by simp)) _)

/-! ### what Whole comes to -/
def wgo (cs : List StepT) : Nat → Nat → Bool → Nat × Bool × Int
  | 0, i, odd => (i, odd, 10)
  | f + 1, i, odd =>
    let x := xAt cs i
    let o := odd || decide (x.did > 1)
    if x.bad ≠ 0 then (i + 1, o, x.bad) else if x.done then (i + 1, o, 0) else wgo cs f (i + 1) o
def wholeS (cs : List StepT) (most : Int) : Nat × Bool × Int := wgo cs most.toNat 0 false
theorem eqFuncNil (r : Nat) (w : World) : (binOp .eql 66 (.func (.func 28) #[.pointer (some ⟨r, 0, none⟩)] #[]) .nilFunc).run Try.prog w = .ok (.bool false) w := by kernel_rfl

set_option maxRecDepth 100000 in
set_option maxHeartbeats 2000000 in
theorem Whole_z (r m : Nat) (B : MB) (M : MemS) (K : Nat) (l : Value) (cs : List StepT) (lb : Nat) (most : Int) (hmost : most ≤ 300) (hlen : cs.length ≤ 1000) (hK : K ≤ 100000) (hdid : ∀ i, (xAt cs i).did ≤ 9) (w : World) (h : RunOK w r m B M K l cs lb 0) :
    Calls Try.prog 27 #[ptrV m, .func (.func 28) #[.pointer (some ⟨r, 0, none⟩)] #[], .int .i64 most] w fun e w' =>
      e = .returned (.tuple #[.int .i64 ((wholeS cs most).1 : Int), .bool (wholeS cs most).2.1, .int .i64 (wholeS cs most).2.2]) ∧ ∃ M' K', K' ≤ K + 3000 ∧ RunOK w' r m B M' K' l cs lb (wholeS cs most).1 ∧ Only (r :: footM m B M) w w' ∧ (∀ k ∈ footM m B M', k ∈ footM m B M ∨ w.heap.size ≤ k) ∧ ((∀ i, (xAt cs i).did = 0) → M' = M) := by
  have hsz : 0 < M.view.length := h.mem.is.pos
  have hs1 : ((8 * M.view.length : Nat) : Int) ≠ 0 := by omega
  have hs2 : (((8 * M.view.length : Nat) : Int) == 0) = false := by simpa using hs1
  obtain ⟨vl, hvl⟩ : ∃ vl, vl = ((8 * M.view.length : Nat) : Int) := ⟨_, rfl⟩
  rw [← hvl] at hs1 hs2
  have HVL := hid hvl
  have H := hid h
  have hfn := eqFuncNil r w
  have HD := hid hdid
  clear h hvl hdid hsz
  go_enter Try.func27, Try.ntmps27
  go_wp2
  go_step3
  go_wp2_with fail
  refine (Size_m m B M.view.length M.st H.out.mem.is.pos H.out.mem.is.big _ H.out.mem.is.blk).mono ?_
  rintro e w1 ⟨rfl, rfl⟩
  rw [← HVL.out]
  go_wp2_with fail
  have hcf : w.heap.size ∉ footM m B M := fun hc => by have := H.out.mem.is.foot_lt _ hc; omega
  have hcr : w.heap.size ≠ r ∧ w.heap.size ≠ lb := by have h1 := H.out.blk.lt; have h2 := H.out.lt; omega
  have HCF := hid hcf
  have HCR := hid hcr
  have hA : RunOK (w.alloc (.cells #[ptrV m, .int .u64 0] 120)) r m B M K l cs lb 0 := by
    have ho : Only [] w (w.alloc (.cells #[ptrV m, .int .u64 0] 120)) := (Only.refl _ _).alloc _
    exact ⟨H.out.blk.alloc _, H.out.mem.only ho (fun _ _ h => by cases h), H.out.steps.only ho (by simp), H.out.far, H.out.lfar, H.out.lr, Nat.lt_of_lt_of_le H.out.lt ho.size⟩
  have HA := hid hA
  clear hcf hcr hA
  refine (did_z w.heap.size m B M 0 (by omega) _ (Blk.new w 120 (cntC m 0)) HA.out.mem.is).mono ?_
  rintro e w2 ⟨rfl, hc2, ho2⟩
  have hR2 : RunOK w2 r m B M K l cs lb 0 := ⟨ho2.blk HA.out.blk (by simpa using HCR.out.1.symm), HA.out.mem.only ho2 (fun k hk hm => HCF.out (by simp at hm; rw [← hm]; exact hk)), HA.out.steps.only ho2 (by simpa using HCR.out.2.symm), HA.out.far, HA.out.lfar, HA.out.lr, Nat.lt_of_lt_of_le HA.out.lt ho2.size⟩
  obtain ⟨c, hcc⟩ : ∃ c, c = w.heap.size := ⟨_, rfl⟩
  have hO2 : Only (r :: footM m B M) w w2 := (((Only.refl (r :: footM m B M) w).alloc _).trans ho2 (fun x hx => Or.inr (by simp at hx; subst hx; exact Nat.le_refl _)))
  rw [← hcc] at hc2 HCF HCR ⊢
  have HCE := hid hcc
  have HC2 := hid hc2
  have HR2 := hid hR2
  have HO2 := hid hO2
  have HW2 : Hid (c < w2.heap.size) := hc2.lt
  clear hc2 hR2 hO2 ho2 hcc
  obtain ⟨mt, hmt⟩ : ∃ mt, mt = most.toNat := ⟨_, rfl⟩
  have HMT := hid hmt
  clear hmt
  go_wp2
  go_step3
  go_wp2
  go_loopw [6, 7, 8] (fun i o er wr => ∃ (k : Nat) (od : Bool) (M2 : MemS) (K2 : Nat) (z : Int), k ≤ mt ∧ i = .int .i64 k ∧ o = .bool od ∧ er = .int .i64 0 ∧ K2 ≤ K + 9 * k ∧ Hid (RunOK wr r m B M2 K2 l cs lb k) ∧ Hid (Blk wr c 120 (cntC m z)) ∧ Hid (0 ≤ z ∧ z < 18446744073709551616 ∧ (od = false → z = tot M2 % 18446744073709551616)) ∧ Hid (Only (r :: footM m B M) w wr) ∧ Hid ((∀ x ∈ footM m B M2, x ∈ footM m B M ∨ w.heap.size ≤ x) ∧ c ∉ footM m B M2) ∧ Hid (wgo cs (mt - k) k od = wgo cs mt 0 false) ∧ Hid ((∀ i, (xAt cs i).did = 0) → M2 = M)) (fun i _ _ _ => (mt - (intOf i).toNat))
  case atStart =>
    exact ⟨0, false, M, K, _, by omega, rfl, rfl, rfl, by omega, HR2.out, HC2.out, ⟨by omega, by omega, fun _ => rfl⟩, HO2.out, ⟨fun x hx => Or.inl hx, HCF.out⟩, rfl, fun _ => rfl⟩
  case round =>
    obtain ⟨k, od, M2, K2, z, hk, rfl, rfl, rfl, hK2, hR, hC, hZ, hO, hF, hW, hE⟩ := hrel
    have i1 : (0 : Int) ≤ (k : Int) := by omega
    by_cases hlt : k < mt
    · have i2 : (k : Int) < most := by have := HMT.out; omega
      go_wp2_with fail
      refine (step_z r m B M2 K2 l cs lb k hlen (by have := HMT.out; omega) (by have := HMT.out; omega) (HD.out k) _ hR.out).mono ?_
      rintro e w3 ⟨rfl, M3, hR3, hO3, hF3, hT3, hE3⟩
      have HE3 := hid (show (∀ i, (xAt cs i).did = 0) → M3 = M from fun h => (hE3 (h k)).trans (hE.out h))
      clear hE3
      have hc3 : Blk w3 c 120 (cntC m z) := hO3.blk hC.out (by
        simp only [List.mem_cons, not_or]
        exact ⟨HCR.out.1, hF.out.2⟩)
      have HX3 := hid (⟨hR3, hO3, hF3, hT3, hc3⟩ : _ ∧ _ ∧ _ ∧ _ ∧ _)
      clear hR3 hO3 hF3 hT3 hc3
      obtain ⟨x, hx⟩ : ∃ x, x = xAt cs k := ⟨_, rfl⟩
      rw [← hx] at HX3 ⊢
      have HX := hid hx
      clear hx
      have HF3 : Hid ((∀ y ∈ footM m B M3, y ∈ footM m B M ∨ w.heap.size ≤ y) ∧ c ∉ footM m B M3) := by
        refine ⟨fun y hy => ?_, fun hc => ?_⟩
        · rcases HX3.out.2.2.1 y hy with h | h
          · exact hF.out.1 y h
          · exact Or.inr (Nat.le_trans hO.out.size h)
        · rcases HX3.out.2.2.1 c hc with h | h
          · exact hF.out.2 h
          · have := hC.out.lt
            omega
      have HO3 : Hid (Only (r :: footM m B M) w w3) := hO.out.trans HX3.out.2.1 (fun y hy => by
        rcases List.mem_cons.1 hy with h | h
        · exact Or.inl (by simp [h])
        · rcases hF.out.1 y h with h | h
          · exact Or.inl (List.mem_cons_of_mem _ h)
          · exact Or.inr h)
      have HC4 : Hid (w.heap.size ≤ c) := by rw [HCE.out]; exact Nat.le_refl _
      cases od
      · go_wp2_with fail
        refine (did_z c m B M3 z (by have := hZ.out; omega) _ HX3.out.2.2.2.2 HX3.out.1.mem.is).mono ?_
        rintro e w4 ⟨rfl, hc4, ho4⟩
        have hdd : (tot M3 - z) % 18446744073709551616 = (x.did : Int) := by
          have h1 := hZ.out.2.2 (by first | rfl | trivial)
          have h2 := HX3.out.2.2.2.1
          have h3 := HD.out k
          rw [← HX.out] at h3
          omega
        rw [hdd]
        have HR4 : Hid (RunOK w4 r m B M3 (K2 + x.did) l cs lb (k + 1)) := by
          have h := HX3.out.1
          exact ⟨ho4.blk h.blk (by simpa using HCR.out.1.symm), h.mem.only ho4 (fun y hy hm => HF3.out.2 (by simp at hm; rw [← hm]; exact hy)), h.steps.only ho4 (by simpa using HCR.out.2.symm), h.far, h.lfar, h.lr, Nat.lt_of_lt_of_le h.lt ho4.size⟩
        have HO4 : Hid (Only (r :: footM m B M) w w4) := HO3.out.trans ho4 (fun y hy => Or.inr (by simp at hy; subst hy; exact HC4.out))
        have HCC := hid hc4
        have HT4 : Hid (0 ≤ tot M3 % 18446744073709551616 ∧ tot M3 % 18446744073709551616 < 18446744073709551616) := by constructor <;> omega
        clear hdd hc4 ho4
        by_cases h1 : (x.did : Int) > 1
        · by_cases hbad : x.bad = 0
          · have hbe : (x.bad != 0) = false := by simpa using hbad
            cases hdone : x.done
            · have HW4 : Hid (wgo cs (mt - (k + 1)) (k + 1) true = wgo cs mt 0 false) := by
                rw [← hW.out, show mt - k = (mt - (k + 1)) + 1 by omega]
                simp only [wgo]
                rw [← HX.out, if_neg (by simpa using hbad), hdone]
                simp only [Bool.false_eq_true, if_false]
                congr 1
                simp; omega
              clear hR hC hZ hO hF hW
              go_wp2
              go_roundw
              case rel => exact ⟨k + 1, true, M3, K2 + x.did, tot M3 % 18446744073709551616, by omega, by go_num, (by first | rfl | (simp; omega) | simp), rfl, by have := HD.out k; rw [← HX.out] at this; omega, HR4.out, HCC.out, ⟨HT4.out.1, HT4.out.2, fun _ => rfl⟩, HO4.out, HF3.out, HW4, HE3⟩
              case measure => simp [intOf]; omega
            · have HW4 : Hid (wholeS cs most = (k + 1, true, 0)) := by
                show wgo cs most.toNat 0 false = _
                rw [← HMT.out, ← hW.out, show mt - k = (mt - (k + 1)) + 1 by omega]
                simp only [wgo]
                rw [← HX.out, if_neg (by simpa using hbad), hdone]
                simp only [if_true]
                congr 2
                simp; omega
              clear hR hC hZ hO hF hW
              go_wp2
              try rw [Exit.noGoto_ret]
              refine bodyPost_ret (v := .tuple #[.int .i64 ((k : Int) + 1), .bool true, .int .i64 0]) (by simp [results, Try.results27, go_sem, *]) rfl ?_
              rw [HW4.out]
              exact ⟨rfl, M3, K2 + x.did, (by have h1 := HD.out k; rw [← HX.out] at h1; have h2 := HMT.out; omega), HR4.out, HO4.out, HF3.out.1, HE3.out⟩
          · have hbe : (x.bad != 0) = true := by simpa using hbad
            have HW4 : Hid (wholeS cs most = (k + 1, true, x.bad)) := by
              show wgo cs most.toNat 0 false = _
              rw [← HMT.out, ← hW.out, show mt - k = (mt - (k + 1)) + 1 by omega]
              simp only [wgo]
              rw [← HX.out, if_pos (by simpa using hbad)]
              congr 2
              simp; omega
            have hbe2 : (x.bad == 0) = false := by simpa using hbad
            clear hR hC hZ hO hF hW
            go_wp2
            try rw [Exit.noGoto_ret]
            refine bodyPost_ret (v := .tuple #[.int .i64 ((k : Int) + 1), .bool true, .int .i64 x.bad]) (by simp [results, Try.results27, go_sem, *]) rfl ?_
            rw [HW4.out]
            exact ⟨rfl, M3, K2 + x.did, (by have h1 := HD.out k; rw [← HX.out] at h1; have h2 := HMT.out; omega), HR4.out, HO4.out, HF3.out.1, HE3.out⟩
        · by_cases hbad : x.bad = 0
          · have hbe : (x.bad != 0) = false := by simpa using hbad
            cases hdone : x.done
            · have HW4 : Hid (wgo cs (mt - (k + 1)) (k + 1) false = wgo cs mt 0 false) := by
                rw [← hW.out, show mt - k = (mt - (k + 1)) + 1 by omega]
                simp only [wgo]
                rw [← HX.out, if_neg (by simpa using hbad), hdone]
                simp only [Bool.false_eq_true, if_false]
                congr 1
                simp; omega
              clear hR hC hZ hO hF hW
              go_wp2
              go_roundw
              case rel => exact ⟨k + 1, false, M3, K2 + x.did, tot M3 % 18446744073709551616, by omega, by go_num, (by first | rfl | (simp; omega) | simp), rfl, by have := HD.out k; rw [← HX.out] at this; omega, HR4.out, HCC.out, ⟨HT4.out.1, HT4.out.2, fun _ => rfl⟩, HO4.out, HF3.out, HW4, HE3⟩
              case measure => simp [intOf]; omega
            · have HW4 : Hid (wholeS cs most = (k + 1, false, 0)) := by
                show wgo cs most.toNat 0 false = _
                rw [← HMT.out, ← hW.out, show mt - k = (mt - (k + 1)) + 1 by omega]
                simp only [wgo]
                rw [← HX.out, if_neg (by simpa using hbad), hdone]
                simp only [if_true]
                congr 2
                simp; omega
              clear hR hC hZ hO hF hW
              go_wp2
              try rw [Exit.noGoto_ret]
              refine bodyPost_ret (v := .tuple #[.int .i64 ((k : Int) + 1), .bool false, .int .i64 0]) (by simp [results, Try.results27, go_sem, *]) rfl ?_
              rw [HW4.out]
              exact ⟨rfl, M3, K2 + x.did, (by have h1 := HD.out k; rw [← HX.out] at h1; have h2 := HMT.out; omega), HR4.out, HO4.out, HF3.out.1, HE3.out⟩
          · have hbe : (x.bad != 0) = true := by simpa using hbad
            have HW4 : Hid (wholeS cs most = (k + 1, false, x.bad)) := by
              show wgo cs most.toNat 0 false = _
              rw [← HMT.out, ← hW.out, show mt - k = (mt - (k + 1)) + 1 by omega]
              simp only [wgo]
              rw [← HX.out, if_pos (by simpa using hbad)]
              congr 2
              simp; omega
            have hbe2 : (x.bad == 0) = false := by simpa using hbad
            clear hR hC hZ hO hF hW
            go_wp2
            try rw [Exit.noGoto_ret]
            refine bodyPost_ret (v := .tuple #[.int .i64 ((k : Int) + 1), .bool false, .int .i64 x.bad]) (by simp [results, Try.results27, go_sem, *]) rfl ?_
            rw [HW4.out]
            exact ⟨rfl, M3, K2 + x.did, (by have h1 := HD.out k; rw [← HX.out] at h1; have h2 := HMT.out; omega), HR4.out, HO4.out, HF3.out.1, HE3.out⟩
      · have HZ3 := hid hZ.out
        by_cases hbad : x.bad = 0
        · have hbe : (x.bad != 0) = false := by simpa using hbad
          cases hdone : x.done
          · have HW4 : Hid (wgo cs (mt - (k + 1)) (k + 1) true = wgo cs mt 0 false) := by
              rw [← hW.out, show mt - k = (mt - (k + 1)) + 1 by omega]
              simp only [wgo]
              rw [← HX.out, if_neg (by simpa using hbad), hdone]
              simp only [Bool.false_eq_true, if_false]
              congr 1
              try simp
            clear hR hC hZ hO hF hW
            go_wp2
            go_roundw
            case rel => exact ⟨k + 1, true, M3, K2 + x.did, z, by omega, by go_num, rfl, rfl, by have := HD.out k; rw [← HX.out] at this; omega, HX3.out.1, HX3.out.2.2.2.2, ⟨HZ3.out.1, HZ3.out.2.1, fun h => by cases h⟩, HO3.out, HF3.out, HW4, HE3⟩
            case measure => simp [intOf]; omega
          · have HW4 : Hid (wholeS cs most = (k + 1, true, 0)) := by
              show wgo cs most.toNat 0 false = _
              rw [← HMT.out, ← hW.out, show mt - k = (mt - (k + 1)) + 1 by omega]
              simp only [wgo]
              rw [← HX.out, if_neg (by simpa using hbad), hdone]
              simp only [if_true]
              congr 2
              try simp
            clear hR hC hZ hO hF hW
            go_wp2
            try rw [Exit.noGoto_ret]
            refine bodyPost_ret (v := .tuple #[.int .i64 ((k : Int) + 1), .bool true, .int .i64 0]) (by simp [results, Try.results27, go_sem, *]) rfl ?_
            rw [HW4.out]
            exact ⟨rfl, M3, K2 + x.did, (by have h1 := HD.out k; rw [← HX.out] at h1; have h2 := HMT.out; omega), HX3.out.1, HO3.out, HF3.out.1, HE3.out⟩
        · have hbe : (x.bad != 0) = true := by simpa using hbad
          have HW4 : Hid (wholeS cs most = (k + 1, true, x.bad)) := by
            show wgo cs most.toNat 0 false = _
            rw [← HMT.out, ← hW.out, show mt - k = (mt - (k + 1)) + 1 by omega]
            simp only [wgo]
            rw [← HX.out, if_pos (by simpa using hbad)]
            congr 2
            try simp
          have hbe2 : (x.bad == 0) = false := by simpa using hbad
          clear hR hC hZ hO hF hW
          go_wp2
          try rw [Exit.noGoto_ret]
          refine bodyPost_ret (v := .tuple #[.int .i64 ((k : Int) + 1), .bool true, .int .i64 x.bad]) (by simp [results, Try.results27, go_sem, *]) rfl ?_
          rw [HW4.out]
          exact ⟨rfl, M3, K2 + x.did, (by have h1 := HD.out k; rw [← HX.out] at h1; have h2 := HMT.out; omega), HX3.out.1, HO3.out, HF3.out.1, HE3.out⟩
    · obtain rfl : k = mt := by omega
      have i2 : ¬ (k : Int) < most := by have := HMT.out; omega
      have HW4 : Hid (wholeS cs most = (k, od, 10)) := by
        show wgo cs most.toNat 0 false = _
        rw [← HMT.out, ← hW.out, Nat.sub_self]
        rfl
      go_wp2
      try rw [Exit.noGoto_ret]
      refine bodyPost_ret (v := .tuple #[.int .i64 (k : Int), .bool od, .int .i64 10]) (by simp [results, Try.results27, go_sem]) rfl ?_
      rw [HW4.out]
      exact ⟨rfl, M2, K2, (by have h2 := HMT.out; omega), hR.out, hO.out, hF.out.1, hE.out⟩

end Go.Proofs.Ytbkaemajjaiklaa
