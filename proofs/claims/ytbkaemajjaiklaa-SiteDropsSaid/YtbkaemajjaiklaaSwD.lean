/- The law's known: the chapter's row. -/
import Derived.Test.YtbkaemajjaiklaaPmP
import Derived.Test.YtbkaemajjaiklaaSwC
namespace Go.Proofs.Ytbkaemajjaiklaa
open Go.RowKit
set_option linter.unusedVariables false
set_option linter.unusedSimpArgs false

theorem fresh_mems {w : World} {m : Nat} {B : MB} {n : Nat} (hn : 2 ≤ n) (h : MemIs w m B (freshM (List.replicate n 0))) : Mems w m B (freshM (List.replicate n 0)) 0 := ⟨h, (fun L hL => by simp [freshM] at hL), (by simpa [freshM] using hn)⟩
def kcs : List StepT := [⟨2, false, 0⟩, ⟨2, false, 0⟩, ⟨2, true, 0⟩]
theorem kcs_did (i : Nat) : (xAt kcs i).did ≤ 9 := by
  match i with
  | 0 => decide
  | 1 => decide
  | 2 => decide
  | n + 3 => simp [xAt, kcs]
theorem kcs_9 : wholeS kcs 9 = (3, true, 0) := by decide
theorem kcs_2 : wholeS kcs 2 = (2, true, 10) := by decide
theorem RunOK.other {w w' : World} {a b m : Nat} {B : MB} {M M' : MemS} {K K' : Nat} {l : Value} {cs : List StepT} {lb n n' : Nat} (ha : RunOK w' a m B M' K' l cs lb n') (hb : RunOK w b m B M K l cs lb n) (ho : Only (a :: footM m B M) w w') (hf : ∀ k ∈ footM m B M', k ∈ footM m B M ∨ w.heap.size ≤ k) (hab : b ≠ a) : RunOK w' b m B M' K' l cs lb n :=
  ⟨ho.blk hb.blk (by simp only [List.mem_cons, not_or]; exact ⟨hab, hb.far⟩), ha.mem, ha.steps, fun hc => by
    rcases hf b hc with h | h
    · exact hb.far h
    · have := hb.blk.lt; omega, ha.lfar, hb.lr, ha.lt⟩

set_option maxRecDepth 100000 in
set_option maxHeartbeats 2000000 in
theorem known_z13 (w : World) : Calls Try.prog 6 #[] w fun e w' => e = .returned (.bool true) ∧ Below w.heap.size w w' := by
  go_enter Try.func6, Try.ntmps6
  go_wp2_with fail
  refine (New_m 64 (by decide) _).mono ?_
  rintro e v1 ⟨m, B, rfl, hm, hbel, hft⟩
  have H1 := hid (fresh_mems (by omega) hm)
  have HB1 := hid hbel
  have HF1 := hid hft
  have HL1 := hid hm.foot_lt
  clear hm hbel hft
  obtain ⟨M0, hM0⟩ : ∃ M0, M0 = freshM (List.replicate (64 / 8) 0) := ⟨_, rfl⟩
  rw [← hM0] at H1 HF1 HL1
  clear hM0
  go_wp2_with fail
  generalize hW : World.alloc _ (Obj.cells #[ptrV m, Value.slice (some { block := v1.heap.size, off := 0 }) 3 3, Value.int IntKind.i64 0] 63) = W
  obtain ⟨S, hS⟩ : ∃ S, S = v1.heap.size := ⟨_, rfl⟩
  obtain ⟨ra, hra⟩ : ∃ ra, ra = v1.heap.size + 1 := ⟨_, rfl⟩
  obtain ⟨rb, hrb⟩ : ∃ rb, rb = v1.heap.size + 1 + 1 := ⟨_, rfl⟩
  have hsz : W.heap.size = v1.heap.size + 3 := by rw [← hW]; simp
  have hbW : Below v1.heap.size v1 W := by rw [← hW]; exact ba (ba (ba (Below.refl _ _) _) _) _
  have hmW : Mems W m B M0 0 := H1.out.only (Only.of_below hbW []) (fun _ _ h => by cases h)
  have hbS : Blk W S 59 #[.int .i64 2, .bool false, .int .i64 0, .int .i64 2, .bool false, .int .i64 0, .int .i64 2, .bool true, .int .i64 0] := by
    rw [← hW, hS]; exact ((Blk.new v1 _ _).alloc _).alloc _
  have hbra : Blk W ra 63 (runC m (.slice (some ⟨S, 0, none⟩) 3 3) 0) := by
    rw [← hW, hra, hS]
    exact (by simpa using Blk.new (v1.alloc (.cells #[.int .i64 2, .bool false, .int .i64 0, .int .i64 2, .bool false, .int .i64 0, .int .i64 2, .bool true, .int .i64 0] 59)) 63 #[ptrV m, .slice (some ⟨v1.heap.size, 0, none⟩) 3 3, .int .i64 0] : Blk ((v1.alloc (.cells #[.int .i64 2, .bool false, .int .i64 0, .int .i64 2, .bool false, .int .i64 0, .int .i64 2, .bool true, .int .i64 0] 59)).alloc (.cells #[ptrV m, .slice (some ⟨v1.heap.size, 0, none⟩) 3 3, .int .i64 0] 63)) (v1.heap.size + 1) 63 #[ptrV m, .slice (some ⟨v1.heap.size, 0, none⟩) 3 3, .int .i64 0]).alloc _
  have hbrb : Blk W rb 63 (runC m (.slice (some ⟨S, 0, none⟩) 3 3) 0) := by
    rw [← hW, hrb, hS]
    have := Blk.new ((v1.alloc (.cells #[.int .i64 2, .bool false, .int .i64 0, .int .i64 2, .bool false, .int .i64 0, .int .i64 2, .bool true, .int .i64 0] 59)).alloc (.cells #[ptrV m, .slice (some ⟨v1.heap.size, 0, none⟩) 3 3, .int .i64 0] 63)) 63 #[ptrV m, .slice (some ⟨v1.heap.size, 0, none⟩) 3 3, .int .i64 0]
    simp only [World.size_alloc] at this
    exact this
  have hst : StepsAt W (.slice (some ⟨S, 0, none⟩) 3 3) kcs S := by
    refine ⟨some ⟨S, 0, none⟩, 3, rfl, Or.inr ⟨0, rfl, hbS.lt, fun i hi j hj => ?_⟩⟩
    rw [hbS.cell]
    have hi3 : i < 3 := hi
    have hij : (i = 0 ∨ i = 1 ∨ i = 2) ∧ (j = 0 ∨ j = 1 ∨ j = 2) := by omega
    rcases hij with ⟨rfl | rfl | rfl, rfl | rfl | rfl⟩ <;> rfl
  have hfar : ∀ k, v1.heap.size ≤ k → k ∉ footM m B M0 := fun k hk hc => by have := HL1.out k hc; omega
  have RA := hid (show RunOK W ra m B M0 0 (.slice (some ⟨S, 0, none⟩) 3 3) kcs S 0 from ⟨hbra, hmW, hst, hfar _ (by omega), hfar _ (by omega), by omega, hbS.lt⟩)
  have RB := hid (show RunOK W rb m B M0 0 (.slice (some ⟨S, 0, none⟩) 3 3) kcs S 0 from ⟨hbrb, hmW, hst, hfar _ (by omega), hfar _ (by omega), by omega, hbS.lt⟩)
  have HAB := hid (show rb ≠ ra by omega)
  have HG := hid (show w.heap.size ≤ ra ∧ w.heap.size ≤ rb by have := HB1.out.size; omega)
  have HBW := hid (bx HB1.out hbW)
  rw [← hrb, ← hra, ← hS]
  clear hsz hbW hmW hbS hbra hbrb hst hfar hW hS hra hrb
  refine (Whole_z ra m B M0 0 _ kcs S 9 (by omega) (by decide) (by omega) kcs_did W RA.out).mono ?_
  rintro e w2 ⟨rfl, M1, K1, hK1, hR1, hO1, hF1, _⟩
  rw [kcs_9] at hR1 ⊢
  have RB2 := hid (RunOK.other hR1 RB.out hO1 hF1 HAB.out)
  have HO1 := hid hO1
  have HF2 := hid hF1
  have R1 := hid hR1
  clear hO1 hF1 hR1
  go_wp2_with fail
  refine (Whole_z rb m B M1 K1 _ kcs S 2 (by omega) (by decide) (by omega) kcs_did w2 RB2.out).mono ?_
  rintro e w3 ⟨rfl, M2, K2, hK2, hR2, hO2, hF2, _⟩
  rw [kcs_2] at hR2 ⊢
  have RA3 := RunOK.other hR2 R1.out hO2 hF2 HAB.out.symm
  have y1 : w3.cell? ⟨ra, 2, none⟩ = some (.int .i64 3) := RA3.blk.cell 2
  have y2 : w3.cell? ⟨rb, 2, none⟩ = some (.int .i64 2) := hR2.blk.cell 2
  have hfin : Below w.heap.size w w3 := by
    have h1 : Below w.heap.size W w2 := HO1.out.below (fun x hx => by
      rcases List.mem_cons.1 hx with rfl | h
      · exact HG.out.1
      · exact Nat.le_of_lt (HF1.out x h)) HBW.out.size
    have h2 : Below w.heap.size w2 w3 := hO2.below (fun x hx => by
      rcases List.mem_cons.1 hx with rfl | h
      · exact HG.out.2
      · rcases HF2.out x h with h | h
        · exact Nat.le_of_lt (HF1.out x h)
        · exact Nat.le_trans HBW.out.size h) (Nat.le_trans HBW.out.size HO1.out.size)
    exact (HBW.out.trans h1).trans h2
  have HFIN := hid hfin
  clear RA3 hR2 hO2 hF2 hfin
  go_wp2
  go_ret
  exact ⟨rfl, HFIN.out⟩

end Go.Proofs.Ytbkaemajjaiklaa
