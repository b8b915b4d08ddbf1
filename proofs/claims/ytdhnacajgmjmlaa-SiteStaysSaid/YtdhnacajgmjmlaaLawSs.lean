/- The law SiteStays. -/
import Derived.Test.YtdhnacajgmjmlaaSwD
namespace Go.Proofs.Ytdhnacajgmjmlaa
open Go.RowKit
set_option linter.unusedVariables false
set_option linter.unusedSimpArgs false

theorem nil_did (i : Nat) : (xAt [] i).did = 0 := by simp [xAt, zeroS]
theorem nil_x (i : Nat) : xAt [] i = zeroS := by simp [xAt]
theorem nil_go : ∀ f i, wgo [] f i false = (i + f, false, 10)
  | 0, i => rfl
  | f + 1, i => by
    simp only [wgo, nil_x, zeroS]
    rw [if_neg (by simp), if_neg (by simp)]
    rw [show (false || decide (0 > 1)) = false from rfl, nil_go f (i + 1)]
    congr 1
    omega
theorem nil_whole (most : Int) : wholeS [] most = (most.toNat, false, 10) := by
  unfold wholeS
  rw [nil_go]
  simp

set_option maxRecDepth 100000 in
set_option maxHeartbeats 2000000 in
theorem SiteStays_z (most : Int) (w : World) (b1 : -9223372036854775808 ≤ most) (b2 : most ≤ 9223372036854775807) :
    Calls Try.prog 4 #[.int .i64 most] w fun e w' => e = .returned (.bool true) ∧ Below w.heap.size w w' := by
  by_cases hmost : most > 300
  · go_enter Try.func4, Try.ntmps4
    go_wp2_with fail
    refine (known_z13 _).mono ?_
    rintro e w2 ⟨rfl, hb⟩
    have HB := hid hb
    clear hb
    go_wp2
    go_ret
    exact ⟨rfl, HB.out⟩
  · go_enter Try.func4, Try.ntmps4
    go_wp2_with fail
    refine (New_m 64 (by decide) _).mono ?_
    rintro e v1 ⟨m, B, rfl, hm, hbel, hft⟩
    have H1 := hid (fresh_mems (by omega) hm)
    have HB1 := hid hbel
    have HF1 := hid hft
    have HL1 := hid hm.foot_lt
    obtain ⟨M0, hM0⟩ : ∃ M0, M0 = freshM (List.replicate (64 / 8) 0) := ⟨_, rfl⟩
    have HST : Hid (M0.st = ⟨0, 0, 0, 0⟩) := by rw [hM0]; exact rfl
    rw [← hM0] at H1 HF1 HL1
    clear hM0 hm hbel hft
    go_wp2_with fail
    have hmf : m ∈ footM m B M0 := by simp [footM]
    have hlt : w.heap.size < v1.heap.size := Nat.lt_trans (HF1.out m hmf) (HL1.out m hmf)
    have ho : Only [] v1 (v1.alloc (.cells #[ptrV m, .slice none 0 0, .int .i64 0] 35)) := (Only.refl _ _).alloc _
    have RA := hid (show RunOK (v1.alloc (.cells #[ptrV m, .slice none 0 0, .int .i64 0] 35)) v1.heap.size m B M0 0 (.slice none 0 0) [] w.heap.size 0 from
      ⟨Blk.new v1 _ _, H1.out.only ho (fun _ _ h => by cases h), ⟨none, 0, rfl, Or.inl rfl⟩, fun hc => by have := HL1.out _ hc; omega, fun hc => by have := HF1.out _ hc; omega, by omega, by simp; omega⟩)
    have HBW := hid (ba HB1.out (.cells #[ptrV m, .slice none 0 0, .int .i64 0] 35))
    have HLT := hid hlt
    clear hmf hlt ho
    refine (Whole_z v1.heap.size m B M0 0 _ [] w.heap.size most (by omega) (by simp) (by omega) (fun i => by rw [nil_did]; omega) _ RA.out).mono ?_
    rintro e w2 ⟨rfl, M1, K1, hK1, hR1, hO1, hF1, hE1⟩
    obtain rfl := hE1 nil_did
    rw [nil_whole] at hR1 ⊢
    obtain ⟨t, ht⟩ : ∃ t, t = most.toNat := ⟨_, rfl⟩
    rw [← ht] at hR1 ⊢
    have hmx : max most 0 = (t : Int) := by omega
    have y1 : w2.cell? ⟨v1.heap.size, 2, none⟩ = some (.int .i64 (t : Int)) := hR1.blk.cell 2
    have R1 := hid hR1
    have O1 := hid hO1
    have HT := hid ht
    clear hR1 hO1 hF1 hE1 ht
    go_wp2_with fail
    refine (Stats_m m B M1.view.length M1.st R1.out.mem.is.pos _ R1.out.mem.is.blk).mono ?_
    rintro e w3 ⟨rfl, hb3⟩
    rw [HST.out]
    have HB3 := hid hb3
    clear hb3
    have heq : (binOp .eql 43 (.agg #[.int .u64 0, .int .u64 0, .int .u64 0, .int .u64 0]) (.agg #[.int .u64 0, .int .u64 0, .int .u64 0, .int .u64 0])).run Try.prog w3 = .ok (.bool true) w3 := by kernel_rfl
    go_wp2_with fail
    refine (known_z13 _).mono ?_
    rintro e w4 ⟨rfl, hb4⟩
    have HB4 := hid hb4
    clear hb4 heq y1
    go_wp2
    go_ret
    refine ⟨rfl, ?_⟩
    have h1 : Below w.heap.size (v1.alloc (.cells #[ptrV m, .slice none 0 0, .int .i64 0] 35)) w2 := O1.out.below (fun x hx => by
      rcases List.mem_cons.1 hx with rfl | h
      · exact Nat.le_of_lt HLT.out
      · exact Nat.le_of_lt (HF1.out x h)) HBW.out.size
    exact ((HBW.out.trans h1).trans (HB3.out.mono (Nat.le_trans HBW.out.size O1.out.size))).trans (HB4.out.mono (Nat.le_trans (Nat.le_trans HBW.out.size O1.out.size) HB3.out.size))

end Go.Proofs.Ytdhnacajgmjmlaa
