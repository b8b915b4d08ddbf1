/- Contracts of levee/super.Of and the reference's Of. -/
import Derived.Test.YtnonldbnnjdifaaSupB
namespace Go.Proofs.Ytnonldbnnjdifaa
open Go.RowKit
set_option linter.unusedVariables false

def at8 (a b c d e f g h : Int) (k : Nat) : Int := [a, b, c, d, e, f, g, h].getD k 0

theorem cell8 (w : World) (T : TypeId) (a b c d e f g h : Int) (k : Nat) (hk : k < 8) :
    (w.alloc (.cells #[.int .u64 a, .int .u64 b, .int .u64 c, .int .u64 d, .int .u64 e, .int .u64 f, .int .u64 g, .int .u64 h] T)).cell? ⟨w.heap.size, k, none⟩ = some (.int .u64 (at8 a b c d e f g h k)) := by
  have h8 : k = 0 ∨ k = 1 ∨ k = 2 ∨ k = 3 ∨ k = 4 ∨ k = 5 ∨ k = 6 ∨ k = 7 := by omega
  rcases h8 with rfl | rfl | rfl | rfl | rfl | rfl | rfl | rfl <;> simp [at8]

def ofV (a b c d e f g h : Int) : Value := if wordsOk a b c d e f g h = true then .tuple #[.agg #[.int .u64 b, .int .u64 c], .int .i64 0] else .tuple #[.agg #[.int .u64 0, .int .u64 0], .int .i64 6]
theorem ofV_yes {a b c d e f g h : Int} (hh : wordsOk a b c d e f g h = true) : ofV a b c d e f g h = .tuple #[.agg #[.int .u64 b, .int .u64 c], .int .i64 0] := if_pos hh
theorem ofV_no {a b c d e f g h : Int} (hh : wordsOk a b c d e f g h = false) : ofV a b c d e f g h = .tuple #[.agg #[.int .u64 0, .int .u64 0], .int .i64 6] := if_neg (by rw [hh]; decide)

theorem wordsOk_of {a b c d e f g h : Int} (hN : ∀ i, i < 8 → at8 a b c d e f g h i = at8 5929342154728227142 b c (notZ b) 0 0 0 0 i) : wordsOk a b c d e f g h = true := by
  have h0 := hN 0 (by omega); have h3 := hN 3 (by omega); have h4 := hN 4 (by omega); have h5 := hN 5 (by omega); have h6 := hN 6 (by omega); have h7 := hN 7 (by omega)
  simp [at8] at h0 h3 h4 h5 h6 h7
  unfold wordsOk
  rw [h0, h3, h4, h5, h6, h7]; simp
theorem wordsOk_not {a b c d e f g h : Int} {k : Nat} (hk : k < 8) (hN : ¬ at8 a b c d e f g h k = at8 5929342154728227142 b c (notZ b) 0 0 0 0 k) : wordsOk a b c d e f g h = false := by
  cases hh : wordsOk a b c d e f g h with
  | false => rfl
  | true =>
    exfalso; apply hN
    unfold wordsOk at hh
    simp only [Bool.and_eq_true, beq_iff_eq] at hh
    obtain ⟨⟨⟨⟨⟨r0, r3⟩, r4⟩, r5⟩, r6⟩, r7⟩ := hh
    subst r0 r4 r5 r6 r7
    rw [r3]

/-- what the loop of Of reads and writes -/
structure OfMem (B D : Nat) (a b c d e f g h : Int) (wr : World) : Prop where
  arg : ∀ k, k < 8 → wr.cell? ⟨B, k, none⟩ = some (.int .u64 (at8 a b c d e f g h k))
  want : ∀ k, k < 8 → wr.cell? ⟨D, k, none⟩ = some (.int .u64 (at8 5929342154728227142 b c (notZ b) 0 0 0 0 k))
  r0 : wr.cell? ⟨B + 1, 0, none⟩ = some (.int .u64 0)
  r1 : wr.cell? ⟨B + 1, 1, none⟩ = some (.int .u64 0)
  f0 : wr.frozen? ⟨B + 1, 0, none⟩ = false
  f1 : wr.frozen? ⟨B + 1, 1, none⟩ = false
  s0 : wr.cell? ⟨B + 1 + 1, 0, none⟩ = some (.int .u64 b)
  s1 : wr.cell? ⟨B + 1 + 1, 1, none⟩ = some (.int .u64 c)
theorem OfMem.drew {B D : Nat} {a b c d e f g h : Int} {wr : World} (m : OfMem B D a b c d e f g h wr) : OfMem B D a b c d e f g h wr.drew :=
  ⟨m.arg, m.want, m.r0, m.r1, m.f0, m.f1, m.s0, m.s1⟩

theorem OfMem.start (w v1 : World) (T U V : TypeId) (a b c d e f g h : Int)
    (hb1 : Below (((w.alloc (.cells #[.int .u64 a, .int .u64 b, .int .u64 c, .int .u64 d, .int .u64 e, .int .u64 f, .int .u64 g, .int .u64 h] T)).alloc (.cells #[.int .u64 0, .int .u64 0] U)).alloc (.cells #[.int .u64 b, .int .u64 c] U)).heap.size
      (((w.alloc (.cells #[.int .u64 a, .int .u64 b, .int .u64 c, .int .u64 d, .int .u64 e, .int .u64 f, .int .u64 g, .int .u64 h] T)).alloc (.cells #[.int .u64 0, .int .u64 0] U)).alloc (.cells #[.int .u64 b, .int .u64 c] U)) v1) :
    OfMem w.heap.size v1.heap.size a b c d e f g h (v1.alloc (.cells #[.int .u64 5929342154728227142, .int .u64 b, .int .u64 c, .int .u64 (notZ b), .int .u64 0, .int .u64 0, .int .u64 0, .int .u64 0] T)) := by
  have hz := hb1.size
  simp at hz
  refine ⟨fun k hk => ?_, fun k hk => cell8 v1 T _ _ _ _ _ _ _ _ k hk, ?_, ?_, ?_, ?_, ?_, ?_⟩
  · rw [World.cell?_alloc_old _ _ _ (show w.heap.size ≠ v1.heap.size by omega), hb1.cell (by first | omega | (simp; done) | (simp; omega)), World.cell?_alloc_old _ _ _ (by simp; omega), World.cell?_alloc_old _ _ _ (by simp), cell8 w T a b c d e f g h k hk]
  · rw [World.cell?_alloc_old _ _ _ (show w.heap.size + 1 ≠ v1.heap.size by omega), hb1.cell (by first | omega | (simp; done) | (simp; omega))]; go_simp
  · rw [World.cell?_alloc_old _ _ _ (show w.heap.size + 1 ≠ v1.heap.size by omega), hb1.cell (by first | omega | (simp; done) | (simp; omega))]; go_simp
  · rw [World.frozen?_alloc_old _ _ _ (show w.heap.size + 1 ≠ v1.heap.size by omega), hb1.frozen (by first | omega | (simp; done) | (simp; omega))]; go_simp
  · rw [World.frozen?_alloc_old _ _ _ (show w.heap.size + 1 ≠ v1.heap.size by omega), hb1.frozen (by first | omega | (simp; done) | (simp; omega))]; go_simp
  · rw [World.cell?_alloc_old _ _ _ (show w.heap.size + 1 + 1 ≠ v1.heap.size by omega), hb1.cell (by first | omega | (simp; done) | (simp; omega))]; go_simp
  · rw [World.cell?_alloc_old _ _ _ (show w.heap.size + 1 + 1 ≠ v1.heap.size by omega), hb1.cell (by first | omega | (simp; done) | (simp; omega))]; go_simp

set_option maxHeartbeats 2000000 in
theorem Of_z (a b c d e f g h : Int) (w : World) (b1 : 0 ≤ b) (b2 : b ≤ 18446744073709551615) (c1 : 0 ≤ c) (c2 : c ≤ 18446744073709551615) :
    Calls Try.prog 46 #[words8 a b c d e f g h] w fun en w' => en = .returned (ofV a b c d e f g h) ∧ Below w.heap.size w w' := by
  unfold words8
  go_enter Try.func46, Try.ntmps46
  go_wp2_with fail
  refine (Words_z _ _ _ b1 b2 c1 c2).mono ?_
  rintro e v1 ⟨rfl, hb1⟩
  unfold words8
  have hM := hid (OfMem.start w v1 _ _ 0 a b c d e f g h hb1)
  have hB : Below w.heap.size w v1 := by (repeat (first | exact Below.refl _ _ | (refine ba ?_ _) | (refine Below.drew ?_) | (refine below_drewN ?_ _) | (refine Below.alloc ?_ (by first | omega | (simp; done) | (simp; omega)) _) | (refine Below.setCell ?_ (by first | omega | (simp; done) | (simp; omega)) _) | (refine bx ?_ (by assumption)) | (refine Below.trans ?_ (Below.mono (by assumption) (by first | omega | (simp; done) | (simp; omega))))))
  have x1 := hb1.cell (p := ⟨w.heap.size + 1, 0, none⟩) (by first | omega | (simp; done) | (simp; omega))
  go_wp2_with fail
  go_loopw [6, 14] (fun _ i wr => ∃ k : Nat, k ≤ 8 ∧ i = .int .i64 k ∧ Below w.heap.size w wr ∧ OfMem w.heap.size v1.heap.size a b c d e f g h wr ∧ Hid (∀ i, i < k → at8 a b c d e f g h i = at8 5929342154728227142 b c (notZ b) 0 0 0 0 i)) (fun _ i _ => (8 - intOf i).toNat)
  case atStart => exact ⟨0, by omega, rfl, hB.alloc hB.size _, hM.out, fun i hi => by omega⟩
  case round =>
    clear hb1 hM hB x1
    obtain ⟨k, hk, rfl, hB, hM, hN⟩ := hrel
    by_cases hlt : k < 8
    · have g1 := hM.arg k hlt
      have g2 := hM.want k hlt
      by_cases he : at8 a b c d e f g h k = at8 5929342154728227142 b c (notZ b) 0 0 0 0 k
      · have e1 : (at8 a b c d e f g h k != at8 5929342154728227142 b c (notZ b) 0 0 0 0 k) = false := by simp [he]
        have hN' : Hid (∀ i, i < k + 1 → at8 a b c d e f g h i = at8 5929342154728227142 b c (notZ b) 0 0 0 0 i) := fun i hi => by
          by_cases h2 : i = k
          · subst h2; exact he
          · exact hN.out i (by omega)
        clear he hN
        go_wp2
        go_region
        go_wp2
        go_roundw
        case rel => exact ⟨k + 1, by omega, by go_num, hB.drew, hM.drew, hN'⟩
        case measure => simp [intOf]; omega
      · have e1 : (at8 a b c d e f g h k != at8 5929342154728227142 b c (notZ b) 0 0 0 0 k) = true := by simp [he]
        have hz := hid (ofV_no (wordsOk_not hlt he))
        obtain ⟨-, -, r0, r1, f0, f1, -, -⟩ := hM
        clear he hN
        go_wp2
        go_region
        go_wp2
        refine bodyPost_ret (v := .tuple #[.agg #[.int .u64 0, .int .u64 0], .int .i64 6]) ?_ rfl ?_
        · simp [results, Try.results46, go_sem, r0, r1]
        · exact ⟨by rw [hz.out], by (repeat (first | exact Below.refl _ _ | (refine ba ?_ _) | (refine Below.drew ?_) | (refine below_drewN ?_ _) | (refine Below.alloc ?_ (by first | omega | (simp; done) | (simp; omega)) _) | (refine Below.setCell ?_ (by first | omega | (simp; done) | (simp; omega)) _) | (refine bx ?_ (by assumption)) | (refine Below.trans ?_ (Below.mono (by assumption) (by first | omega | (simp; done) | (simp; omega))))))⟩
    · have hz := hid (ofV_yes (wordsOk_of fun i hi => hN.out i (by omega)))
      obtain ⟨-, -, r0, r1, f0, f1, s0, s1⟩ := hM
      clear hN
      go_wp2
      refine bodyPost_ret (v := .tuple #[.agg #[.int .u64 b, .int .u64 c], .int .i64 0]) ?_ rfl ?_
      · simp [results, Try.results46, go_sem, r0, r1]
      · exact ⟨by rw [hz.out], by (repeat (first | exact Below.refl _ _ | (refine ba ?_ _) | (refine Below.drew ?_) | (refine below_drewN ?_ _) | (refine Below.alloc ?_ (by first | omega | (simp; done) | (simp; omega)) _) | (refine Below.setCell ?_ (by first | omega | (simp; done) | (simp; omega)) _) | (refine bx ?_ (by assumption)) | (refine Below.trans ?_ (Below.mono (by assumption) (by first | omega | (simp; done) | (simp; omega))))))⟩

theorem not_iff {b d : Int} : (d = notZ b) = (b = 18446744073709551615 - d) := by
  unfold notZ; apply propext; omega

set_option maxHeartbeats 2000000 in
theorem ROf_yes (a b c d e f g h : Int) (w : World) (b1 : 0 ≤ b) (b2 : b ≤ 18446744073709551615) (d1 : 0 ≤ d) (d2 : d ≤ 18446744073709551615) (hh : wordsOk a b c d e f g h = true) :
    Calls Try.prog 48 #[words8 a b c d e f g h] w fun en w' => en = .returned (.tuple #[.agg #[.int .u64 b, .int .u64 c], .int .i64 0]) ∧ Below w.heap.size w w' := by
  unfold words8
  unfold wordsOk at hh
  simp only [Bool.and_eq_true, beq_iff_eq] at hh
  obtain ⟨⟨⟨⟨⟨r0, r3⟩, r4⟩, r5⟩, r6⟩, r7⟩ := hh
  rw [not_iff] at r3
  have e3 : (b != 18446744073709551615 - d) = false := by rw [← r3]; simp
  subst r0 r4 r5 r6 r7
  clear r3
  go_enter Try.func48, Try.ntmps48
  go_wp2
  refine bodyPost_ret (v := .tuple #[.agg #[.int .u64 b, .int .u64 c], .int .i64 0]) ?_ rfl ?_
  · simp [results, Try.results48, go_sem]
  · exact ⟨rfl, by (repeat (first | exact Below.refl _ _ | (refine ba ?_ _) | (refine Below.drew ?_) | (refine below_drewN ?_ _) | (refine Below.alloc ?_ (by first | omega | (simp; done) | (simp; omega)) _) | (refine Below.setCell ?_ (by first | omega | (simp; done) | (simp; omega)) _) | (refine bx ?_ (by assumption)) | (refine Below.trans ?_ (Below.mono (by assumption) (by first | omega | (simp; done) | (simp; omega))))))⟩

set_option maxHeartbeats 2000000 in
theorem ROf_no (a b c d e f g h : Int) (w : World) (b1 : 0 ≤ b) (b2 : b ≤ 18446744073709551615) (d1 : 0 ≤ d) (d2 : d ≤ 18446744073709551615) (hh : wordsOk a b c d e f g h = false) :
    Calls Try.prog 48 #[words8 a b c d e f g h] w fun en w' => en = .returned (.tuple #[.agg #[.int .u64 0, .int .u64 0], .int .i64 6]) ∧ Below w.heap.size w w' := by
  unfold words8
  by_cases k0 : a = 5929342154728227142
  · have e0 : (a != 5929342154728227142) = false := by simp [k0]
    by_cases k1 : d = notZ b
    · have e1 : (b != 18446744073709551615 - d) = false := by rw [not_iff] at k1; rw [← k1]; simp
      by_cases k2 : e = 0
      · have e2 : (e != 0) = false := by simp [k2]
        by_cases k3 : f = 0
        · have e3 : (f != 0) = false := by simp [k3]
          by_cases k4 : g = 0
          · have e4 : (g != 0) = false := by simp [k4]
            by_cases k5 : h = 0
            · exfalso; subst k0 k2 k3 k4 k5; rw [k1] at hh; unfold wordsOk at hh; simp at hh
            · have e5 : (h != 0) = true := bne_iff_ne.2 k5
              clear hh k0 k1 k2 k3 k4 k5
              go_enter Try.func48, Try.ntmps48
              go_wp2
              refine bodyPost_ret (v := .tuple #[.agg #[.int .u64 0, .int .u64 0], .int .i64 6]) ?_ rfl ?_
              · simp [results, Try.results48, go_sem]
              · exact ⟨rfl, by (repeat (first | exact Below.refl _ _ | (refine ba ?_ _) | (refine Below.drew ?_) | (refine below_drewN ?_ _) | (refine Below.alloc ?_ (by first | omega | (simp; done) | (simp; omega)) _) | (refine Below.setCell ?_ (by first | omega | (simp; done) | (simp; omega)) _) | (refine bx ?_ (by assumption)) | (refine Below.trans ?_ (Below.mono (by assumption) (by first | omega | (simp; done) | (simp; omega))))))⟩
          · have e4 : (g != 0) = true := bne_iff_ne.2 k4
            clear hh k0 k1 k2 k3 k4
            go_enter Try.func48, Try.ntmps48
            go_wp2
            refine bodyPost_ret (v := .tuple #[.agg #[.int .u64 0, .int .u64 0], .int .i64 6]) ?_ rfl ?_
            · simp [results, Try.results48, go_sem]
            · exact ⟨rfl, by (repeat (first | exact Below.refl _ _ | (refine ba ?_ _) | (refine Below.drew ?_) | (refine below_drewN ?_ _) | (refine Below.alloc ?_ (by first | omega | (simp; done) | (simp; omega)) _) | (refine Below.setCell ?_ (by first | omega | (simp; done) | (simp; omega)) _) | (refine bx ?_ (by assumption)) | (refine Below.trans ?_ (Below.mono (by assumption) (by first | omega | (simp; done) | (simp; omega))))))⟩
        · have e3 : (f != 0) = true := bne_iff_ne.2 k3
          clear hh k0 k1 k2 k3
          go_enter Try.func48, Try.ntmps48
          go_wp2
          refine bodyPost_ret (v := .tuple #[.agg #[.int .u64 0, .int .u64 0], .int .i64 6]) ?_ rfl ?_
          · simp [results, Try.results48, go_sem]
          · exact ⟨rfl, by (repeat (first | exact Below.refl _ _ | (refine ba ?_ _) | (refine Below.drew ?_) | (refine below_drewN ?_ _) | (refine Below.alloc ?_ (by first | omega | (simp; done) | (simp; omega)) _) | (refine Below.setCell ?_ (by first | omega | (simp; done) | (simp; omega)) _) | (refine bx ?_ (by assumption)) | (refine Below.trans ?_ (Below.mono (by assumption) (by first | omega | (simp; done) | (simp; omega))))))⟩
      · have e2 : (e != 0) = true := bne_iff_ne.2 k2
        clear hh k0 k1 k2
        go_enter Try.func48, Try.ntmps48
        go_wp2
        refine bodyPost_ret (v := .tuple #[.agg #[.int .u64 0, .int .u64 0], .int .i64 6]) ?_ rfl ?_
        · simp [results, Try.results48, go_sem]
        · exact ⟨rfl, by (repeat (first | exact Below.refl _ _ | (refine ba ?_ _) | (refine Below.drew ?_) | (refine below_drewN ?_ _) | (refine Below.alloc ?_ (by first | omega | (simp; done) | (simp; omega)) _) | (refine Below.setCell ?_ (by first | omega | (simp; done) | (simp; omega)) _) | (refine bx ?_ (by assumption)) | (refine Below.trans ?_ (Below.mono (by assumption) (by first | omega | (simp; done) | (simp; omega))))))⟩
    · have e1 : (b != 18446744073709551615 - d) = true := by rw [not_iff] at k1; exact bne_iff_ne.2 k1
      clear hh k0 k1
      go_enter Try.func48, Try.ntmps48
      go_wp2
      refine bodyPost_ret (v := .tuple #[.agg #[.int .u64 0, .int .u64 0], .int .i64 6]) ?_ rfl ?_
      · simp [results, Try.results48, go_sem]
      · exact ⟨rfl, by (repeat (first | exact Below.refl _ _ | (refine ba ?_ _) | (refine Below.drew ?_) | (refine below_drewN ?_ _) | (refine Below.alloc ?_ (by first | omega | (simp; done) | (simp; omega)) _) | (refine Below.setCell ?_ (by first | omega | (simp; done) | (simp; omega)) _) | (refine bx ?_ (by assumption)) | (refine Below.trans ?_ (Below.mono (by assumption) (by first | omega | (simp; done) | (simp; omega))))))⟩
  · have e0 : (a != 5929342154728227142) = true := bne_iff_ne.2 k0
    clear hh k0
    go_enter Try.func48, Try.ntmps48
    go_wp2
    refine bodyPost_ret (v := .tuple #[.agg #[.int .u64 0, .int .u64 0], .int .i64 6]) ?_ rfl ?_
    · simp [results, Try.results48, go_sem]
    · exact ⟨rfl, by (repeat (first | exact Below.refl _ _ | (refine ba ?_ _) | (refine Below.drew ?_) | (refine below_drewN ?_ _) | (refine Below.alloc ?_ (by first | omega | (simp; done) | (simp; omega)) _) | (refine Below.setCell ?_ (by first | omega | (simp; done) | (simp; omega)) _) | (refine bx ?_ (by assumption)) | (refine Below.trans ?_ (Below.mono (by assumption) (by first | omega | (simp; done) | (simp; omega))))))⟩

theorem ROf_z (a b c d e f g h : Int) (w : World) (b1 : 0 ≤ b) (b2 : b ≤ 18446744073709551615) (d1 : 0 ≤ d) (d2 : d ≤ 18446744073709551615) :
    Calls Try.prog 48 #[words8 a b c d e f g h] w fun en w' => en = .returned (ofV a b c d e f g h) ∧ Below w.heap.size w w' := by
  cases hh : wordsOk a b c d e f g h with
  | true => rw [ofV_yes hh]; exact ROf_yes a b c d e f g h w b1 b2 d1 d2 hh
  | false => rw [ofV_no hh]; exact ROf_no a b c d e f g h w b1 b2 d1 d2 hh
end Go.Proofs.Ytnonldbnnjdifaa
