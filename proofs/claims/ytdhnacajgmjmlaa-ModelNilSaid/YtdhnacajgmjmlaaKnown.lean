/- The law's known: the chapter's rows. -/
import Derived.Test.YtdhnacajgmjmlaaBeh
namespace Go.Proofs.Ytdhnacajgmjmlaa
open Go.RowKit
set_option linter.unusedVariables false
set_option linter.unusedSimpArgs false

theorem row_made (w : World) (ps : PairL) (hn : ps.length ≤ 1000000) : (w.alloc (.cells (pc ps).toArray 52)).ownsRow w.heap.size 52 2 (.slice (some ⟨w.heap.size, 0, none⟩) ps.length ps.length) ps.length (pc ps) :=
  ⟨pc_length ps, Or.inr ⟨w.heap.size, _, _, rfl, Nat.le_refl _, Blk.new w _ _, Nat.le_refl _, by unfold maxLen; omega, by simp [pc_length], by rw [← pc_length ps]; simp⟩⟩
abbrev bA : ByteArray := ⟨#[97]⟩
abbrev bC : ByteArray := ⟨#[99]⟩
abbrev bD : ByteArray := ⟨#[100]⟩
def kP : PairL := [(3, bC), (1, bA), (3, bD)]
def kQ : PairL := [(1, bA), (3, bD)]
theorem kNew : newL kP = kQ := by decide +kernel
theorem kScan : scanL 0 9 5 kQ = kQ := by decide +kernel
theorem kScan1 : scanL 0 9 1 kQ = [(1, bA)] := by decide +kernel
theorem kDel : delM 1 kQ = [(3, bD)] := by decide +kernel
theorem kErr : errGet 1 kQ = 0 := by decide +kernel
theorem kErr1 : errGet 1 [(3, bD)] = 5 := by decide +kernel
theorem kErr3 : errGet 3 [(3, bD)] = 0 := by decide +kernel
theorem kGet3 : getM 3 [(3, bD)] = bD := by decide +kernel

set_option maxRecDepth 100000 in
set_option maxHeartbeats 4000000 in
theorem known_z22 (w : World) : Calls Try.prog 21 #[] w fun e w' => e = .returned (.bool true) ∧ Below w.heap.size w w' := by
  go_enter Try.func21, Try.ntmps21
  go_wp2_with fail
  refine (New_z _ kP _ (row_zero (row_made w kP (by decide))) (by decide)).mono ?_
  rintro e w1 ⟨m, v, rfl, hown⟩
  rw [kNew] at hown
  have B1 := hid (bx (ba (Below.refl _ w) (.cells (pc kP).toArray 52)) hown.bel)
  have hm1 := hid hown.map
  have hl1 := hid hown.low
  clear hown
  go_wp2_with fail
  refine (Scan_z m v kQ 0 9 5 _ hm1.out (by decide)).mono ?_
  rintro e w2 ⟨pv, rfl, hr2, hb2⟩
  rw [kScan] at hr2
  obtain ⟨pa, pn, rfl⟩ := row_form hr2
  have B2 := hid (bx B1.out hb2)
  have hm2 := hid (hm1.out.bel hb2)
  have R2 := hid hr2
  clear hr2 hb2
  go_wp2_with fail
  refine (Scan_bad m 2 1 5 _ (by decide)).mono ?_
  rintro e w3 ⟨rfl, hb3⟩
  have B3 := hid (bx B2.out hb3)
  have hm3 := hid (hm2.out.bel hb3)
  have R3 := hid ((Only.of_below hb3 []).own R2.out (fun _ _ => by simp))
  clear hb3
  go_wp2_with fail
  refine (Scan_z m v kQ 0 9 1 _ hm3.out (by decide)).mono ?_
  rintro e w4 ⟨qv, rfl, hr4, hb4⟩
  rw [kScan1] at hr4
  obtain ⟨qa, qn, rfl⟩ := row_form hr4
  have B4 := hid (bx B3.out hb4)
  have hm4 := hid (hm3.out.bel hb4)
  have R4 := hid ((Only.of_below hb4 []).own R3.out (fun _ _ => by simp))
  have Q4 := hid hr4
  clear hr4 hb4
  go_wp2_with fail
  refine (Delete_z m v 1 kQ _ hm4.out).mono ?_
  intro e w5 hp
  obtain ⟨v', rfl, hm5, ho5, hown5⟩ := hp
  rw [kDel] at hm5
  rw [kErr]
  have B5 := hid (B4.out.trans (ho5.below (B := w.heap.size) (fun x hx => by have := hl1.out x hx; simp at this; omega) B4.out.size))
  have R5 := hid (ho5.own R4.out (fun q hq hx => by have h1 := (row_lt R2.out q hq).1; have h2 := hm1.out.foot_lt q hx; omega))
  have Q5 := hid (ho5.own Q4.out (fun q hq hx => by have h1 := (row_lt Q4.out q hq).1; have h2 := hm3.out.foot_lt q hx; omega))
  have HM5 := hid hm5
  clear hm5 ho5 hown5
  go_wp2_with fail
  refine (Get_z m v' 1 _ _ HM5.out).mono ?_
  rintro e w6 ⟨rfl, hb6⟩
  rw [kErr1]
  have B6 := hid (bx B5.out hb6)
  have HM6 := hid (HM5.out.bel hb6)
  have R6 := hid ((Only.of_below hb6 []).own R5.out (fun _ _ => by simp))
  have Q6 := hid ((Only.of_below hb6 []).own Q5.out (fun _ _ => by simp))
  clear hb6
  go_wp2_with fail
  refine (Get_z m v' 3 _ _ HM6.out).mono ?_
  rintro e w7 ⟨rfl, hb7⟩
  rw [kErr3, kGet3]
  have B7 := hid (bx B6.out hb7)
  have R7 := hid ((Only.of_below hb7 []).own R6.out (fun _ _ => by simp))
  have Q7 := hid ((Only.of_below hb7 []).own Q6.out (fun _ _ => by simp))
  clear hb7
  have HQ : Hid ((((w7.alloc (.cells #[.int .u64 1, .string ⟨#[97]⟩] 52)).alloc (.cells #[.int .u64 3, .string ⟨#[100]⟩] 52)).alloc (.cells #[.int .u64 1, .string ⟨#[97]⟩, .int .u64 3, .string ⟨#[100]⟩] 52)).ownsRow 0 52 2 (.slice (some ⟨w7.heap.size + 1 + 1, 0, none⟩) 2 2) kQ.length (pc kQ)) := by
    have := row_zero (row_made ((w7.alloc (.cells #[.int .u64 1, .string ⟨#[97]⟩] 52)).alloc (.cells #[.int .u64 3, .string ⟨#[100]⟩] 52)) kQ (by decide))
    rw [World.size_alloc, World.size_alloc] at this
    exact this
  have HR : Hid ((((w7.alloc (.cells #[.int .u64 1, .string ⟨#[97]⟩] 52)).alloc (.cells #[.int .u64 3, .string ⟨#[100]⟩] 52)).alloc (.cells #[.int .u64 1, .string ⟨#[97]⟩, .int .u64 3, .string ⟨#[100]⟩] 52)).ownsRow 0 52 2 (.slice pa kQ.length pn) kQ.length (pc kQ)) := row_zero (row_alloc (row_alloc (row_alloc R7.out _) _) _)
  go_wp2_with fail
  refine (RSamePairs_z _ _ kQ kQ _ HR.out HQ.out (by decide) (by decide)).mono ?_
  rintro e w8 ⟨rfl, hb8⟩
  rw [pairsEq_self]
  have x0 : w8.cell? ⟨w7.heap.size, 0, none⟩ = some (.int .u64 1) := ck (by go_simp) hb8
  have x1 : w8.cell? ⟨w7.heap.size, 1, none⟩ = some (.string ⟨#[97]⟩) := ck (by go_simp) hb8
  have B8 := hid (bx B7.out (bx (ba (ba (ba (Below.refl _ _) (.cells #[.int .u64 1, .string ⟨#[97]⟩] 52)) (.cells #[.int .u64 3, .string ⟨#[100]⟩] 52)) (.cells #[.int .u64 1, .string ⟨#[97]⟩, .int .u64 3, .string ⟨#[100]⟩] 52)) hb8))
  have HQ8 : Hid ((w8.alloc (.cells #[.int .u64 1, .string ⟨#[97]⟩] 52)).ownsRow 0 52 2 (.slice (some ⟨w8.heap.size, 0, none⟩) 1 1) [((1 : Int), bA)].length (pc [(1, bA)])) := row_zero (row_made w8 [(1, bA)] (by decide))
  have HR8 : Hid ((w8.alloc (.cells #[.int .u64 1, .string ⟨#[97]⟩] 52)).ownsRow 0 52 2 (.slice qa [((1 : Int), bA)].length qn) [((1 : Int), bA)].length (pc [(1, bA)])) := row_zero (row_alloc ((Only.of_below hb8 []).own (row_alloc (row_alloc (row_alloc Q7.out _) _) _) (fun _ _ => by simp)) _)
  clear hb8
  go_wp2_with fail
  refine (RSamePairs_z _ _ [(1, bA)] [(1, bA)] _ HR8.out HQ8.out (by decide) (by decide)).mono ?_
  rintro e w9 ⟨rfl, hb9⟩
  rw [pairsEq_self]
  have B9 := hid (bx B8.out (bx (ba (Below.refl _ _) (.cells #[.int .u64 1, .string ⟨#[97]⟩] 52)) hb9))
  clear hb9
  go_wp2
  go_ret
  exact ⟨rfl, B9.out⟩

end Go.Proofs.Ytdhnacajgmjmlaa
