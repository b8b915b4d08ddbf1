/- SlabPlays: an act of the game: a turn begun. -/
import Derived.Test.YtbkaemajjaiklaaGreatGameB
import Derived.Test.YtbkaemajjaiklaaGreatImg

namespace Go.Proofs.YtbkaemajjaiklaaGreat
open Go.RowKit
set_option linter.unusedVariables false
set_option linter.unusedSimpArgs false

theorem GameIs.turnIn {w : World} {N n K : Nat} {l : GL} {g : GA} (h : GameIs w N n K l g) : TurnIn w N l.B l.V ((8 * l.M.view.length : Nat) : Int) g.A n l.m l.Q l.M.view.length l.M.st :=
  ⟨h.work.sl, h.work.hl, h.work.hn, h.work.mem.is.blk, ⟨h.work.mem.is.pos, h.work.mem.is.big⟩, rfl⟩
theorem ht_row {w w2 : World} {N n K : Nat} {l : GL} {g : GA} (h : GameIs w N n K l g) (ho : Only [l.B.m] w w2) : w2.ownsRow N 179 4 l.vT g.T.length (g.T.flatMap trC) :=
  ho.own h.row (fun k hk hm => absurd (h.sep.one 4 2 k (h.in4 hk) (h.in2 (by rw [List.mem_singleton.1 hm]; exact foot_mem.2 ⟨2, role_m _ _⟩))) (by decide))
theorem Publish_no (N : Nat) (B : SB) (V : Nat → Value) (size : Int) (A : SA) (n m : Nat) (MBk : MB) (vl : Nat) (st : St4) (cl a : Int) (w : World) (h : TurnIn w N B V size A n m MBk vl st) (hc : ¬ (0 ≤ cl ∧ cl ≤ 64)) :
    Calls Tryz.prog 36 #[.pointer (some ⟨B.s, 0, none⟩), .pointer (some ⟨m, 0, none⟩), .int .i64 cl, .int .u64 a] w fun e w' => e = .returned (.tuple #[.pointer none, .int .i64 2]) ∧ Below w.heap.size w w' :=
  (Publish_of (fun v e w' => e = .returned (.tuple #[.pointer none, .int .i64 2]) ∧ Below w.heap.size w w') B m cl a w ((turn_no N B V size A n m MBk vl st cl a 1 4 2 w h hc).mono fun e w' hh => ⟨_, _, hh.1, hh.1, hh.2⟩)).mono fun e w' ⟨_, _, _, hh⟩ => hh
theorem Publish_st (N : Nat) (B : SB) (V : Nat → Value) (size : Int) (A : SA) (n m : Nat) (MBk : MB) (vl : Nat) (st : St4) (cl a : Int) (w : World) (h : TurnIn w N B V size A n m MBk vl st) (hc : 0 ≤ cl ∧ cl ≤ 64) (hw : isGet A.is a ≠ 1) :
    Calls Tryz.prog 36 #[.pointer (some ⟨B.s, 0, none⟩), .pointer (some ⟨m, 0, none⟩), .int .i64 cl, .int .u64 a] w fun e w' => e = .returned (.tuple #[.pointer none, .int .i64 7]) ∧ Below w.heap.size w w' :=
  (Publish_of (fun v e w' => e = .returned (.tuple #[.pointer none, .int .i64 7]) ∧ Below w.heap.size w w') B m cl a w ((turn_st N B V size A n m MBk vl st cl a 1 4 2 w h hc hw).mono fun e w' hh => ⟨_, _, hh.1, hh.1, hh.2⟩)).mono fun e w' ⟨_, _, _, hh⟩ => hh
theorem Publish_ok (N : Nat) (B : SB) (V : Nat → Value) (size : Int) (A : SA) (n m : Nat) (MBk : MB) (vl : Nat) (st : St4) (cl a : Int) (w : World) (h : TurnIn w N B V size A n m MBk vl st) (hc : 0 ≤ cl ∧ cl ≤ 64) (hw : isGet A.is a = 1) (ha : 0 ≤ a ∧ a ≤ 18446744073709551615) :
    Calls Tryz.prog 36 #[.pointer (some ⟨B.s, 0, none⟩), .pointer (some ⟨m, 0, none⟩), .int .i64 cl, .int .u64 a] w fun e w' => ∃ t, e = .returned (.tuple #[.pointer (some ⟨t, 0, none⟩), .int .i64 0]) ∧ TurnOut w N B V size A m cl a 4 2 t w' :=
  (Publish_of (fun v e w' => ∃ t, e = .returned (.tuple #[.pointer (some ⟨t, 0, none⟩), .int .i64 0]) ∧ TurnOut w N B V size A m cl a 4 2 t w') B m cl a w ((turn_ok N B V size A n m MBk vl st cl a 1 4 2 w h hc hw ha).mono fun e w' ⟨t, h1, h2⟩ => ⟨_, _, h1, t, h1, h2⟩)).mono fun e w' ⟨_, _, _, hh⟩ => hh
theorem Free_no (N : Nat) (B : SB) (V : Nat → Value) (size : Int) (A : SA) (n m : Nat) (MBk : MB) (vl : Nat) (st : St4) (cl a : Int) (w : World) (h : TurnIn w N B V size A n m MBk vl st) (hc : ¬ (0 ≤ cl ∧ cl ≤ 64)) :
    Calls Tryz.prog 67 #[.pointer (some ⟨B.s, 0, none⟩), .pointer (some ⟨m, 0, none⟩), .int .i64 cl, .int .u64 a] w fun e w' => e = .returned (.tuple #[.pointer none, .int .i64 2]) ∧ Below w.heap.size w w' :=
  (Free_of (fun v e w' => e = .returned (.tuple #[.pointer none, .int .i64 2]) ∧ Below w.heap.size w w') B m cl a w ((turn_no N B V size A n m MBk vl st cl a 2 3 0 w h hc).mono fun e w' hh => ⟨_, _, hh.1, hh.1, hh.2⟩)).mono fun e w' ⟨_, _, _, hh⟩ => hh
theorem Free_st (N : Nat) (B : SB) (V : Nat → Value) (size : Int) (A : SA) (n m : Nat) (MBk : MB) (vl : Nat) (st : St4) (cl a : Int) (w : World) (h : TurnIn w N B V size A n m MBk vl st) (hc : 0 ≤ cl ∧ cl ≤ 64) (hw : isGet A.is a ≠ 2) :
    Calls Tryz.prog 67 #[.pointer (some ⟨B.s, 0, none⟩), .pointer (some ⟨m, 0, none⟩), .int .i64 cl, .int .u64 a] w fun e w' => e = .returned (.tuple #[.pointer none, .int .i64 7]) ∧ Below w.heap.size w w' :=
  (Free_of (fun v e w' => e = .returned (.tuple #[.pointer none, .int .i64 7]) ∧ Below w.heap.size w w') B m cl a w ((turn_st N B V size A n m MBk vl st cl a 2 3 0 w h hc hw).mono fun e w' hh => ⟨_, _, hh.1, hh.1, hh.2⟩)).mono fun e w' ⟨_, _, _, hh⟩ => hh
theorem Free_ok (N : Nat) (B : SB) (V : Nat → Value) (size : Int) (A : SA) (n m : Nat) (MBk : MB) (vl : Nat) (st : St4) (cl a : Int) (w : World) (h : TurnIn w N B V size A n m MBk vl st) (hc : 0 ≤ cl ∧ cl ≤ 64) (hw : isGet A.is a = 2) (ha : 0 ≤ a ∧ a ≤ 18446744073709551615) :
    Calls Tryz.prog 67 #[.pointer (some ⟨B.s, 0, none⟩), .pointer (some ⟨m, 0, none⟩), .int .i64 cl, .int .u64 a] w fun e w' => ∃ t, e = .returned (.tuple #[.pointer (some ⟨t, 0, none⟩), .int .i64 0]) ∧ TurnOut w N B V size A m cl a 3 0 t w' :=
  (Free_of (fun v e w' => ∃ t, e = .returned (.tuple #[.pointer (some ⟨t, 0, none⟩), .int .i64 0]) ∧ TurnOut w N B V size A m cl a 3 0 t w') B m cl a w ((turn_ok N B V size A n m MBk vl st cl a 2 3 0 w h hc hw ha).mono fun e w' ⟨t, h1, h2⟩ => ⟨_, _, h1, t, h1, h2⟩)).mono fun e w' ⟨_, _, _, hh⟩ => hh

set_option maxRecDepth 100000 in
set_option maxHeartbeats 4000000 in
theorem do_pub (N n K : Nat) (l : GL) (g : GA) (kd nn aa cc : Int) (w : World) (h : GameIs w N n K l g) (hK : K ≤ 1000000) (hk : kd = 3) (ha : 0 ≤ aa ∧ aa ≤ 18446744073709551615) :
    Calls Tryz.prog 19 #[.pointer (some ⟨l.gb, 0, none⟩), .agg #[.int .i64 kd, .int .i64 nn, .int .u64 aa, .int .i64 cc]] w (DoPost w N n K l g kd nn aa cc) := by
  obtain ⟨W, hW, hb, bx⟩ := actBox w kd nn aa cc
  have z0 : W.cell? ⟨w.heap.size, 0, none⟩ = some (.int .i64 kd) := bx.cell 0
  have z1 : W.cell? ⟨w.heap.size, 1, none⟩ = some (.int .i64 nn) := bx.cell 1
  have z2 : W.cell? ⟨w.heap.size, 2, none⟩ = some (.int .u64 aa) := bx.cell 2
  have z3 : W.cell? ⟨w.heap.size, 3, none⟩ = some (.int .i64 cc) := bx.cell 3
  have k1 : (kd == 1) = false := by rw [hk]; rfl
  have k2 : (kd == 2) = false := by rw [hk]; rfl
  have k3 : (kd == 3) = true := by rw [hk]; rfl
  have H := hid (h.bel hb)
  have HW := hid hW
  have HK := hid hk
  have HBX := hid bx
  have HBW := hid (hb.mono h.loN)
  have hwlt : w.heap.size < W.heap.size := bx.lt
  have HSEP : Hid (∀ p, ∀ k ∈ l.F g.T p, k < w.heap.size) := fun p k hk => h.sep.lt p k hk
  have HAA := hid ha
  clear h hW hb bx hk ha
  go_enter Tryz.func19, Tryz.ntmps19
  go_upto_region 1 with fail
  rw [show w.alloc (.cells #[.int .i64 kd, .int .i64 nn, .int .u64 aa, .int .i64 cc] 45) = W from HW.out.symm]
  go_wp2_with fail
  refine (block_g N n K l g kd nn aa cc W H.out).mono ?_
  rintro e w1 ⟨rfl, hb1⟩
  have H1 := hid (H.out.bel hb1)
  have HB1N := hid (hb1.mono H.out.loN)
  have hbx1 := (Only.of_below hb1 []).blk HBX.out (by simp)
  have HBX1 := hid hbx1
  have z3 : w1.cell? ⟨w.heap.size, 3, none⟩ = some (.int .i64 cc) := hbx1.cell 3
  obtain ⟨a, ha⟩ : ∃ a, a = blkG g.ls nn aa := ⟨_, rfl⟩
  rw [← ha]
  have HA := hid ha
  have y0 : w1.cell? ⟨l.gb, 0, none⟩ = some (.pointer (some ⟨l.m, 0, none⟩)) := H1.out.gblk.cell 0
  have y1 : w1.cell? ⟨l.gb, 1, none⟩ = some (.pointer (some ⟨l.B.s, 0, none⟩)) := H1.out.gblk.cell 1
  clear hb1 ha hbx1
  by_cases hc : 0 ≤ cc ∧ cc ≤ 64
  · by_cases h1 : isGet g.ls a = 1
    · obtain ⟨cl, rfl⟩ : ∃ cl : Nat, cc = (cl : Int) := ⟨cc.toNat, by omega⟩
      have hcl : cl ≤ 64 := by omega
      have PB := hid (Publish_ok N l.B l.V _ g.A n l.m l.Q l.M.view.length l.M.st (cl : Int) a w1.drew H1.out.drew.turnIn hc (by rw [H1.out.al.is]; exact h1) (by have h3 := H1.out.at (a := a) (by rw [h1]; decide); obtain ⟨_, _, _, _, _, _, _, _, _, _, _, _, p10, p11⟩ := h3; omega))
      have HC := hid hcl
      have HI := hid h1
      clear hc h1 hcl
      go_upto_region 16 with fail
      go_region_held3 (fun w' => w'.cell? ⟨l.gb, 0, none⟩ = some (.pointer (some ⟨l.m, 0, none⟩)) ∧ w'.cell? ⟨l.gb, 1, none⟩ = some (.pointer (some ⟨l.B.s, 0, none⟩)) ∧ w'.cell? ⟨w.heap.size, 3, none⟩ = some (.int .i64 (cl : Int))) (go_keep)
        ((go_at_call 36; refine PB.out.mono ?_; rintro e w2 ⟨t, rfl, ht⟩; have T2 := hid ht; have hmv := ht.only; have o2 := ht.only.blk ((Only.refl [] w1).drew.blk HBX1.out (by simp)) (fun hm => Nat.lt_irrefl _ (HSEP.out 2 _ (gF_mem.2 (Or.inr (Or.inr (Or.inl ⟨rfl, by rw [List.mem_singleton.1 hm]; exact foot_mem.2 ⟨2, role_m _ _⟩⟩)))))); have HBX2 := hid o2; obtain ⟨d1, d2, d3⟩ := H1.out.drew.docMoved (Moved.putM ht.only).only; have D2 := hid (⟨d1, d2, d3⟩ : _ ∧ _ ∧ _); have q0 : w2.cell? ⟨l.gb, 0, none⟩ = some (.pointer (some ⟨l.m, 0, none⟩)) := d2.cell 0; have q1 : w2.cell? ⟨l.gb, 1, none⟩ = some (.pointer (some ⟨l.B.s, 0, none⟩)) := d2.cell 1; have q3 : w2.cell? ⟨w.heap.size, 3, none⟩ = some (.int .i64 (cl : Int)) := o2.cell 3; clear ht hmv o2 d1 d2 d3))
      clear y0 y1 z3
      have hrow := ht_row H1.out.drew T2.out.only
      have ST := hid (start_ok l.gb N l.wd _ g.cs g.ls l.vC l.vL _ _ l.vT g.T ⟨t, cl, a, 2, 0⟩ 1 4 rfl HC.out w2 D2.out.2.2 D2.out.2.1 D2.out.1 hrow (by have := H1.out.fewT.2; omega) (by have := H1.out.fewT.1; omega) HI.out
        (H1.out.ne H1.out.in0 H1.out.in3 (by decide)) (fun e => absurd (H1.out.sep.one 0 4 l.gb H1.out.in0 (H1.out.in4 e)) (by decide)) (fun e => absurd (H1.out.sep.one 3 4 l.wd H1.out.in3 (H1.out.in4 e)) (by decide)) (fun e => absurd (H1.out.sep.one 0 3 l.gb H1.out.in0 (H1.out.in3C e)) (by decide)) (fun k hk e => absurd (H1.out.sep.one 3 4 k (H1.out.in3C e) (H1.out.in4 hk)) (by decide)))
      clear hrow
      go_wp2_with fail
      refine ST.out.mono ?_
      rintro e w3 ⟨rfl, vL', vT', hs⟩
      have hg := (H1.out.drew.begun ⟨t, cl, a, 2, 0⟩ 1 4 rfl HC.out HI.out (by first | exact Or.inl ⟨rfl, rfl, rfl⟩ | exact Or.inr ⟨rfl, rfl, rfl⟩) T2.out hs).up
      have hd : Did n kd nn aa (cl : Int) g { g with A := { g.A with is := isSet g.A.is a 4 }, ls := setW g.ls a 4, T := g.T ++ [⟨t, cl, a, 2, 0⟩] } := by rw [HA.out]; exact Did.pub t cl HK.out rfl HC.out (by rw [← HA.out]; exact HI.out)
      have HG := hid hg
      have HD := hid hd
      have HBL := hid ((HB1N.out.trans ((Only.refl [] w1).drew.below (fun _ h => by cases h) H1.out.loN)).trans ((T2.out.only.below (fun y hy => by rw [List.mem_singleton.1 hy]; exact H1.out.lo 2 _ (H1.out.in2 (foot_mem.2 ⟨2, role_m _ _⟩))) H1.out.drew.loN).trans (hs.only.below (fun y hy => by
        rcases List.mem_cons.1 hy with rfl | hy
        · exact H1.out.gN
        · rcases List.mem_cons.1 hy with rfl | hy
          · exact H1.out.wo.lo
          · exact H1.out.lo 4 y (H1.out.in4 (by simpa using hy))) D2.out.2.2)))
      clear hg hd hs q0 q1 q3
      have y1 : w3.cell? ⟨l.gb, 1, none⟩ = some (.pointer (some ⟨l.B.s, 0, none⟩)) := by exact HG.out.gblk.cell 1
      have y2 : w3.cell? ⟨l.gb, 2, none⟩ = some (.pointer (some ⟨l.wd, 0, none⟩)) := by exact HG.out.gblk.cell 2
      have SM := hid (same_z _ _ _ _ _ _ _ _ _ _ _ _ w3.drew HG.out.drew.both)
      go_upto_region 26 with fail
      refine wp_region_still_tail 10 (by kernel_rfl) (by kernel_rfl) ?_
      simp only [List.take_succ_cons, List.take_zero, List.drop_succ_cons, List.drop_zero]
      repeat still_step
      refine wpStill_nil ?_
      change wpList _ _ _ _ _ w3.drew
      have HWD := hid (show Only [] w3 w3.drew from (Only.refl [] w3).drew)
      generalize w3.drew = w8 at SM HWD ⊢
      go_wp2_with fail
      with_reducible refine SM.out.mono ?_
      rintro e w9 ⟨rfl, hb9⟩
      have HB9 := hid hb9
      clear hb9
      go_wp2
      go_ret
      exact ⟨rfl, _, _, ((HG.out.only0 HWD.out).bel HB9.out), HD.out, rfl, (HBW.out.trans HBL.out).trans ((HWD.out.below (fun _ h => by cases h) HG.out.loN).trans (HB9.out.mono (Nat.le_trans HG.out.loN HWD.out.size)))⟩
    · have PB := hid (Publish_st N l.B l.V _ g.A n l.m l.Q l.M.view.length l.M.st cc a w1.drew H1.out.drew.turnIn hc (by rw [H1.out.al.is]; exact h1))
      have HC := hid hc
      have HI := hid h1
      clear hc h1
      go_upto_region 16 with fail
      go_region_held3 (fun w' => w'.cell? ⟨l.gb, 0, none⟩ = some (.pointer (some ⟨l.m, 0, none⟩)) ∧ w'.cell? ⟨l.gb, 1, none⟩ = some (.pointer (some ⟨l.B.s, 0, none⟩)) ∧ w'.cell? ⟨w.heap.size, 3, none⟩ = some (.int .i64 cc)) (go_keep)
        ((go_at_call 36; refine PB.out.mono ?_; rintro e w2 ⟨rfl, hb2⟩; have H2 := hid (H1.out.drew.bel hb2); have HBL := hid ((HB1N.out.trans ((Only.refl [] w1).drew.below (fun _ h => by cases h) H1.out.loN)).trans (hb2.mono H1.out.drew.loN)); have o2 := (Only.of_below hb2 []).blk ((Only.refl [] w1).drew.blk HBX1.out (by simp)) (by simp); have q0 : w2.cell? ⟨l.gb, 0, none⟩ = some (.pointer (some ⟨l.m, 0, none⟩)) := H2.out.gblk.cell 0; have q1 : w2.cell? ⟨l.gb, 1, none⟩ = some (.pointer (some ⟨l.B.s, 0, none⟩)) := H2.out.gblk.cell 1; have q3 : w2.cell? ⟨w.heap.size, 3, none⟩ = some (.int .i64 cc) := o2.cell 3; clear hb2 o2))
      clear y0 y1 z3
      have ST := hid (start_st l.gb N l.wd _ g.cs g.ls l.vC l.vL _ _ l.vT a cc 1 4 2 HC.out w2 H2.out.gblk H2.out.wo (by have := H1.out.fewT.2; omega) HI.out)
      go_wp2_with fail
      refine ST.out.mono ?_
      rintro e w3 ⟨rfl, rfl⟩
      have HG := hid H2.out.up
      have HD := hid (Did.pubNo HK.out (fun hh => HI.out (by rw [HA.out]; exact hh.2.2)) : Did n kd nn aa cc g g)
      clear q0 q1 q3
      have y1 : w2.cell? ⟨l.gb, 1, none⟩ = some (.pointer (some ⟨l.B.s, 0, none⟩)) := by exact HG.out.gblk.cell 1
      have y2 : w2.cell? ⟨l.gb, 2, none⟩ = some (.pointer (some ⟨l.wd, 0, none⟩)) := by exact HG.out.gblk.cell 2
      have SM := hid (same_z _ _ _ _ _ _ _ _ _ _ _ _ w2.drew HG.out.drew.both)
      go_upto_region 26 with fail
      refine wp_region_still_tail 10 (by kernel_rfl) (by kernel_rfl) ?_
      simp only [List.take_succ_cons, List.take_zero, List.drop_succ_cons, List.drop_zero]
      repeat still_step
      refine wpStill_nil ?_
      change wpList _ _ _ _ _ w2.drew
      have HWD := hid (show Only [] w2 w2.drew from (Only.refl [] w2).drew)
      generalize w2.drew = w8 at SM HWD ⊢
      go_wp2_with fail
      with_reducible refine SM.out.mono ?_
      rintro e w9 ⟨rfl, hb9⟩
      have HB9 := hid hb9
      clear hb9
      go_wp2
      go_ret
      exact ⟨rfl, _, _, ((HG.out.only0 HWD.out).bel HB9.out), HD.out, rfl, (HBW.out.trans HBL.out).trans ((HWD.out.below (fun _ h => by cases h) HG.out.loN).trans (HB9.out.mono (Nat.le_trans HG.out.loN HWD.out.size)))⟩
  · have PB := hid (Publish_no N l.B l.V _ g.A n l.m l.Q l.M.view.length l.M.st cc a w1.drew H1.out.drew.turnIn hc)
    have HC := hid hc
    clear hc
    go_upto_region 16 with fail
    go_region_held3 (fun w' => w'.cell? ⟨l.gb, 0, none⟩ = some (.pointer (some ⟨l.m, 0, none⟩)) ∧ w'.cell? ⟨l.gb, 1, none⟩ = some (.pointer (some ⟨l.B.s, 0, none⟩)) ∧ w'.cell? ⟨w.heap.size, 3, none⟩ = some (.int .i64 cc)) (go_keep)
      ((go_at_call 36; refine PB.out.mono ?_; rintro e w2 ⟨rfl, hb2⟩; have H2 := hid (H1.out.drew.bel hb2); have HBL := hid ((HB1N.out.trans ((Only.refl [] w1).drew.below (fun _ h => by cases h) H1.out.loN)).trans (hb2.mono H1.out.drew.loN)); have o2 := (Only.of_below hb2 []).blk ((Only.refl [] w1).drew.blk HBX1.out (by simp)) (by simp); have q0 : w2.cell? ⟨l.gb, 0, none⟩ = some (.pointer (some ⟨l.m, 0, none⟩)) := H2.out.gblk.cell 0; have q1 : w2.cell? ⟨l.gb, 1, none⟩ = some (.pointer (some ⟨l.B.s, 0, none⟩)) := H2.out.gblk.cell 1; have q3 : w2.cell? ⟨w.heap.size, 3, none⟩ = some (.int .i64 cc) := o2.cell 3; clear hb2 o2))
    clear y0 y1 z3
    have ST := hid (start_bad l.gb a cc 1 4 2 HC.out w2)
    go_wp2_with fail
    refine ST.out.mono ?_
    rintro e w3 ⟨rfl, rfl⟩
    have HG := hid H2.out.up
    have HD := hid (Did.pubNo HK.out (fun hh => HC.out ⟨hh.1, hh.2.1⟩) : Did n kd nn aa cc g g)
    clear q0 q1 q3
    have y1 : w2.cell? ⟨l.gb, 1, none⟩ = some (.pointer (some ⟨l.B.s, 0, none⟩)) := by exact HG.out.gblk.cell 1
    have y2 : w2.cell? ⟨l.gb, 2, none⟩ = some (.pointer (some ⟨l.wd, 0, none⟩)) := by exact HG.out.gblk.cell 2
    have SM := hid (same_z _ _ _ _ _ _ _ _ _ _ _ _ w2.drew HG.out.drew.both)
    go_upto_region 26 with fail
    refine wp_region_still_tail 10 (by kernel_rfl) (by kernel_rfl) ?_
    simp only [List.take_succ_cons, List.take_zero, List.drop_succ_cons, List.drop_zero]
    repeat still_step
    refine wpStill_nil ?_
    change wpList _ _ _ _ _ w2.drew
    have HWD := hid (show Only [] w2 w2.drew from (Only.refl [] w2).drew)
    generalize w2.drew = w8 at SM HWD ⊢
    go_wp2_with fail
    with_reducible refine SM.out.mono ?_
    rintro e w9 ⟨rfl, hb9⟩
    have HB9 := hid hb9
    clear hb9
    go_wp2
    go_ret
    exact ⟨rfl, _, _, ((HG.out.only0 HWD.out).bel HB9.out), HD.out, rfl, (HBW.out.trans HBL.out).trans ((HWD.out.below (fun _ h => by cases h) HG.out.loN).trans (HB9.out.mono (Nat.le_trans HG.out.loN HWD.out.size)))⟩

set_option maxRecDepth 100000 in
set_option maxHeartbeats 4000000 in
theorem do_fre (N n K : Nat) (l : GL) (g : GA) (kd nn aa cc : Int) (w : World) (h : GameIs w N n K l g) (hK : K ≤ 1000000) (hk : kd = 4) (ha : 0 ≤ aa ∧ aa ≤ 18446744073709551615) :
    Calls Tryz.prog 19 #[.pointer (some ⟨l.gb, 0, none⟩), .agg #[.int .i64 kd, .int .i64 nn, .int .u64 aa, .int .i64 cc]] w (DoPost w N n K l g kd nn aa cc) := by
  obtain ⟨W, hW, hb, bx⟩ := actBox w kd nn aa cc
  have z0 : W.cell? ⟨w.heap.size, 0, none⟩ = some (.int .i64 kd) := bx.cell 0
  have z1 : W.cell? ⟨w.heap.size, 1, none⟩ = some (.int .i64 nn) := bx.cell 1
  have z2 : W.cell? ⟨w.heap.size, 2, none⟩ = some (.int .u64 aa) := bx.cell 2
  have z3 : W.cell? ⟨w.heap.size, 3, none⟩ = some (.int .i64 cc) := bx.cell 3
  have k1 : (kd == 1) = false := by rw [hk]; rfl
  have k2 : (kd == 2) = false := by rw [hk]; rfl
  have k3 : (kd == 3) = false := by rw [hk]; rfl
  have k4 : (kd == 4) = true := by rw [hk]; rfl
  have H := hid (h.bel hb)
  have HW := hid hW
  have HK := hid hk
  have HBX := hid bx
  have HBW := hid (hb.mono h.loN)
  have hwlt : w.heap.size < W.heap.size := bx.lt
  have HSEP : Hid (∀ p, ∀ k ∈ l.F g.T p, k < w.heap.size) := fun p k hk => h.sep.lt p k hk
  have HAA := hid ha
  clear h hW hb bx hk ha
  go_enter Tryz.func19, Tryz.ntmps19
  go_upto_region 1 with fail
  rw [show w.alloc (.cells #[.int .i64 kd, .int .i64 nn, .int .u64 aa, .int .i64 cc] 45) = W from HW.out.symm]
  go_wp2_with fail
  refine (block_g N n K l g kd nn aa cc W H.out).mono ?_
  rintro e w1 ⟨rfl, hb1⟩
  have H1 := hid (H.out.bel hb1)
  have HB1N := hid (hb1.mono H.out.loN)
  have hbx1 := (Only.of_below hb1 []).blk HBX.out (by simp)
  have HBX1 := hid hbx1
  have z3 : w1.cell? ⟨w.heap.size, 3, none⟩ = some (.int .i64 cc) := hbx1.cell 3
  obtain ⟨a, ha⟩ : ∃ a, a = blkG g.ls nn aa := ⟨_, rfl⟩
  rw [← ha]
  have HA := hid ha
  have y0 : w1.cell? ⟨l.gb, 0, none⟩ = some (.pointer (some ⟨l.m, 0, none⟩)) := H1.out.gblk.cell 0
  have y1 : w1.cell? ⟨l.gb, 1, none⟩ = some (.pointer (some ⟨l.B.s, 0, none⟩)) := H1.out.gblk.cell 1
  clear hb1 ha hbx1
  by_cases hc : 0 ≤ cc ∧ cc ≤ 64
  · by_cases h1 : isGet g.ls a = 2
    · obtain ⟨cl, rfl⟩ : ∃ cl : Nat, cc = (cl : Int) := ⟨cc.toNat, by omega⟩
      have hcl : cl ≤ 64 := by omega
      have PB := hid (Free_ok N l.B l.V _ g.A n l.m l.Q l.M.view.length l.M.st (cl : Int) a w1.drew H1.out.drew.turnIn hc (by rw [H1.out.al.is]; exact h1) (by have h3 := H1.out.at (a := a) (by rw [h1]; decide); obtain ⟨_, _, _, _, _, _, _, _, _, _, _, _, p10, p11⟩ := h3; omega))
      have HC := hid hcl
      have HI := hid h1
      clear hc h1 hcl
      go_upto_region 20 with fail
      go_region_held3 (fun w' => w'.cell? ⟨l.gb, 0, none⟩ = some (.pointer (some ⟨l.m, 0, none⟩)) ∧ w'.cell? ⟨l.gb, 1, none⟩ = some (.pointer (some ⟨l.B.s, 0, none⟩)) ∧ w'.cell? ⟨w.heap.size, 3, none⟩ = some (.int .i64 (cl : Int))) (go_keep)
        ((go_at_call 67; refine PB.out.mono ?_; rintro e w2 ⟨t, rfl, ht⟩; have T2 := hid ht; have hmv := ht.only; have o2 := ht.only.blk ((Only.refl [] w1).drew.blk HBX1.out (by simp)) (fun hm => Nat.lt_irrefl _ (HSEP.out 2 _ (gF_mem.2 (Or.inr (Or.inr (Or.inl ⟨rfl, by rw [List.mem_singleton.1 hm]; exact foot_mem.2 ⟨2, role_m _ _⟩⟩)))))); have HBX2 := hid o2; obtain ⟨d1, d2, d3⟩ := H1.out.drew.docMoved (Moved.putM ht.only).only; have D2 := hid (⟨d1, d2, d3⟩ : _ ∧ _ ∧ _); have q0 : w2.cell? ⟨l.gb, 0, none⟩ = some (.pointer (some ⟨l.m, 0, none⟩)) := d2.cell 0; have q1 : w2.cell? ⟨l.gb, 1, none⟩ = some (.pointer (some ⟨l.B.s, 0, none⟩)) := d2.cell 1; have q3 : w2.cell? ⟨w.heap.size, 3, none⟩ = some (.int .i64 (cl : Int)) := o2.cell 3; clear ht hmv o2 d1 d2 d3))
      clear y0 y1 z3
      have hrow := ht_row H1.out.drew T2.out.only
      have ST := hid (start_ok l.gb N l.wd _ g.cs g.ls l.vC l.vL _ _ l.vT g.T ⟨t, cl, a, 0, 0⟩ 2 3 rfl HC.out w2 D2.out.2.2 D2.out.2.1 D2.out.1 hrow (by have := H1.out.fewT.2; omega) (by have := H1.out.fewT.1; omega) HI.out
        (H1.out.ne H1.out.in0 H1.out.in3 (by decide)) (fun e => absurd (H1.out.sep.one 0 4 l.gb H1.out.in0 (H1.out.in4 e)) (by decide)) (fun e => absurd (H1.out.sep.one 3 4 l.wd H1.out.in3 (H1.out.in4 e)) (by decide)) (fun e => absurd (H1.out.sep.one 0 3 l.gb H1.out.in0 (H1.out.in3C e)) (by decide)) (fun k hk e => absurd (H1.out.sep.one 3 4 k (H1.out.in3C e) (H1.out.in4 hk)) (by decide)))
      clear hrow
      go_wp2_with fail
      refine ST.out.mono ?_
      rintro e w3 ⟨rfl, vL', vT', hs⟩
      have hg := (H1.out.drew.begun ⟨t, cl, a, 0, 0⟩ 2 3 rfl HC.out HI.out (by first | exact Or.inl ⟨rfl, rfl, rfl⟩ | exact Or.inr ⟨rfl, rfl, rfl⟩) T2.out hs).up
      have hd : Did n kd nn aa (cl : Int) g { g with A := { g.A with is := isSet g.A.is a 3 }, ls := setW g.ls a 3, T := g.T ++ [⟨t, cl, a, 0, 0⟩] } := by rw [HA.out]; exact Did.fre t cl HK.out rfl HC.out (by rw [← HA.out]; exact HI.out)
      have HG := hid hg
      have HD := hid hd
      have HBL := hid ((HB1N.out.trans ((Only.refl [] w1).drew.below (fun _ h => by cases h) H1.out.loN)).trans ((T2.out.only.below (fun y hy => by rw [List.mem_singleton.1 hy]; exact H1.out.lo 2 _ (H1.out.in2 (foot_mem.2 ⟨2, role_m _ _⟩))) H1.out.drew.loN).trans (hs.only.below (fun y hy => by
        rcases List.mem_cons.1 hy with rfl | hy
        · exact H1.out.gN
        · rcases List.mem_cons.1 hy with rfl | hy
          · exact H1.out.wo.lo
          · exact H1.out.lo 4 y (H1.out.in4 (by simpa using hy))) D2.out.2.2)))
      clear hg hd hs q0 q1 q3
      have y1 : w3.cell? ⟨l.gb, 1, none⟩ = some (.pointer (some ⟨l.B.s, 0, none⟩)) := by exact HG.out.gblk.cell 1
      have y2 : w3.cell? ⟨l.gb, 2, none⟩ = some (.pointer (some ⟨l.wd, 0, none⟩)) := by exact HG.out.gblk.cell 2
      have SM := hid (same_z _ _ _ _ _ _ _ _ _ _ _ _ w3.drew HG.out.drew.both)
      go_upto_region 26 with fail
      refine wp_region_still_tail 10 (by kernel_rfl) (by kernel_rfl) ?_
      simp only [List.take_succ_cons, List.take_zero, List.drop_succ_cons, List.drop_zero]
      repeat still_step
      refine wpStill_nil ?_
      change wpList _ _ _ _ _ w3.drew
      have HWD := hid (show Only [] w3 w3.drew from (Only.refl [] w3).drew)
      generalize w3.drew = w8 at SM HWD ⊢
      go_wp2_with fail
      with_reducible refine SM.out.mono ?_
      rintro e w9 ⟨rfl, hb9⟩
      have HB9 := hid hb9
      clear hb9
      go_wp2
      go_ret
      exact ⟨rfl, _, _, ((HG.out.only0 HWD.out).bel HB9.out), HD.out, rfl, (HBW.out.trans HBL.out).trans ((HWD.out.below (fun _ h => by cases h) HG.out.loN).trans (HB9.out.mono (Nat.le_trans HG.out.loN HWD.out.size)))⟩
    · have PB := hid (Free_st N l.B l.V _ g.A n l.m l.Q l.M.view.length l.M.st cc a w1.drew H1.out.drew.turnIn hc (by rw [H1.out.al.is]; exact h1))
      have HC := hid hc
      have HI := hid h1
      clear hc h1
      go_upto_region 20 with fail
      go_region_held3 (fun w' => w'.cell? ⟨l.gb, 0, none⟩ = some (.pointer (some ⟨l.m, 0, none⟩)) ∧ w'.cell? ⟨l.gb, 1, none⟩ = some (.pointer (some ⟨l.B.s, 0, none⟩)) ∧ w'.cell? ⟨w.heap.size, 3, none⟩ = some (.int .i64 cc)) (go_keep)
        ((go_at_call 67; refine PB.out.mono ?_; rintro e w2 ⟨rfl, hb2⟩; have H2 := hid (H1.out.drew.bel hb2); have HBL := hid ((HB1N.out.trans ((Only.refl [] w1).drew.below (fun _ h => by cases h) H1.out.loN)).trans (hb2.mono H1.out.drew.loN)); have o2 := (Only.of_below hb2 []).blk ((Only.refl [] w1).drew.blk HBX1.out (by simp)) (by simp); have q0 : w2.cell? ⟨l.gb, 0, none⟩ = some (.pointer (some ⟨l.m, 0, none⟩)) := H2.out.gblk.cell 0; have q1 : w2.cell? ⟨l.gb, 1, none⟩ = some (.pointer (some ⟨l.B.s, 0, none⟩)) := H2.out.gblk.cell 1; have q3 : w2.cell? ⟨w.heap.size, 3, none⟩ = some (.int .i64 cc) := o2.cell 3; clear hb2 o2))
      clear y0 y1 z3
      have ST := hid (start_st l.gb N l.wd _ g.cs g.ls l.vC l.vL _ _ l.vT a cc 2 3 0 HC.out w2 H2.out.gblk H2.out.wo (by have := H1.out.fewT.2; omega) HI.out)
      go_wp2_with fail
      refine ST.out.mono ?_
      rintro e w3 ⟨rfl, rfl⟩
      have HG := hid H2.out.up
      have HD := hid (Did.freNo HK.out (fun hh => HI.out (by rw [HA.out]; exact hh.2.2)) : Did n kd nn aa cc g g)
      clear q0 q1 q3
      have y1 : w2.cell? ⟨l.gb, 1, none⟩ = some (.pointer (some ⟨l.B.s, 0, none⟩)) := by exact HG.out.gblk.cell 1
      have y2 : w2.cell? ⟨l.gb, 2, none⟩ = some (.pointer (some ⟨l.wd, 0, none⟩)) := by exact HG.out.gblk.cell 2
      have SM := hid (same_z _ _ _ _ _ _ _ _ _ _ _ _ w2.drew HG.out.drew.both)
      go_upto_region 26 with fail
      refine wp_region_still_tail 10 (by kernel_rfl) (by kernel_rfl) ?_
      simp only [List.take_succ_cons, List.take_zero, List.drop_succ_cons, List.drop_zero]
      repeat still_step
      refine wpStill_nil ?_
      change wpList _ _ _ _ _ w2.drew
      have HWD := hid (show Only [] w2 w2.drew from (Only.refl [] w2).drew)
      generalize w2.drew = w8 at SM HWD ⊢
      go_wp2_with fail
      with_reducible refine SM.out.mono ?_
      rintro e w9 ⟨rfl, hb9⟩
      have HB9 := hid hb9
      clear hb9
      go_wp2
      go_ret
      exact ⟨rfl, _, _, ((HG.out.only0 HWD.out).bel HB9.out), HD.out, rfl, (HBW.out.trans HBL.out).trans ((HWD.out.below (fun _ h => by cases h) HG.out.loN).trans (HB9.out.mono (Nat.le_trans HG.out.loN HWD.out.size)))⟩
  · have PB := hid (Free_no N l.B l.V _ g.A n l.m l.Q l.M.view.length l.M.st cc a w1.drew H1.out.drew.turnIn hc)
    have HC := hid hc
    clear hc
    go_upto_region 20 with fail
    go_region_held3 (fun w' => w'.cell? ⟨l.gb, 0, none⟩ = some (.pointer (some ⟨l.m, 0, none⟩)) ∧ w'.cell? ⟨l.gb, 1, none⟩ = some (.pointer (some ⟨l.B.s, 0, none⟩)) ∧ w'.cell? ⟨w.heap.size, 3, none⟩ = some (.int .i64 cc)) (go_keep)
      ((go_at_call 67; refine PB.out.mono ?_; rintro e w2 ⟨rfl, hb2⟩; have H2 := hid (H1.out.drew.bel hb2); have HBL := hid ((HB1N.out.trans ((Only.refl [] w1).drew.below (fun _ h => by cases h) H1.out.loN)).trans (hb2.mono H1.out.drew.loN)); have o2 := (Only.of_below hb2 []).blk ((Only.refl [] w1).drew.blk HBX1.out (by simp)) (by simp); have q0 : w2.cell? ⟨l.gb, 0, none⟩ = some (.pointer (some ⟨l.m, 0, none⟩)) := H2.out.gblk.cell 0; have q1 : w2.cell? ⟨l.gb, 1, none⟩ = some (.pointer (some ⟨l.B.s, 0, none⟩)) := H2.out.gblk.cell 1; have q3 : w2.cell? ⟨w.heap.size, 3, none⟩ = some (.int .i64 cc) := o2.cell 3; clear hb2 o2))
    clear y0 y1 z3
    have ST := hid (start_bad l.gb a cc 2 3 0 HC.out w2)
    go_wp2_with fail
    refine ST.out.mono ?_
    rintro e w3 ⟨rfl, rfl⟩
    have HG := hid H2.out.up
    have HD := hid (Did.freNo HK.out (fun hh => HC.out ⟨hh.1, hh.2.1⟩) : Did n kd nn aa cc g g)
    clear q0 q1 q3
    have y1 : w2.cell? ⟨l.gb, 1, none⟩ = some (.pointer (some ⟨l.B.s, 0, none⟩)) := by exact HG.out.gblk.cell 1
    have y2 : w2.cell? ⟨l.gb, 2, none⟩ = some (.pointer (some ⟨l.wd, 0, none⟩)) := by exact HG.out.gblk.cell 2
    have SM := hid (same_z _ _ _ _ _ _ _ _ _ _ _ _ w2.drew HG.out.drew.both)
    go_upto_region 26 with fail
    refine wp_region_still_tail 10 (by kernel_rfl) (by kernel_rfl) ?_
    simp only [List.take_succ_cons, List.take_zero, List.drop_succ_cons, List.drop_zero]
    repeat still_step
    refine wpStill_nil ?_
    change wpList _ _ _ _ _ w2.drew
    have HWD := hid (show Only [] w2 w2.drew from (Only.refl [] w2).drew)
    generalize w2.drew = w8 at SM HWD ⊢
    go_wp2_with fail
    with_reducible refine SM.out.mono ?_
    rintro e w9 ⟨rfl, hb9⟩
    have HB9 := hid hb9
    clear hb9
    go_wp2
    go_ret
    exact ⟨rfl, _, _, ((HG.out.only0 HWD.out).bel HB9.out), HD.out, rfl, (HBW.out.trans HBL.out).trans ((HWD.out.below (fun _ h => by cases h) HG.out.loN).trans (HB9.out.mono (Nat.le_trans HG.out.loN HWD.out.size)))⟩

end Go.Proofs.YtbkaemajjaiklaaGreat

/- SlabPlays: any act of the game; a game begun. -/
namespace Go.Proofs.YtbkaemajjaiklaaGreat
open Go.RowKit
set_option linter.unusedVariables false
set_option linter.unusedSimpArgs false

/-- any act -/
theorem do_z (N n K : Nat) (l : GL) (g : GA) (kd nn aa cc : Int) (w : World) (h : GameIs w N n K l g) (hK : K ≤ 1000000) (ha : 0 ≤ aa ∧ aa ≤ 18446744073709551615) (hnn : nn ≤ 9223372036854775807) :
    Calls Tryz.prog 19 #[.pointer (some ⟨l.gb, 0, none⟩), .agg #[.int .i64 kd, .int .i64 nn, .int .u64 aa, .int .i64 cc]] w (DoPost w N n K l g kd nn aa cc) := by
  by_cases h1 : kd = 1
  · by_cases hc : 1 ≤ nn ∧ nn ≤ 3
    · exact do_rsv N n K l g kd nn aa cc w h hK h1 nn.toNat (by omega) (by omega)
    · exact do_rsvArg N n K l g kd nn aa cc w h hK h1 hc
  by_cases h2 : kd = 2
  · exact do_rel N n K l g kd nn aa cc w h hK h2
  by_cases h3 : kd = 3
  · exact do_pub N n K l g kd nn aa cc w h hK h3 ha
  by_cases h4 : kd = 4
  · exact do_fre N n K l g kd nn aa cc w h hK h4 ha
  by_cases h5 : kd = 5
  · exact do_step N n K l g kd nn aa cc w h hK h5
  by_cases h6 : kd = 6
  · exact do_ev N n K l g kd nn aa cc w h hK h6 ha hnn
  exact do_other N n K l g kd nn aa cc w h (by omega)

theorem bitAt_lt {bs : List Int} (hb : ∀ x ∈ bs, 0 ≤ x ∧ x < 256) (i : Nat) : bitAt bs i < 18446744073709551616 := by
  unfold bitAt
  have h1 := leW_bounds (bs := (bs.drop (1024 * i + 8)).take 8) (fun x hx => hb x (List.mem_of_mem_drop (List.mem_of_mem_take hx)))
  have h2 : ((bs.drop (1024 * i + 8)).take 8).length ≤ 8 := by rw [List.length_take]; omega
  have h3 : (2 : Int) ^ (8 * ((bs.drop (1024 * i + 8)).take 8).length) ≤ 18446744073709551616 := by
    have h4 : (2 : Nat) ^ (8 * ((bs.drop (1024 * i + 8)).take 8).length) ≤ 2 ^ 64 := Nat.pow_le_pow_right (by decide) (by omega)
    have h5 : ((2 : Nat) ^ 64 : Nat) = 18446744073709551616 := by decide
    have h6 : ((2 ^ (8 * ((bs.drop (1024 * i + 8)).take 8).length) : Nat) : Int) = (2 : Int) ^ (8 * ((bs.drop (1024 * i + 8)).take 8).length) := by push_cast; rfl
    rw [← h6]; omega
  omega
theorem newSA_bits (n : Nat) : ∀ i, ∃ b : Nat, b < 18446744073709551616 ∧ ((newSA n).hd.getD i (0, 0)).2 = (b : Int) := by
  intro i
  refine ⟨0, by decide, ?_⟩
  show ((List.replicate (1 + n) ((0 : Int), (0 : Int))).getD i (0, 0)).2 = 0
  rw [List.getD_eq_getElem?_getD, List.getElem?_replicate]
  split <;> rfl
theorem ofTo_bits {bs : List Int} (hb : ∀ x ∈ bs, 0 ≤ x ∧ x < 256) (n : Nat) : ∀ k i, ∃ b : Nat, b < 18446744073709551616 ∧ ((ofTo bs n k).hd.getD i (0, 0)).2 = (b : Int)
  | 0 => newSA_bits n
  | k + 1 => by
    show ∀ i, ∃ b : Nat, b < 18446744073709551616 ∧ ((bitsSA (giveSA (hdSA (ofTo bs n k) (k + 1) (bitAt bs (k + 1))) (k + 1) (clsAt bs (k + 1))) (k + 1) (clsAt bs (k + 1)) (setBits (bitAt bs (k + 1)))).hd.getD i (0, 0)).2 = (b : Int)
    rw [bitsSA_hd]
    exact giveSA_bits _ _ _ (hdSA_bits _ _ _ (bitAt_lt hb _) (ofTo_bits hb n k))
theorem SlabIs.down {w : World} {N N' : Nat} {B : SB} {V : Nat → Value} {size : Int} {A : SA} (h : SlabIs w N B V size A) (hn : N' ≤ N) : SlabIs w N' B V size A :=
  ⟨h.st, h.hdr, h.fre, h.mp, h.apart, fun i k hk => Nat.le_trans hn (h.lo i k hk)⟩
theorem WorldIs.down {w : World} {N N' g : Nat} {size : Int} {cs : List Int} {ls : List (Int × Int)} {vC vL : Value} (h : WorldIs w N g size cs ls vC vL) (hn : N' ≤ N) : WorldIs w N' g size cs ls vC vL :=
  ⟨h.blk, own_down h.rc hn, own_down h.rl hn, Nat.le_trans hn h.lo, h.nc, h.nl, h.ncl⟩
/-- a game at its beginning -/
def beginG (bs : List Int) (n : Nat) : GA := ⟨⟨wordsOf bs, wordsOf bs, []⟩, ofTo bs n n, refC bs n, refL bs n, []⟩

set_option maxRecDepth 100000 in
set_option maxHeartbeats 1000000 in
theorem gbegin_z (p : Option Addr) (cap : Nat) (bs : List Int) (n : Nat) (hn : 1 ≤ n ∧ n ≤ 6) (hl : bs.length = 1024 * (n + 1)) (hcap : cap ≤ 9223372036854775807) (hok : ∀ i, 1 ≤ i → i ≤ n → headOK bs i = true) (w : World) (h : BytesIn w p cap bs) :
    Calls Tryz.prog 18 #[.slice p bs.length cap] w fun e w' => ∃ l, e = .returned (.pointer (some ⟨l.gb, 0, none⟩)) ∧ GameIs w' w.heap.size n 0 l (beginG bs n) ∧ Below w.heap.size w w' := by
  have hm : mayB bs.length = true := by unfold mayB; rw [hl]; simp; omega
  have HO := hid (Of_z p cap bs hm hcap w h)
  have HB := hid h
  have HH := hid (⟨hn, hl, hok⟩ : _ ∧ _ ∧ _)
  have hbyt := hid h.2.1
  obtain ⟨L, hL⟩ : ∃ L, L = bs.length := ⟨_, rfl⟩
  rw [← hL] at HO ⊢
  have HL := hid hL
  clear h hm hn hl hok hcap hL
  go_enter Tryz.func18, Tryz.ntmps18
  go_wp2_with fail
  refine HO.out.mono ?_
  rintro e w1 ⟨m, Q, rfl, m1, m2, m3⟩
  have M1 := hid (⟨m1, m2, m3⟩ : _ ∧ _ ∧ _)
  have S := hid (callsIn_wide.1 (SOf_in p cap bs n (by have := HH.out.1; omega) HH.out.2.1 w1 (bytesBel HB.out m2)))
  rw [← HL.out] at S
  clear m1 m2 m3
  go_wp2_with fail
  refine S.out.mono ?_
  rintro e w2 hp
  obtain ⟨B, V, rfl, s1⟩ := hp.yes HH.out.2.2
  have S2 := hid (⟨s1, hp.bel⟩ : _ ∧ _)
  have R := hid (ROf_r p cap bs n (by have := HH.out.1; omega) HH.out.2.1 w2 (bytesBel (bytesBel HB.out M1.out.2.1) hp.bel))
  rw [← HL.out] at R
  clear hp s1
  go_wp2_with fail
  refine R.out.mono ?_
  rintro e w3 hq
  obtain ⟨wd, vC, vL, rfl, r1⟩ := hq.yes HH.out.2.2
  have R2 := hid (⟨r1, hq.bel⟩ : _ ∧ _)
  clear hq r1
  go_wp2
  go_ret
  have hlo := M1.out.2.1.size
  have hl2 := S2.out.2.size
  have hl3 := R2.out.2.size
  have hws : (wordsOf bs).length = 128 * (1 + n) := by have := HH.out.2.1; simp [wordsOf]; omega
  have h8 : 8 * (wordsOf bs).length = bs.length := by have := HH.out.2.1; omega
  have hm1 : ∀ k ∈ footM m Q (freshM (wordsOf bs)), w.heap.size ≤ k ∧ k < w1.heap.size := fun k hk => ⟨M1.out.2.2 k hk, M1.out.1.foot_lt k hk⟩
  have hs2 : ∀ k ∈ foot B V, w1.heap.size ≤ k ∧ k < w2.heap.size := fun k hk => by
    obtain ⟨i, hi⟩ := foot_mem.1 hk
    exact ⟨S2.out.1.lo i k hi, S2.out.1.lt hi⟩
  have hwd : w2.heap.size ≤ wd ∧ wd < w3.heap.size := ⟨R2.out.1.lo, R2.out.1.blk.lt⟩
  have hvC : ∀ k, vC.ownBlock = some k → w2.heap.size ≤ k ∧ k < w3.heap.size := fun k hk => ⟨own_base R2.out.1.rc k hk, own_lt R2.out.1.rc k hk⟩
  have hvL : ∀ k, vL.ownBlock = some k → w2.heap.size ≤ k ∧ k < w3.heap.size := fun k hk => ⟨own_base R2.out.1.rl k hk, own_lt R2.out.1.rl k hk⟩
  obtain ⟨W, hW⟩ : ∃ W, W = w3.alloc (.cells #[.pointer (some ⟨m, 0, none⟩), .pointer (some ⟨B.s, 0, none⟩), .pointer (some ⟨wd, 0, none⟩), .slice none 0 0] 55) := ⟨_, rfl⟩
  have hbW : Below w3.heap.size w3 W := by rw [hW]; exact ba (Below.refl _ _) _
  have hgb : Blk W w3.heap.size 55 #[.pointer (some ⟨m, 0, none⟩), .pointer (some ⟨B.s, 0, none⟩), .pointer (some ⟨wd, 0, none⟩), .slice none 0 0] := by rw [hW]; exact Blk.new _ _ _
  have hlW := hgb.lt
  have oW : Only [] w3 W := Only.of_below hbW []
  have o2 : Only [] w2 w3 := Only.of_below R2.out.2 []
  have o1 : Only [] w1 w2 := Only.of_below S2.out.2 []
  have hal := ofTo_alike bs n (by have := HH.out.1; omega) HH.out.2.2 n (Nat.le_refl _)
  have hgame : GameIs W w.heap.size n 0 ⟨w3.heap.size, m, Q, freshM (wordsOf bs), B, V, wd, vC, vL, .slice none 0 0⟩ (beginG bs n) := by
    refine ⟨hgb, ⟨?_, ofTo_hd _ _ _, by have := HH.out.1; omega, ⟨((M1.out.1.only o1 (by simp)).only o2 (by simp)).only oW (by simp), fun L hL => (by cases hL), by show 2 ≤ (wordsOf bs).length; omega⟩, hws, fun k hk hf => ?_, by omega⟩, rfl, ?_, hal, ofTo_heap bs n n, ofTo_bits hbyt.out n n, World.ownsRow_nil _ _ _ _, fun x hx => (by cases hx), fun x hx => (by cases hx), List.nodup_nil, List.nodup_nil, ⟨fun a b k ha hb => ?_, fun a k ha => ?_⟩, HH.out.1.2, by show w.heap.size ≤ w3.heap.size; omega, fun k hk => (hm1 k hk).1, fun x hx => (by cases hx)⟩
    · show SlabIs W w.heap.size B V ((8 * (wordsOf bs).length : Nat) : Int) (ofTo bs n n)
      rw [h8, ← HL.out]
      exact ((S2.out.1.down hlo).only o2 (by simp)).only oW (by simp)
    · have := hm1 k hk; have := hs2 k hf; omega
    · show WorldIs W w.heap.size wd ((8 * (wordsOf bs).length : Nat) : Int) (refC bs n) (refL bs n) vC vL
      rw [h8, ← HL.out]
      exact (R2.out.1.down (by omega)).bel hbW
    · have key : ∀ p, k ∈ gF w3.heap.size m Q (freshM (wordsOf bs)) B V wd vC vL (.slice none 0 0) [] p → p = 0 ∧ k = w3.heap.size ∨ p = 1 ∧ k < w1.heap.size ∨ p = 2 ∧ w1.heap.size ≤ k ∧ k < w2.heap.size ∨ p = 3 ∧ w2.heap.size ≤ k ∧ k < w3.heap.size := by
        intro p hk
        rcases gF_mem.1 hk with ⟨rfl, rfl⟩ | ⟨rfl, h1⟩ | ⟨rfl, h1⟩ | ⟨rfl, h1⟩ | ⟨rfl, h1⟩ | ⟨rfl, y, h1, rfl⟩
        · exact Or.inl ⟨rfl, rfl⟩
        · exact Or.inr (Or.inl ⟨rfl, (hm1 k h1).2⟩)
        · exact Or.inr (Or.inr (Or.inl ⟨rfl, hs2 k h1⟩))
        · refine Or.inr (Or.inr (Or.inr ⟨rfl, ?_⟩))
          rcases h1 with rfl | h1 | h1
          · exact hwd
          · exact hvC k h1
          · exact hvL k h1
        · cases h1
        · cases h1
      have h1 := key a ha
      have h2 := key b hb
      omega
    · rcases gF_mem.1 ha with ⟨rfl, rfl⟩ | ⟨rfl, h1⟩ | ⟨rfl, h1⟩ | ⟨rfl, h1⟩ | ⟨rfl, h1⟩ | ⟨rfl, y, h1, rfl⟩
      · exact hlW
      · have := (hm1 k h1).2; omega
      · have := (hs2 k h1).2; omega
      · have hlt : k < w3.heap.size := by
          rcases h1 with rfl | h1 | h1
          · exact hwd.2
          · exact (hvC k h1).2
          · exact (hvL k h1).2
        omega
      · cases h1
      · cases h1
  have hbel : Below w.heap.size w W := ((M1.out.2.1.trans (S2.out.2.mono hlo)).trans (R2.out.2.mono (by omega))).trans (hbW.mono (by omega))
  rw [hW] at hgame hbel
  exact ⟨_, rfl, hgame, hbel⟩

end Go.Proofs.YtbkaemajjaiklaaGreat
