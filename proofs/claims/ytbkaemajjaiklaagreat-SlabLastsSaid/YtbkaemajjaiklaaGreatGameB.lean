/- SlabPlays: a step of the game. -/
import Derived.Test.YtbkaemajjaiklaaGreatGameA
import Derived.StillTail

namespace Go.Proofs.YtbkaemajjaiklaaGreat
open Go.RowKit
set_option linter.unusedVariables false
set_option linter.unusedSimpArgs false

attribute [local go_sem ↓ high] append_shut2
attribute [local go_sem] appM2_run

/-- a turn of a game, in numbers -/
structure TurnAt (n : Nat) (g : GA) (x : TR) (i c j b : Nat) : Prop where
  ph : x.ph < 4
  ii : slabZ x.a = (i : Int)
  i1 : 1 ≤ i ∧ i ≤ n
  cc : clsOf g.A i = (c : Int)
  c3 : 1 ≤ c ∧ c ≤ 3
  j1 : j < nb c
  aa : x.a = blockZ (i : Int) c j
  cl : x.cl ≤ 64
  bb : (g.A.hd.getD i (0, 0)).2 = (b : Int)
  b64 : b < 18446744073709551616
  tb : x.tb = 2 ∧ isGet g.ls x.a = 4 ∨ x.tb = 0 ∧ isGet g.ls x.a = 3
inductive Stepd (n : Nat) (nn : Int) (g : GA) : GA → Prop
  | none : g.T = [] → Stepd n nn g g
  | mid (idx : Nat) (x : TR) (i c j b : Nat) : (idx : Int) = (nn % 18446744073709551616) % (g.T.length : Int) → g.T[idx]? = some x → TurnAt n g x i c j b → x.ph < 3 →
      Stepd n nn g { g with ma := nextMA g.ma i c j b x.tb x.cl x.ph, A := nextSA g.A i c j b x.a x.tb x.ph, T := g.T.set idx x.next }
  | fin (idx : Nat) (x : TR) (i c j b : Nat) : (idx : Int) = (nn % 18446744073709551616) % (g.T.length : Int) → g.T[idx]? = some x → TurnAt n g x i c j b → x.ph = 3 →
      Stepd n nn g { g with ma := nextMA g.ma i c j b x.tb x.cl 3, A := nextSA g.A i c j b x.a x.tb 3, ls := setW g.ls x.a x.tb, T := g.T.eraseIdx idx }
theorem GameIs.turnAt {w : World} {N n K : Nat} {l : GL} {g : GA} (h : GameIs w N n K l g) {x : TR} (hx : x ∈ g.T) : ∃ i c j b : Nat, TurnAt n g x i c j b ∧ TurnOK w l.B l.V g.A n l.m l.Q l.M x.t x.cl x.a x.tb i c j b x.ph := by
  obtain ⟨i, c, j, b, ht⟩ := h.turnOK hx
  obtain ⟨f1, f2, f3⟩ := h.fits x hx
  have hne : isGet g.ls x.a ≠ 0 := by rcases f3 with ⟨_, e⟩ | ⟨_, e⟩ <;> rw [e] <;> decide
  obtain ⟨i0, j0, c0, h1, h2, h3, h4, h5, h6, h7, h8, h9, h10, h11⟩ := h.at hne
  have hi : i = i0 + 1 := by have := ht.ii; omega
  subst hi
  have hc : c = c0 := by have := ht.cc; omega
  subst hc
  have hj : j = j0 := by
    have h12 := ht.jj
    rw [h6, idx_of (by have := h.work.hn; omega) ⟨h3, h4⟩ h2] at h12
    omega
  subst hj
  exact ⟨i0 + 1, c, j, b, ⟨f1, ht.ii, ht.i1, ht.cc, ht.c3, h2, h6, f2, ht.bb, ht.b64, f3⟩, ht⟩
theorem GameIs.fewT {w : World} {N n K : Nat} {l : GL} {g : GA} (h : GameIs w N n K l g) : g.T.length ≤ 10000 ∧ g.ls.length ≤ 10000 := by
  constructor
  · have h1 := len_of_sub (g.T.map (·.a)) h.ta (fun a ha => by
      obtain ⟨x, hx, rfl⟩ := List.mem_map.1 ha
      obtain ⟨f1, f2, f3⟩ := h.fits x hx
      have hne : isGet g.ls x.a ≠ 0 := by rcases f3 with ⟨_, e⟩ | ⟨_, e⟩ <;> rw [e] <;> decide
      obtain ⟨i0, j0, c0, h1, h2, h3, h4, h5, h6, _⟩ := h.at hne
      exact ⟨i0, c0, j0, by have := h.n6; omega, h2, h6, h3, h4⟩)
    rwa [List.length_map] at h1
  · have h1 := len_of_sub (g.ls.map (fun p : Int × Int => p.1)) h.al.ul (fun x hx => by
      obtain ⟨p, hp, rfl⟩ := List.mem_map.1 hx
      obtain ⟨_, _, i, j, c, h2, h3, h4, h5, _, h6⟩ := h.al.blk p hp
      have := h.n6
      exact ⟨i, c, j, by omega, h3, h6, h4, h5⟩)
    rwa [List.length_map] at h1
theorem GameIs.up {w : World} {N n K : Nat} {l : GL} {g : GA} (h : GameIs w N n K l g) : GameIs w N n (K + 1) l g := { h with work := { h.work with mem := h.work.mem.mono (Nat.le_succ _) } }
theorem nextMA_len (m : MA) (i c j b : Nat) (tb : Int) (cl ph : Nat) : (nextMA m i c j b tb cl ph).view.length = m.view.length := by
  unfold nextMA
  split
  · simp [storeA]
  · split
    · simp [storeA]
    · split
      · rfl
      · rfl
theorem absM_len {M' : MemS} {m : MA} (h : absM M' = m) : M'.view.length = m.view.length := by rw [← h]; rfl
theorem StepW.before {w w' : World} {N : Nat} {B : SB} {V V' : Nat → Value} {A : SA} {n m : Nat} {Q : MB} {M M' : MemS} {K t cl : Nat} {a tb : Int} {i c j b ph : Nat} (h : StepW w.drew N B V A n m Q M K t cl a tb i c j b ph w' M' V') : StepW w N B V A n m Q M K t cl a tb i c j b ph w' M' V' :=
  ⟨h.work, h.blk, h.st.pre ((Only.refl [] w).drew), h.ma⟩
theorem cell_of_turn {w : World} {N : Nat} {vT : Value} {T : List TR} {bT cap idx m : Nat} {x : TR} (h : w.ownsRow N 179 4 vT T.length (T.flatMap trC)) (hx : T[idx]? = some x) (hv : vT = .slice (some ⟨bT, 0, none⟩) m cap) :
    w.cell? ⟨bT, idx * 4, none⟩ = some (.pointer (some ⟨x.t, 0, none⟩)) ∧ w.cell? ⟨bT, idx * 4 + 1, none⟩ = some (.int .u64 x.a) ∧ w.cell? ⟨bT, idx * 4 + 2, none⟩ = some (.int .i64 x.tb) ∧ w.cell? ⟨bT, idx * 4 + 3, none⟩ = some (.int .i64 (x.ph : Int)) ∧ w.frozen? ⟨bT, idx * 4 + 3, none⟩ = false := by
  obtain ⟨b, cap', e, hc⟩ := rowT h (fun e => by rw [e] at hx; cases hx)
  rw [hv] at e
  injection e with e1 e2 e3
  injection e1 with e1
  injection e1 with e1
  subst e1
  obtain ⟨t1, t2, t3, t4⟩ := trC_get T idx x hx
  exact ⟨(hc _ _ t1).1, (hc _ _ t2).1, (hc _ _ t3).1, (hc _ _ t4).1, (hc _ _ t4).2⟩

set_option maxRecDepth 100000 in
set_option maxHeartbeats 4000000 in
theorem gstep_z (N n K : Nat) (l : GL) (g : GA) (nn : Int) (w : World) (h : GameIs w N n K l g) (hK : K ≤ 1000000) :
    Calls Tryz.prog 68 #[.pointer (some ⟨l.gb, 0, none⟩), .int .i64 nn] w fun e w' => e = .returned (.bool true) ∧ ∃ l' g', GameIs w' N n (K + 1) l' g' ∧ Stepd n nn g g' ∧ l'.gb = l.gb ∧ Below N w w' := by
  have y3 : w.cell? ⟨l.gb, 3, none⟩ = some l.vT := h.gblk.cell 3
  have y0 : w.cell? ⟨l.gb, 0, none⟩ = some (.pointer (some ⟨l.m, 0, none⟩)) := h.gblk.cell 0
  by_cases hT : g.T = []
  · have hvT := h.row
    rw [hT] at hvT
    have hv : ∃ a c, l.vT = .slice a 0 c := row_form1 hvT
    obtain ⟨va, vc, hv⟩ := hv
    rw [hv] at y3
    have H := hid h
    have HT := hid hT
    clear h hvT hv hT
    go_enter Tryz.func68, Tryz.ntmps68
    go_wp2
    go_ret
    exact ⟨rfl, l, g, H.out.up, Stepd.none HT.out, rfl, Below.refl _ _⟩
  · obtain ⟨bT, cap, hvT, hat⟩ := rowT h.row hT
    obtain ⟨m, hm⟩ : ∃ m, m = g.T.length := ⟨_, rfl⟩
    have hm0 : 0 < m := by rw [hm]; exact List.length_pos_iff.2 hT
    have hml : m ≤ 10000 := by rw [hm]; exact h.fewT.1
    rw [← hm] at hvT
    rw [hvT] at y3
    obtain ⟨idx, hidx⟩ : ∃ idx : Nat, (idx : Int) = (nn % 18446744073709551616) % (m : Int) := ⟨((nn % 18446744073709551616) % (m : Int)).toNat, by have := Int.emod_nonneg (nn % 18446744073709551616) (show (m : Int) ≠ 0 by omega); omega⟩
    have hil : idx < m := by have := Int.emod_lt_of_pos (nn % 18446744073709551616) (show (0 : Int) < (m : Int) by omega); omega
    obtain ⟨x, hx⟩ : ∃ x, g.T[idx]? = some x := ⟨_, List.getElem?_eq_getElem (by omega)⟩
    obtain ⟨t1, t2, t3, t4⟩ := trC_get g.T idx x hx
    have z1 := (hat _ _ t1).1
    have e1 : ((m : Int) == 0) = false := by simp; omega
    have eidx : wrap64 ((IntKind.u64.wrap nn).tmod (m : Int)) = (idx : Int) := by
      have h0 : IntKind.u64.wrap nn = nn % 18446744073709551616 := rfl
      rw [h0, Int.tmod_eq_emod_of_nonneg (by omega), ← hidx]
      unfold wrap64; omega
    have i0 : (0 : Int) ≤ (idx : Int) := by omega
    have i1 : (idx : Int) < (m : Int) := by omega
    obtain ⟨i, c, j, b, ta, tk⟩ := h.turnAt (List.mem_of_getElem? hx)
    have ST := hid (step6_z N l.B l.V g.A n l.m l.Q l.M K x.t x.cl x.a x.tb i c j b x.ph w.drew (h.work.pre ((Only.refl [] w).drew)) hK (tk.bel ⟨rfl, rfl, rfl, Nat.le_refl _, fun _ _ => rfl⟩))
    have H := hid h
    have HVT := hid hvT
    have HM := hid hm
    have HIDX := hid hidx
    clear h hT hm hat tk hvT t1 t2 t3 t4 hidx
    go_enter Tryz.func68, Tryz.ntmps68
    go_upto_region 4 with fail
    have HX := hid hx
    have HTK := hid ta
    have HHAT := hid (fun (w1 : World) (hr : w1.ownsRow N 179 4 l.vT g.T.length (g.T.flatMap trC)) => cell_of_turn hr HX.out HVT.out)
    go_region_held3 (fun w' => w'.cell? ⟨l.gb, 0, none⟩ = some (.pointer (some ⟨l.m, 0, none⟩)) ∧ w'.cell? ⟨l.gb, 3, none⟩ = some (.slice (some ⟨bT, 0, none⟩) m cap) ∧ w'.cell? ⟨bT, idx * 4, none⟩ = some (.pointer (some ⟨x.t, 0, none⟩))) (go_keep)
      ((go_at_call 91; refine ST.out.mono ?_; rintro e w1 ⟨rfl, M', V', hst⟩; have hst' := hst.before; have hmid := H.out.mid (List.mem_of_getElem? HX.out) hst' (by rw [absM_len hst'.ma]; exact nextMA_len _ _ _ _ _ _ _ _); have P := hid (⟨hst', hmid⟩ : _ ∧ _); have q0 : w1.cell? ⟨l.gb, 0, none⟩ = some (.pointer (some ⟨l.m, 0, none⟩)) := hmid.gblk.cell 0; have q3 : w1.cell? ⟨l.gb, 3, none⟩ = some (.slice (some ⟨bT, 0, none⟩) m cap) := (hmid.gblk.cell 3).trans (congrArg some HVT.out); have q1 := (HHAT.out w1 hmid.row).1; clear hst hst' hmid))
    obtain ⟨z0, z1', z2, z4, z5⟩ := HHAT.out w1 P.out.2.row
    have i3 : IntKind.i64.wrap ((x.ph : Int) + 1) = (x.ph : Int) + 1 := by have := HTK.out.ph; exact IntWalk.i64_in _ (by omega)
    have HBL := hid (P.out.1.st.only.below (fun k hk => by
      simp only [List.cons_append, List.mem_cons, List.mem_append] at hk
      rcases hk with rfl | hk | hk
      · exact H.out.loT x (List.mem_of_getElem? HX.out)
      · exact H.out.loM k hk
      · exact H.out.lo 2 k (H.out.in2 hk)) (Nat.le_trans H.out.gN (Nat.le_of_lt H.out.gblk.lt)))
    have hrow := rowT_set (by have := P.out.2.row; rw [HVT.out] at this; exact this) HX.out
    obtain ⟨W, hW⟩ : ∃ W, W = w1.setCell ⟨bT, idx * 4 + 3, none⟩ (.int .i64 ((x.ph : Int) + 1)) := ⟨_, rfl⟩
    have ho1 : Only [bT] w1 W := by rw [hW]; exact (Only.refl _ _).setCell (Or.inl (by simp)) _
    have hrW : W.ownsRow N 179 4 (.slice (some ⟨bT, 0, none⟩) m cap) (g.T.set idx x.next).length ((g.T.set idx x.next).flatMap trC) := by rw [hW]; exact hrow
    have hx' : (g.T.set idx x.next)[idx]? = some x.next := by rw [List.getElem?_set_self (by have := HM.out; omega)]
    obtain ⟨a0', a1', a2', a4, a5⟩ := cell_of_turn hrW hx' rfl
    have a0 : W.cell? ⟨bT, idx * 4, none⟩ = some (.pointer (some ⟨x.t, 0, none⟩)) := a0'
    have a1 : W.cell? ⟨bT, idx * 4 + 1, none⟩ = some (.int .u64 x.a) := a1'
    have a2 : W.cell? ⟨bT, idx * 4 + 2, none⟩ = some (.int .i64 x.tb) := a2'
    have a4' : W.cell? ⟨bT, idx * 4 + 3, none⟩ = some (.int .i64 ((x.ph : Int) + 1)) := a4
    have hbT : l.vT.ownBlock = some bT := by rw [HVT.out]; rfl
    have hngb : l.gb ∉ [bT] := P.out.2.noT hbT (gF_mem.2 (Or.inl ⟨rfl, rfl⟩)) (by decide)
    have hgW := ho1.blk P.out.2.gblk hngb
    have g2 : W.cell? ⟨l.gb, 2, none⟩ = some (.pointer (some ⟨l.wd, 0, none⟩)) := hgW.cell 2
    have g3 : W.cell? ⟨l.gb, 3, none⟩ = some (.slice (some ⟨bT, 0, none⟩) m cap) := (hgW.cell 3).trans (congrArg some HVT.out)
    have hgt : decide ((x.ph : Int) + 1 > 20) = false := decide_eq_false (by have := HTK.out.ph; omega)
    have HW := hid hW
    have HO1 := hid ho1
    have HRW := hid hrW
    have HGW := hid hgW
    have HBT := hid (⟨hbT, hngb⟩ : _ ∧ _)
    clear a0' a1' a2' hrow hrW ho1 hx' a4 hW hgW hbT hngb
    by_cases h3 : x.ph = 3
    · have hd : decide (x.ph = 3) = true := decide_eq_true h3
      have H3 := hid h3
      clear h3
      go_upto_region 6 with fail
      rw [show w1.setCell ⟨bT, idx * 4 + 3, none⟩ (.int .i64 ((x.ph : Int) + 1)) = W from HW.out.symm]
      clear z0 z1' z2 z4 z5 q0 q1 q3 y0 y3 z1
      have hwo : WorldIs W N l.wd ((8 * M'.view.length : Nat) : Int) g.cs g.ls l.vC l.vL := P.out.2.wo.only HO1.out (P.out.2.noT HBT.out.1 (gF_mem.2 (Or.inr (Or.inr (Or.inr (Or.inl ⟨rfl, Or.inl rfl⟩))))) (by decide)) (fun k hk => P.out.2.noT HBT.out.1 (gF_mem.2 (Or.inr (Or.inr (Or.inr (Or.inl ⟨rfl, Or.inr (Or.inl hk)⟩))))) (by decide)) (fun k hk => P.out.2.noT HBT.out.1 (gF_mem.2 (Or.inr (Or.inr (Or.inr (Or.inl ⟨rfl, Or.inr (Or.inr hk)⟩))))) (by decide))
      have hNW : N ≤ W.heap.size := by have h1 := HGW.out.lt; have h2 := H.out.gN; omega
      have HS := hid (WSet_r N l.wd _ g.cs g.ls l.vC l.vL x.a x.tb W.drew (hwo.bel ⟨rfl, rfl, rfl, Nat.le_refl _, fun _ _ => rfl⟩) hNW (by have := H.out.fewT.2; omega))
      have HNW := hid hNW
      clear hwo hNW
      go_upto_region 9 with fail
      refine wp_region_still_tail 20 (by kernel_rfl) (by kernel_rfl) ?_
      simp only [List.take_succ_cons, List.take_zero, List.drop_succ_cons, List.drop_zero]
      repeat still_step
      refine wpStill_nil ?_
      change wpList _ _ _ _ _ W.drew
      have HWD := hid (show Only [] W W.drew from (Only.refl [] W).drew)
      generalize W.drew = w2 at HS HWD ⊢
      go_wp2_with fail
      with_reducible refine HS.out.mono ?_
      rintro e w3 ⟨⟨r, rfl⟩, vL', s1, s2, s3⟩
      clear g2 g3 a0 a1 a2 a4' a5
      have o13 : Only [bT, l.wd] w1 w3 := ((HO1.out.trans HWD.out (fun y hy => by cases hy)).mono (fun y hy => by obtain rfl := List.mem_singleton.1 hy; simp)).trans s2 (fun y hy => Or.inl (by obtain rfl := List.mem_singleton.1 hy; simp))
      have b3 : Blk w3 l.gb 55 #[.pointer (some ⟨l.m, 0, none⟩), .pointer (some ⟨l.B.s, 0, none⟩), .pointer (some ⟨l.wd, 0, none⟩), l.vT] := o13.blk P.out.2.gblk (fun hm => by
        simp only [List.mem_cons, List.not_mem_nil, or_false] at hm
        rcases hm with e | e
        · exact HBT.out.2 (by rw [e]; simp)
        · exact absurd (P.out.2.sep.one 0 3 l.gb (gF_mem.2 (Or.inl ⟨rfl, rfl⟩)) (gF_mem.2 (Or.inr (Or.inr (Or.inr (Or.inl ⟨rfl, Or.inl e⟩)))))) (by decide))
      have r3 := (HWD.out.mono (fun y hy => by cases hy) |>.trans s2 (fun y hy => Or.inl hy) : Only [l.wd] W w3).own HRW.out (fun k hk => by
        injection hk with hk
        subst hk
        intro hm
        exact absurd (P.out.2.sep.one 4 3 bT (gF_mem.2 (Or.inr (Or.inr (Or.inr (Or.inr (Or.inl ⟨rfl, HBT.out.1⟩)))))) (gF_mem.2 (Or.inr (Or.inr (Or.inr (Or.inl ⟨rfl, Or.inl (List.mem_singleton.1 hm)⟩)))))) (by decide))
      obtain ⟨P1, hP1⟩ : ∃ P1 : Option Addr, P1 = if cap = idx + 1 then some ⟨bT, 0, none⟩ else some ⟨bT, (idx + 1) * 4, none⟩ := ⟨_, rfl⟩
      have hls : (g.T.set idx x.next).length = m := by rw [List.length_set, HM.out]
      have N3 : N ≤ w3.drew.heap.size := by have h1 := b3.lt; have h2 := H.out.gN; exact Nat.le_trans h2 (Nat.le_of_lt h1)
      have r3d : w3.drew.ownsRow N 179 4 (.slice (some ⟨bT, 0, none⟩) m cap) (g.T.set idx x.next).length ((g.T.set idx x.next).flatMap trC) := (Only.refl [] w3).drew.own r3 (by simp)
      obtain ⟨ra, rc, W4, ao, co, W5, r4, r5, r6, r9, r7, r8⟩ := app_cut N w3.drew bT cap idx (g.T.set idx x.next) (by omega) (by rw [hls] at r3d ⊢; exact r3d) N3 (by omega) P1 hP1
      rw [hls] at r5 r6 r8
      rw [List.eraseIdx_set_eq] at r6
      have hmc : m ≤ cap := by
        rcases r3.2 with ⟨h, _⟩ | ⟨b2, cap2, cur, h1, h2, h3, h4, h5, h6, h7⟩
        · cases h
        · injection h1 with a1 a2 a3; rw [a3, ← hls]; exact h4
      have i5 : (idx : Int) ≤ (cap : Int) := by omega
      have i6 : IntKind.i64.wrap ((idx : Int) + 1) = (idx : Int) + 1 := IntWalk.i64_in _ (by omega)
      have i7 : (idx : Int) + 1 ≤ (m : Int) := by omega
      have i8 : (0 : Int) ≤ (idx : Int) + 1 := by omega
      have y3 : w3.drew.cell? ⟨l.gb, 3, none⟩ = some (.slice (some ⟨bT, 0, none⟩) m cap) := (b3.cell 3).trans (congrArg some HVT.out)
      have y4 : W4.cell? ⟨l.gb, 3, none⟩ = some (.slice (some ⟨bT, 0, none⟩) m cap) := ((r9.blk ((Only.refl [] w3).drew.blk b3 (by simp)) (by simp)).cell 3).trans (congrArg some HVT.out)
      have b5 : Blk W5 l.gb 55 #[.pointer (some ⟨l.m, 0, none⟩), .pointer (some ⟨l.B.s, 0, none⟩), .pointer (some ⟨l.wd, 0, none⟩), l.vT] := r7.blk ((Only.refl [] w3).drew.blk b3 (by simp)) (by simp)
      have y5 : W5.cell? ⟨l.gb, 3, none⟩ = some l.vT := b5.cell 3
      have y5f := b5.frozen 3
      have hP1' : (if cap = idx + 1 then (some ⟨bT, 0, none⟩ : Option Addr) else some ⟨bT, (idx + 1) * 4, none⟩) = P1 := hP1.symm
      clear e1 eidx hm0 hml hil hgt hP1
      have hlen : M'.view.length = l.M.view.length := by rw [absM_len P.out.1.ma]; exact nextMA_len _ _ _ _ _ _ _ _
      obtain ⟨W6, hW6⟩ : ∃ W6, W6 = W5.setCell ⟨l.gb, 3, none⟩ (.slice ao (m - 1) co) := ⟨_, rfl⟩
      have b6 : Blk W6 l.gb 55 #[.pointer (some ⟨l.m, 0, none⟩), .pointer (some ⟨l.B.s, 0, none⟩), .pointer (some ⟨l.wd, 0, none⟩), .slice ao (m - 1) co] := by rw [hW6]; exact b5.set_ 3 _
      have o56 : Only [l.gb] W5 W6 := by rw [hW6]; exact (Only.refl _ _).setCell (Or.inl (by simp)) _
      have o36 : Only [l.gb] w3 W6 := ((((Only.refl [] w3).drew).trans r7 (fun y hy => by cases hy)).mono (fun y hy => by cases hy) : Only [l.gb] w3 W5).trans o56 (fun y hy => Or.inl hy)
      have ne1 : l.gb ≠ l.wd := fun e => absurd (P.out.2.sep.one 0 3 l.gb (gF_mem.2 (Or.inl ⟨rfl, rfl⟩)) (gF_mem.2 (Or.inr (Or.inr (Or.inr (Or.inl ⟨rfl, Or.inl e⟩)))))) (by decide)
      have sz3 := s2.size
      have sz1 := o13.size
      have sz2 : w1.heap.size ≤ w2.heap.size := Nat.le_trans HO1.out.size HWD.out.size
      have gbl := b3.lt
      have hgbw1 : l.gb < w1.heap.size := P.out.2.gblk.lt
      have hw6 : WorldIs W6 N l.wd ((8 * l.M.view.length : Nat) : Int) g.cs (setW g.ls x.a x.tb) l.vC vL' := by
        rw [← hlen]
        refine s1.only o36 (by simpa using fun e => ne1 e.symm) (fun k hk hm => ?_) (fun k hk hm => ?_)
        · rw [List.mem_singleton.1 hm] at hk
          exact absurd (P.out.2.sep.one 0 3 l.gb (gF_mem.2 (Or.inl ⟨rfl, rfl⟩)) (gF_mem.2 (Or.inr (Or.inr (Or.inr (Or.inl ⟨rfl, Or.inr (Or.inl hk)⟩)))))) (by decide)
        · have h1 := s3 k hk
          rw [List.mem_singleton.1 hm] at h1
          omega
      have hdw : w3.drew.heap.size = w3.heap.size := rfl
      have hj := nb_le c
      have hi0 : i = (i - 1) + 1 := by have := HTK.out.i1; omega
      have hne : isGet g.ls x.a ≠ 0 := by rcases HTK.out.tb with ⟨_, e⟩ | ⟨_, e⟩ <;> rw [e] <;> decide
      have hmA := nextSA_end (i := i) (c := c) (j := j) (b := b) (a := x.a) (tb := x.tb) (i0 := i - 1) (j0 := j) H.out.al H.out.work.hn.2 (HTK.out.tb.imp And.left And.left) (by have := HTK.out.i1; omega) HTK.out.j1 HTK.out.c3 (by rw [← H.out.al.cls (i - 1) (by have := HTK.out.i1; omega), ← hi0]; exact HTK.out.cc) (by rw [HTK.out.aa]; congr 1; omega) hne H.out.hp H.out.bits
      have hmid := P.out.2
      rw [H3.out] at hmid
      have hend := H.out.ended HX.out hmid hlen HBT.out.1 (w2 := W6) (ls' := setW g.ls x.a x.tb) (vL' := vL') (vT' := .slice ao (m - 1) co)
        ((o13.mono (fun y hy => by simp only [List.mem_cons, List.not_mem_nil, or_false] at hy ⊢; omega) : Only [l.gb, l.wd, bT] w1 w3).trans o36 (fun y hy => Or.inl (by rw [List.mem_singleton.1 hy]; simp)))
        b6 hw6 (o56.own r6 (fun k hk hm => by have h1 := r8 k hk; rw [List.mem_singleton.1 hm] at h1; omega)) (fun k hk => by have := s3 k hk; omega)
        (fun k hk => ⟨by have := r8 k hk; omega, fun e => by have h1 := r8 k hk; have h2 := own_lt s1.rl k e; omega⟩) hmA.1 hmA.2.1 hmA.2.2 (fun a ha => by rw [isGet_setW, if_neg ha])
      have hma := P.out.1.ma
      rw [H3.out] at hma
      rw [hma, H.out.ma] at hend
      have HE := hid hend
      have HBE := hid (HBL.out.trans ((((o13.mono (fun y hy => by simp only [List.mem_cons, List.not_mem_nil, or_false] at hy ⊢; omega) : Only [l.gb, l.wd, bT] w1 w3).trans o36 (fun y hy => Or.inl (by rw [List.mem_singleton.1 hy]; simp)))).below (fun y hy => by
        simp only [List.mem_cons, List.not_mem_nil, or_false] at hy
        rcases hy with rfl | rfl | rfl
        · exact H.out.gN
        · exact H.out.wo.lo
        · exact H.out.lo 4 _ (H.out.in4 HBT.out.1)) (Nat.le_trans (Nat.le_trans H.out.gN (Nat.le_of_lt H.out.gblk.lt)) P.out.1.st.only.size)))
      have HW6 := hid hW6
      clear hlen hW6 b6 o56 o36 ne1 sz3 sz1 sz2 gbl hgbw1 hw6 hdw hj hi0 hne hmA hmid hend hma b5 r3 r3d r6 r7 r8 r9 s1 s2 s3 hls N3 hmc o13 b3
      go_upto_region 10 with fail
      go_region
      go_wp2
      go_ret
      rw [← HW6.out]
      exact ⟨rfl, _, _, HE.out, Stepd.fin idx x i c j b (by rw [← HM.out]; exact HIDX.out) HX.out HTK.out H3.out, rfl, HBE.out⟩
    · have hd : decide (x.ph = 3) = false := decide_eq_false h3
      have H3 := hid h3
      clear h3
      go_upto_region 6 with fail
      rw [show w1.setCell ⟨bT, idx * 4 + 3, none⟩ (.int .i64 ((x.ph : Int) + 1)) = W from HW.out.symm]
      clear z0 z1' z2 z4 z5 q0 q1 q3 y0 y3 z1
      go_wp2
      go_ret
      have hlt : x.ph < 3 := by have := HTK.out.ph; have := H3.out; omega
      have hj := nb_le c
      have hmA := nextSA_mid (i := i) (c := c) (j := j) (b := b) (a := x.a) (tb := x.tb) H.out.al hlt (newB_lt HTK.out.b64 (by have := HTK.out.j1; omega)) H.out.hp H.out.bits
      have hst := H.out.stepped HX.out hlt P.out.2 (by rw [absM_len P.out.1.ma]; exact nextMA_len _ _ _ _ _ _ _ _) hmA.1 hmA.2.1 hmA.2.2 (cap := cap) (bT := bT) (by rw [HVT.out, HM.out])
      rw [P.out.1.ma, H.out.ma] at hst
      rw [HW.out]
      exact ⟨rfl, _, _, hst, Stepd.mid idx x i c j b (by rw [← HM.out]; exact HIDX.out) HX.out HTK.out hlt, rfl, by rw [← HW.out]; exact (HBL.out).trans (HO1.out.below (fun y hy => by rw [List.mem_singleton.1 hy]; exact H.out.lo 4 bT (H.out.in4 HBT.out.1)) (Nat.le_trans (Nat.le_trans H.out.gN (Nat.le_of_lt H.out.gblk.lt)) P.out.1.st.only.size))⟩

end Go.Proofs.YtbkaemajjaiklaaGreat

/- SlabPlays: an act of the game: a step; one of no kind. -/
namespace Go.Proofs.YtbkaemajjaiklaaGreat
open Go.RowKit
set_option linter.unusedVariables false
set_option linter.unusedSimpArgs false

/-- what an act comes to, plainly -/
inductive Did (n : Nat) (kd nn aa cc : Int) (g : GA) : GA → Prop
  | other : ¬ (1 ≤ kd ∧ kd ≤ 6) → Did n kd nn aa cc g g
  | rsvArg : kd = 1 → ¬ (1 ≤ nn ∧ nn ≤ 3) → Did n kd nn aa cc g g
  | rsv (c : Nat) (a x : Int) (A' : SA) (cs' : List Int) (ls' : List (Int × Int)) : kd = 1 → nn = (c : Int) → 1 ≤ c ∧ c ≤ 3 → RsvW g.cs g.ls c n a x cs' ls' → Rsvd g.A c n a x A' cs' ls' → Did n kd nn aa cc g { g with A := A', cs := cs', ls := ls' }
  | relNo : kd = 2 → isGet g.ls (blkG g.ls nn aa) ≠ 1 → Did n kd nn aa cc g g
  | rel (i j c : Nat) : kd = 2 → isGet g.ls (blkG g.ls nn aa) = 1 → i < n → j < nb c → 1 ≤ c ∧ c ≤ 3 → g.cs.getD i 0 = (c : Int) → blkG g.ls nn aa = blockZ ((i : Int) + 1) c j →
      Did n kd nn aa cc g { g with A := freeSA g.A c (blkG g.ls nn aa), ls := setW g.ls (blkG g.ls nn aa) 0 }
  | pubNo : kd = 3 → ¬ (0 ≤ cc ∧ cc ≤ 64 ∧ isGet g.ls (blkG g.ls nn aa) = 1) → Did n kd nn aa cc g g
  | pub (t cl : Nat) : kd = 3 → cc = (cl : Int) → cl ≤ 64 → isGet g.ls (blkG g.ls nn aa) = 1 →
      Did n kd nn aa cc g { g with A := { g.A with is := isSet g.A.is (blkG g.ls nn aa) 4 }, ls := setW g.ls (blkG g.ls nn aa) 4, T := g.T ++ [⟨t, cl, blkG g.ls nn aa, 2, 0⟩] }
  | freNo : kd = 4 → ¬ (0 ≤ cc ∧ cc ≤ 64 ∧ isGet g.ls (blkG g.ls nn aa) = 2) → Did n kd nn aa cc g g
  | fre (t cl : Nat) : kd = 4 → cc = (cl : Int) → cl ≤ 64 → isGet g.ls (blkG g.ls nn aa) = 2 →
      Did n kd nn aa cc g { g with A := { g.A with is := isSet g.A.is (blkG g.ls nn aa) 3 }, ls := setW g.ls (blkG g.ls nn aa) 3, T := g.T ++ [⟨t, cl, blkG g.ls nn aa, 0, 0⟩] }
  | step (g' : GA) : kd = 5 → Stepd n nn g g' → Did n kd nn aa cc g g'
  | evNo : kd = 6 → nn < 0 → Did n kd nn aa cc g g
  | ev (k : Nat) : kd = 6 → 0 ≤ nn → (k : Int) = aa % (n : Int) → Did n kd nn aa cc g { g with ma := evictA g.ma (128 * (1 + k)) nn.toNat }
theorem GameIs.loN {w : World} {N n K : Nat} {l : GL} {g : GA} (h : GameIs w N n K l g) : N ≤ w.heap.size := Nat.le_trans h.gN (Nat.le_of_lt h.gblk.lt)
theorem GameIs.drew {w : World} {N n K : Nat} {l : GL} {g : GA} (h : GameIs w N n K l g) : GameIs w.drew N n K l g := h.bel (show Below w.heap.size w w.drew from ⟨rfl, rfl, rfl, Nat.le_refl _, fun _ _ => rfl⟩)
theorem GameIs.only0 {w w' : World} {N n K : Nat} {l : GL} {g : GA} (h : GameIs w N n K l g) (ho : Only [] w w') : GameIs w' N n K l g := h.bel (ho.below (fun _ h => by cases h) (Nat.le_refl _))
/-- what an act leaves -/
structure DoPost (w : World) (N n K : Nat) (l : GL) (g : GA) (kd nn aa cc : Int) (e : Ending) (w' : World) : Prop where
  e : e = .returned (.bool true)
  out : ∃ l' g', GameIs w' N n (K + 1) l' g' ∧ Did n kd nn aa cc g g' ∧ l'.gb = l.gb ∧ Below N w w'
theorem actBox (w : World) (kd nn aa cc : Int) : ∃ W, W = w.alloc (.cells #[.int .i64 kd, .int .i64 nn, .int .u64 aa, .int .i64 cc] 45) ∧ Below w.heap.size w W ∧ Blk W w.heap.size 45 #[.int .i64 kd, .int .i64 nn, .int .u64 aa, .int .i64 cc] :=
  ⟨_, rfl, ba (Below.refl _ _) _, Blk.new _ _ _⟩

set_option maxRecDepth 100000 in
set_option maxHeartbeats 4000000 in
theorem do_other (N n K : Nat) (l : GL) (g : GA) (kd nn aa cc : Int) (w : World) (h : GameIs w N n K l g) (hk : ¬ (1 ≤ kd ∧ kd ≤ 6)) :
    Calls Tryz.prog 19 #[.pointer (some ⟨l.gb, 0, none⟩), .agg #[.int .i64 kd, .int .i64 nn, .int .u64 aa, .int .i64 cc]] w (DoPost w N n K l g kd nn aa cc) := by
  obtain ⟨W, hW, hb, bx⟩ := actBox w kd nn aa cc
  have z0 : W.cell? ⟨w.heap.size, 0, none⟩ = some (.int .i64 kd) := bx.cell 0
  have k1 : (kd == 1) = false := by simp; omega
  have k2 : (kd == 2) = false := by simp; omega
  have k3 : (kd == 3) = false := by simp; omega
  have k4 : (kd == 4) = false := by simp; omega
  have k5 : (kd == 5) = false := by simp; omega
  have k6 : (kd == 6) = false := by simp; omega
  have HG := hid (h.bel hb).up
  have y1 : W.cell? ⟨l.gb, 1, none⟩ = some (.pointer (some ⟨l.B.s, 0, none⟩)) := HG.out.gblk.cell 1
  have y2 : W.cell? ⟨l.gb, 2, none⟩ = some (.pointer (some ⟨l.wd, 0, none⟩)) := HG.out.gblk.cell 2
  have SM := hid (same_z _ _ _ _ _ _ _ _ _ _ _ _ W.drew HG.out.drew.both)
  have HW := hid hW
  have HK := hid hk
  have HBW := hid (hb.mono (Nat.le_trans h.gN (Nat.le_of_lt h.gblk.lt)))
  have HNW := hid (show N ≤ W.heap.size from Nat.le_trans (Nat.le_trans h.gN (Nat.le_of_lt h.gblk.lt)) hb.size)
  clear h hW hb bx hk
  go_enter Tryz.func19, Tryz.ntmps19
  go_upto_region 1 with fail
  rw [show w.alloc (.cells #[.int .i64 kd, .int .i64 nn, .int .u64 aa, .int .i64 cc] 45) = W from HW.out.symm]
  go_upto_region 26 with fail
  refine wp_region_still_tail 10 (by kernel_rfl) (by kernel_rfl) ?_
  simp only [List.take_succ_cons, List.take_zero, List.drop_succ_cons, List.drop_zero]
  repeat still_step
  refine wpStill_nil ?_
  change wpList _ _ _ _ _ W.drew
  have HWD := hid (show Only [] W W.drew from (Only.refl [] W).drew)
  generalize W.drew = w3 at SM HWD ⊢
  go_wp2_with fail
  with_reducible refine SM.out.mono ?_
  rintro e w4 ⟨rfl, hb4⟩
  have HB := hid hb4
  clear hb4
  go_wp2
  go_ret
  exact ⟨rfl, l, g, ((HG.out.only0 HWD.out).bel HB.out), Did.other HK.out, rfl, HBW.out.trans ((HWD.out.below (fun _ h => by cases h) HNW.out).trans (HB.out.mono (Nat.le_trans HNW.out HWD.out.size)))⟩

end Go.Proofs.YtbkaemajjaiklaaGreat

/- SlabPlays: an act of the game: a step, an eviction. -/
namespace Go.Proofs.YtbkaemajjaiklaaGreat
open Go.RowKit
set_option linter.unusedVariables false
set_option linter.unusedSimpArgs false

set_option maxRecDepth 100000 in
set_option maxHeartbeats 4000000 in
theorem do_step (N n K : Nat) (l : GL) (g : GA) (kd nn aa cc : Int) (w : World) (h : GameIs w N n K l g) (hK : K ≤ 1000000) (hk : kd = 5) :
    Calls Tryz.prog 19 #[.pointer (some ⟨l.gb, 0, none⟩), .agg #[.int .i64 kd, .int .i64 nn, .int .u64 aa, .int .i64 cc]] w (DoPost w N n K l g kd nn aa cc) := by
  obtain ⟨W, hW, hb, bx⟩ := actBox w kd nn aa cc
  have z0 : W.cell? ⟨w.heap.size, 0, none⟩ = some (.int .i64 kd) := bx.cell 0
  have z1 : W.cell? ⟨w.heap.size, 1, none⟩ = some (.int .i64 nn) := bx.cell 1
  have z2 : W.cell? ⟨w.heap.size, 2, none⟩ = some (.int .u64 aa) := bx.cell 2
  have z3 : W.cell? ⟨w.heap.size, 3, none⟩ = some (.int .i64 cc) := bx.cell 3
  have k1 : (kd == 1) = false := by rw [hk]; rfl
  have k2 : (kd == 2) = false := by rw [hk]; rfl
  have k3 : (kd == 3) = false := by rw [hk]; rfl
  have k4 : (kd == 4) = false := by rw [hk]; rfl
  have k5 : (kd == 5) = true := by rw [hk]; rfl
  have H := hid (h.bel hb)
  have HW := hid hW
  have HK := hid hk
  have HBX := hid bx
  have HBW := hid (hb.mono h.loN)
  have hwlt : w.heap.size < W.heap.size := bx.lt
  have HSEP : Hid (∀ p, ∀ k ∈ l.F g.T p, k < w.heap.size) := fun p k hk => h.sep.lt p k hk
  clear h hW hb bx hk 
  go_enter Tryz.func19, Tryz.ntmps19
  go_upto_region 1 with fail
  rw [show w.alloc (.cells #[.int .i64 kd, .int .i64 nn, .int .u64 aa, .int .i64 cc] 45) = W from HW.out.symm]
  go_wp2_with fail
  refine (gstep_z N n K l g nn W H.out hK).mono ?_
  rintro e w1 ⟨rfl, l2, g2, hg, hs, hgb, hbl⟩
  have HBL := hid hbl
  clear hbl
  have HG := hid hg
  have HGB := hid hgb
  have HS := hid hs
  clear hg hgb hs z0 z1 z2 z3
  have y1 : w1.cell? ⟨l.gb, 1, none⟩ = some (.pointer (some ⟨l2.B.s, 0, none⟩)) := by rw [← HGB.out]; exact HG.out.gblk.cell 1
  have y2 : w1.cell? ⟨l.gb, 2, none⟩ = some (.pointer (some ⟨l2.wd, 0, none⟩)) := by rw [← HGB.out]; exact HG.out.gblk.cell 2
  have SM := hid (same_z _ _ _ _ _ _ _ _ _ _ _ _ w1.drew HG.out.drew.both)
  go_upto_region 26 with fail
  refine wp_region_still_tail 10 (by kernel_rfl) (by kernel_rfl) ?_
  simp only [List.take_succ_cons, List.take_zero, List.drop_succ_cons, List.drop_zero]
  repeat still_step
  refine wpStill_nil ?_
  change wpList _ _ _ _ _ w1.drew
  have HWD := hid (show Only [] w1 w1.drew from (Only.refl [] w1).drew)
  generalize w1.drew = w8 at SM HWD ⊢
  go_wp2_with fail
  with_reducible refine SM.out.mono ?_
  rintro e w9 ⟨rfl, hb9⟩
  have HB9 := hid hb9
  clear hb9
  go_wp2
  go_ret
  exact ⟨rfl, l2, g2, ((HG.out.only0 HWD.out).bel HB9.out), Did.step g2 HK.out HS.out, HGB.out, (HBW.out.trans HBL.out).trans ((HWD.out.below (fun _ h => by cases h) HG.out.loN).trans (HB9.out.mono (Nat.le_trans HG.out.loN HWD.out.size)))⟩

theorem evNums (kk : Nat) (h : kk < 64) : 8 * ((128 * (1 + kk) : Nat) : Int) = IntKind.u64.wrap (wrap64 (1024 * wrap64 (1 + wrap64 (kk : Int)))) := by
  have hk : (kk : Int) < 64 := by omega
  have h0 : (0 : Int) ≤ (kk : Int) := by omega
  have w1 : ∀ x : Int, 0 ≤ x → x ≤ 100000 → wrap64 x = x := fun x a b => by unfold wrap64; omega
  rw [w1 (kk : Int) h0 (by omega), w1 (1 + (kk : Int)) (by omega) (by omega), w1 (1024 * (1 + (kk : Int))) (by omega) (by omega), IntWalk.u64_in _ ⟨by omega, by omega⟩]
  omega

set_option maxRecDepth 100000 in
set_option maxHeartbeats 4000000 in
theorem do_ev (N n K : Nat) (l : GL) (g : GA) (kd nn aa cc : Int) (w : World) (h : GameIs w N n K l g) (hK : K ≤ 1000000) (hk : kd = 6) (ha : 0 ≤ aa ∧ aa ≤ 18446744073709551615) (hnn : nn ≤ 9223372036854775807) :
    Calls Tryz.prog 19 #[.pointer (some ⟨l.gb, 0, none⟩), .agg #[.int .i64 kd, .int .i64 nn, .int .u64 aa, .int .i64 cc]] w (DoPost w N n K l g kd nn aa cc) := by
  obtain ⟨W, hW, hb, bx⟩ := actBox w kd nn aa cc
  have z0 : W.cell? ⟨w.heap.size, 0, none⟩ = some (.int .i64 kd) := bx.cell 0
  have z1 : W.cell? ⟨w.heap.size, 1, none⟩ = some (.int .i64 nn) := bx.cell 1
  have z2 : W.cell? ⟨w.heap.size, 2, none⟩ = some (.int .u64 aa) := bx.cell 2
  have z3 : W.cell? ⟨w.heap.size, 3, none⟩ = some (.int .i64 cc) := bx.cell 3
  have k1 : (kd == 1) = false := by rw [hk]; rfl
  have k2 : (kd == 2) = false := by rw [hk]; rfl
  have k3 : (kd == 3) = false := by rw [hk]; rfl
  have k4 : (kd == 4) = false := by rw [hk]; rfl
  have k5 : (kd == 5) = false := by rw [hk]; rfl
  have k6 : (kd == 6) = true := by rw [hk]; rfl
  have H := hid (h.bel hb)
  have HW := hid hW
  have HK := hid hk
  have HBX := hid bx
  have HBW := hid (hb.mono h.loN)
  have hwlt : w.heap.size < W.heap.size := bx.lt
  have HSEP : Hid (∀ p, ∀ k ∈ l.F g.T p, k < w.heap.size) := fun p k hk => h.sep.lt p k hk
  have y0 : W.cell? ⟨l.gb, 0, none⟩ = some (.pointer (some ⟨l.m, 0, none⟩)) := H.out.gblk.cell 0
  have y2 : W.cell? ⟨l.gb, 2, none⟩ = some (.pointer (some ⟨l.wd, 0, none⟩)) := H.out.gblk.cell 2
  have hv : ∃ a c, l.vC = .slice a g.cs.length c := row_form1 H.out.wo.rc
  obtain ⟨ca, cc', hv⟩ := hv
  rw [H.out.al.cl] at hv
  have y3 : W.cell? ⟨l.wd, 1, none⟩ = some (.slice ca n cc') := (H.out.wo.blk.cell 1).trans (congrArg some hv)
  have hn := H.out.work.hn
  obtain ⟨kk, hkk⟩ : ∃ kk : Nat, (kk : Int) = aa % (n : Int) := ⟨(aa % (n : Int)).toNat, by have := Int.emod_nonneg aa (show (n : Int) ≠ 0 by omega); omega⟩
  have hkl : kk < n := by have := Int.emod_lt_of_pos aa (show (0 : Int) < (n : Int) by omega); omega
  have ST := hid (Evict_x l.m l.Q l.M K (128 * (1 + kk)) nn (by have := H.out.work.vl; omega) hnn W.drew H.out.drew.work.mem (by omega))
  have HKK := hid hkk
  have HKL := hid hkl
  have hn1 : 0 < n := by omega
  have hn64 : n ≤ 64 := hn.2
  have e1 : IntKind.u64.wrap (n : Int) = (n : Int) := IntWalk.u64_in _ (by omega)
  have e2 : aa.tmod (n : Int) = (kk : Int) := by rw [Int.tmod_eq_emod_of_nonneg ha.1]; exact hkk.symm
  have e7 := evNums kk (by omega)
  have e8 : ((n : Int) == 0) = false := by simp; omega
  have e9 : ¬ n = 0 := by omega
  rw [e7] at ST
  clear e7
  clear h hW hb bx hk hv hkk hkl hn
  go_enter Tryz.func19, Tryz.ntmps19
  go_upto_region 1 with fail
  rw [show w.alloc (.cells #[.int .i64 kd, .int .i64 nn, .int .u64 aa, .int .i64 cc] 45) = W from HW.out.symm]
  go_upto_region 25 with fail
  refine wp_region_still_tail 22 (by kernel_rfl) (by kernel_rfl) ?_
  simp only [List.take_succ_cons, List.take_zero, List.drop_succ_cons, List.drop_zero]
  repeat still_step
  refine wpStill_nil ?_
  change wpList _ _ _ _ _ W.drew
  have HWD := hid (show Only [] W W.drew from (Only.refl [] W).drew)
  generalize W.drew = w3 at ST HWD ⊢
  go_wp2_with fail
  with_reducible refine ST.out.mono ?_
  rintro e w1 ⟨⟨v, rfl⟩, M', q1, q2, q3⟩
  have HBL := hid ((HWD.out.below (fun _ h => by cases h) H.out.loN).trans (q2.only.below H.out.loM (Nat.le_trans H.out.loN HWD.out.size)))
  have HWD0 := HWD
  obtain ⟨l2, g2, hg, hd, hgb⟩ : ∃ l2 g2, GameIs w1 N n (K + 1) l2 g2 ∧ Did n kd nn aa cc g g2 ∧ l2.gb = l.gb := by
    by_cases h0 : nn < 0
    · rw [if_pos h0] at q3
      have hm := ((H.out.only0 HWD.out).mem q1 q2 (by rw [show M'.view = l.M.view from congrArg MA.view q3])).up
      rw [q3, H.out.ma] at hm
      exact ⟨_, _, hm, Did.evNo HK.out h0, rfl⟩
    · rw [if_neg h0] at q3
      have hm := ((H.out.only0 HWD.out).mem q1 q2 (by rw [show M'.view = l.M.view from congrArg MA.view q3])).up
      rw [q3, H.out.ma] at hm
      exact ⟨_, _, hm, Did.ev kk HK.out (by omega) HKK.out, rfl⟩
  have HG := hid hg
  have HGB := hid hgb
  have HD := hid hd
  clear hg hgb hd q1 q2 q3 z0 z1 z2 z3 y0 y2 y3 e1 e2 e8 e9 hn1 hn64
  have y1 : w1.cell? ⟨l.gb, 1, none⟩ = some (.pointer (some ⟨l2.B.s, 0, none⟩)) := by rw [← HGB.out]; exact HG.out.gblk.cell 1
  have y2 : w1.cell? ⟨l.gb, 2, none⟩ = some (.pointer (some ⟨l2.wd, 0, none⟩)) := by rw [← HGB.out]; exact HG.out.gblk.cell 2
  have SM := hid (same_z _ _ _ _ _ _ _ _ _ _ _ _ w1.drew HG.out.drew.both)
  go_upto_region 26 with fail
  refine wp_region_still_tail 10 (by kernel_rfl) (by kernel_rfl) ?_
  simp only [List.take_succ_cons, List.take_zero, List.drop_succ_cons, List.drop_zero]
  repeat still_step
  refine wpStill_nil ?_
  change wpList _ _ _ _ _ w1.drew
  have HWD := hid (show Only [] w1 w1.drew from (Only.refl [] w1).drew)
  generalize w1.drew = w8 at SM HWD ⊢
  go_wp2_with fail
  with_reducible refine SM.out.mono ?_
  rintro e w9 ⟨rfl, hb9⟩
  have HB9 := hid hb9
  clear hb9
  go_wp2
  go_ret
  exact ⟨rfl, l2, g2, ((HG.out.only0 HWD.out).bel HB9.out), HD.out, HGB.out, (HBW.out.trans HBL.out).trans ((HWD.out.below (fun _ h => by cases h) HG.out.loN).trans (HB9.out.mono (Nat.le_trans HG.out.loN HWD.out.size)))⟩

end Go.Proofs.YtbkaemajjaiklaaGreat

/- SlabPlays: an act of the game: Release. -/
namespace Go.Proofs.YtbkaemajjaiklaaGreat
open Go.RowKit
set_option linter.unusedVariables false
set_option linter.unusedSimpArgs false

theorem GameIs.docMoved {w w1 : World} {N n K : Nat} {l : GL} {g : GA} (h : GameIs w N n K l g) (ho : Only (foot l.B l.V) w w1) :
    WorldIs w1 N l.wd ((8 * l.M.view.length : Nat) : Int) g.cs g.ls l.vC l.vL ∧ Blk w1 l.gb 55 #[.pointer (some ⟨l.m, 0, none⟩), .pointer (some ⟨l.B.s, 0, none⟩), .pointer (some ⟨l.wd, 0, none⟩), l.vT] ∧ N ≤ w1.heap.size := by
  have no : ∀ p k, k ∈ l.F g.T p → p ≠ 2 → k ∉ foot l.B l.V := fun p k hk hp hf => hp (h.sep.one _ _ _ hk (h.in2 hf))
  have hb := ho.blk h.gblk (no 0 _ h.in0 (by decide))
  exact ⟨h.wo.only ho (no 3 _ h.in3 (by decide)) (fun k hk => no 3 k (h.in3C hk) (by decide)) (fun k hk => no 3 k (h.in3L hk) (by decide)), hb, Nat.le_trans h.gN (Nat.le_of_lt hb.lt)⟩
theorem bool2 (x y : Bool) : (if x = true then true else y) = (x || y) := by cases x <;> rfl

set_option maxRecDepth 100000 in
set_option maxHeartbeats 4000000 in
theorem do_rel (N n K : Nat) (l : GL) (g : GA) (kd nn aa cc : Int) (w : World) (h : GameIs w N n K l g) (hK : K ≤ 1000000) (hk : kd = 2) :
    Calls Tryz.prog 19 #[.pointer (some ⟨l.gb, 0, none⟩), .agg #[.int .i64 kd, .int .i64 nn, .int .u64 aa, .int .i64 cc]] w (DoPost w N n K l g kd nn aa cc) := by
  obtain ⟨W, hW, hb, bx⟩ := actBox w kd nn aa cc
  have z0 : W.cell? ⟨w.heap.size, 0, none⟩ = some (.int .i64 kd) := bx.cell 0
  have z1 : W.cell? ⟨w.heap.size, 1, none⟩ = some (.int .i64 nn) := bx.cell 1
  have z2 : W.cell? ⟨w.heap.size, 2, none⟩ = some (.int .u64 aa) := bx.cell 2
  have z3 : W.cell? ⟨w.heap.size, 3, none⟩ = some (.int .i64 cc) := bx.cell 3
  have k1 : (kd == 1) = false := by rw [hk]; rfl
  have k2 : (kd == 2) = true := by rw [hk]; rfl
  have H := hid (h.bel hb)
  have HW := hid hW
  have HK := hid hk
  have HBX := hid bx
  have HBW := hid (hb.mono h.loN)
  have hwlt : w.heap.size < W.heap.size := bx.lt
  have HSEP : Hid (∀ p, ∀ k ∈ l.F g.T p, k < w.heap.size) := fun p k hk => h.sep.lt p k hk
  clear h hW hb bx hk 
  go_enter Tryz.func19, Tryz.ntmps19
  go_upto_region 1 with fail
  rw [show w.alloc (.cells #[.int .i64 kd, .int .i64 nn, .int .u64 aa, .int .i64 cc] 45) = W from HW.out.symm]
  go_wp2_with fail
  refine (block_g N n K l g kd nn aa cc W H.out).mono ?_
  rintro e w1 ⟨rfl, hb1⟩
  have H1 := hid (H.out.bel hb1)
  have HB1 := hid hb1
  have HB1N := hid (hb1.mono H.out.loN)
  obtain ⟨a, ha⟩ : ∃ a, a = blkG g.ls nn aa := ⟨_, rfl⟩
  rw [← ha]
  have HA := hid ha
  have y1 : w1.cell? ⟨l.gb, 1, none⟩ = some (.pointer (some ⟨l.B.s, 0, none⟩)) := H1.out.gblk.cell 1
  have y2 : w1.cell? ⟨l.gb, 2, none⟩ = some (.pointer (some ⟨l.wd, 0, none⟩)) := H1.out.gblk.cell 2
  clear hb1 ha z0 z1 z2 z3
  by_cases h1 : isGet g.ls a = 1
  · obtain ⟨i, j, c, p1, p2, p3, p4, p5, p6, p7, p8, p9, p10, p11⟩ := H1.out.at (a := a) (by rw [h1]; decide)
    have hfew := H1.out.al.few H1.out.n6
    have hnn := H1.out.work.hn
    have RL := hid (Release_s N l.B l.V _ g.A a c n w1 H1.out.work.sl H1.out.loN H1.out.work.hl hnn ⟨p10, p11⟩ (by rw [H1.out.al.is]; exact h1) (isGet_has (by rw [H1.out.al.is, h1]; decide)) p8 (by omega) (by have := hfew.2 c p3 p4; omega))
    have HP := hid (show i < n ∧ j < nb c ∧ (1 ≤ c ∧ c ≤ 3) ∧ g.cs.getD i 0 = (c : Int) ∧ a = blockZ ((i : Int) + 1) c j from ⟨p1, p2, ⟨p3, p4⟩, p5, p6⟩)
    have HI1 := hid h1
    clear p1 p2 p3 p4 p5 p6 p7 p8 p9 p10 p11 hfew hnn
    go_wp2_with fail
    refine RL.out.mono ?_
    rintro e w2 ⟨rfl, V', r1, r2⟩
    obtain ⟨d1, d2, d3⟩ := H1.out.docMoved r2.only
    have WI := hid (WIs_r N l.wd _ g.cs g.ls l.vC l.vL a w2 d1 (by have := H1.out.fewT.2; omega))
    have WS := hid (WSet_r N l.wd _ g.cs g.ls l.vC l.vL a 0 w2 d1 d3 (by have := H1.out.fewT.2; omega))
    rw [h1] at WI
    have R := hid (⟨r1, r2⟩ : _ ∧ _)
    have y3 : w2.cell? ⟨l.gb, 2, none⟩ = some (.pointer (some ⟨l.wd, 0, none⟩)) := d2.cell 2
    clear r1 r2 d1 d2 d3 y1 y2 h1
    go_wp2_with fail
    refine WI.out.mono ?_
    rintro e w3 ⟨rfl, rfl⟩
    go_wp2_with fail
    refine WS.out.mono ?_
    rintro e w4 ⟨⟨r, rfl⟩, vL', s1, s2, s3⟩
    have hg := (H1.out.released HP.out.1 HP.out.2.1 HP.out.2.2.1 HP.out.2.2.2.1 HP.out.2.2.2.2 HI1.out R.out.1 R.out.2 s1 s2 s3).up
    have HBL := hid (HB1N.out.trans ((R.out.2.only.below (fun k hk => H1.out.lo 2 k (H1.out.in2 hk)) H1.out.loN).trans (s2.below (fun y hy => by rw [List.mem_singleton.1 hy]; exact H1.out.wo.lo) (Nat.le_trans H1.out.loN R.out.2.only.size))))
    have hd : Did n kd nn aa cc g { g with A := freeSA g.A c a, ls := setW g.ls a 0 } := by rw [HA.out]; exact Did.rel i j c HK.out (by rw [← HA.out]; exact HI1.out) HP.out.1 HP.out.2.1 HP.out.2.2.1 HP.out.2.2.2.1 (by rw [← HA.out]; exact HP.out.2.2.2.2)
    obtain ⟨l2, g2, HG, HD, HGB⟩ : ∃ l2 g2, Hid (GameIs w4 N n (K + 1) l2 g2) ∧ Hid (Did n kd nn aa cc g g2) ∧ Hid (l2.gb = l.gb) := ⟨_, _, hid hg, hid hd, hid rfl⟩
    clear s1 s2 s3 hg hd y3
    have y1 : w4.cell? ⟨l.gb, 1, none⟩ = some (.pointer (some ⟨l2.B.s, 0, none⟩)) := by rw [← HGB.out]; exact HG.out.gblk.cell 1
    have y2 : w4.cell? ⟨l.gb, 2, none⟩ = some (.pointer (some ⟨l2.wd, 0, none⟩)) := by rw [← HGB.out]; exact HG.out.gblk.cell 2
    have SM := hid (same_z _ _ _ _ _ _ _ _ _ _ _ _ w4.drew HG.out.drew.both)
    go_upto_region 26 with fail
    refine wp_region_still_tail 10 (by kernel_rfl) (by kernel_rfl) ?_
    simp only [List.take_succ_cons, List.take_zero, List.drop_succ_cons, List.drop_zero]
    repeat still_step
    refine wpStill_nil ?_
    change wpList _ _ _ _ _ w4.drew
    have HWD := hid (show Only [] w4 w4.drew from (Only.refl [] w4).drew)
    generalize w4.drew = w8 at SM HWD ⊢
    go_wp2_with fail
    with_reducible refine SM.out.mono ?_
    rintro e w9 ⟨rfl, hb9⟩
    have HB9 := hid hb9
    clear hb9
    go_wp2
    go_ret
    exact ⟨rfl, l2, g2, ((HG.out.only0 HWD.out).bel HB9.out), HD.out, HGB.out, (HBW.out.trans HBL.out).trans ((HWD.out.below (fun _ h => by cases h) HG.out.loN).trans (HB9.out.mono (Nat.le_trans HG.out.loN HWD.out.size)))⟩
  · have RL := hid (Release_no N l.B l.V _ g.A a n w1 H1.out.work.sl H1.out.work.hl H1.out.work.hn (by rw [H1.out.al.is]; exact h1))
    have WI := hid (WIs_r N l.wd _ g.cs g.ls l.vC l.vL a w1 H1.out.wo (by have := H1.out.fewT.2; omega))
    obtain ⟨q, hq⟩ : ∃ q, q = isGet g.ls a := ⟨_, rfl⟩
    rw [← hq] at WI h1
    have e1 : (q == 1) = false := by simpa using h1
    have HQ := hid (show isGet g.ls (blkG g.ls nn aa) ≠ 1 by rw [← HA.out, ← hq]; exact h1)
    clear h1 hq
    go_wp2_with fail
    refine RL.out.mono ?_
    rintro e w2 ⟨rfl, rfl⟩
    go_wp2_with fail
    refine WI.out.mono ?_
    rintro e w3 ⟨rfl, rfl⟩
    have HG := hid H1.out.up
    have HBL := HB1N
    clear y1 y2
    have y1 : w1.cell? ⟨l.gb, 1, none⟩ = some (.pointer (some ⟨l.B.s, 0, none⟩)) := by exact HG.out.gblk.cell 1
    have y2 : w1.cell? ⟨l.gb, 2, none⟩ = some (.pointer (some ⟨l.wd, 0, none⟩)) := by exact HG.out.gblk.cell 2
    have SM := hid (same_z _ _ _ _ _ _ _ _ _ _ _ _ w1.drew HG.out.drew.both)
    go_upto_region 26 with fail
    refine wp_region_still_tail 10 (by kernel_rfl) (by kernel_rfl) ?_
    simp only [List.take_succ_cons, List.take_zero, List.drop_succ_cons, List.drop_zero]
    repeat still_step
    refine wpStill_nil ?_
    change wpList _ _ _ _ _ w1.drew
    have HWD := hid (show Only [] w1 w1.drew from (Only.refl [] w1).drew)
    generalize w1.drew = w8 at SM HWD ⊢
    go_wp2_with fail
    with_reducible refine SM.out.mono ?_
    rintro e w9 ⟨rfl, hb9⟩
    have HB9 := hid hb9
    clear hb9
    go_wp2
    go_ret
    exact ⟨rfl, l, g, ((HG.out.only0 HWD.out).bel HB9.out), Did.relNo HK.out HQ.out, rfl, (HBW.out.trans HBL.out).trans ((HWD.out.below (fun _ h => by cases h) HG.out.loN).trans (HB9.out.mono (Nat.le_trans HG.out.loN HWD.out.size)))⟩

end Go.Proofs.YtbkaemajjaiklaaGreat

/- SlabPlays: an act of the game: Reserve. -/
namespace Go.Proofs.YtbkaemajjaiklaaGreat
open Go.RowKit
set_option linter.unusedVariables false
set_option linter.unusedSimpArgs false

theorem RsvPost.form {w : World} {N : Nat} {B : SB} {V : Nat → Value} {size : Int} {A : SA} {c : Nat} {e : Ending} {w' : World} (h : RsvPost w N B V size A c e w') : ∃ a x, e = .returned (.tuple #[.int .u64 a, .int .i64 x]) := by
  rcases h.ok with ⟨_, _, _, rfl, _⟩ | ⟨_, _, rfl, _⟩
  · exact ⟨_, _, rfl⟩
  · exact ⟨_, _, rfl⟩
theorem RsvPost.only {w : World} {N : Nat} {B : SB} {V : Nat → Value} {size : Int} {A : SA} {c : Nat} {e : Ending} {w' : World} (h : RsvPost w N B V size A c e w') : Only (foot B V) w w' := by
  rcases h.ok with ⟨_, _, _, _, _, hm⟩ | ⟨_, _, _, _, hm⟩
  · exact hm.only
  · exact hm.only
theorem RsvWP.only {w : World} {N g : Nat} {size : Int} {cs : List Int} {ls : List (Int × Int)} {vC vL : Value} {c n : Nat} {e : Ending} {w' : World} (h : RsvWP w N g size cs ls vC vL c n e w') : Only (g :: vC.ownBlock.toList) w w' := by
  obtain ⟨_, _, _, _, _, _, _, _, ho, _⟩ := h.out
  exact ho
theorem ret2_inj {a x b y : Int} (h : Ending.returned (.tuple #[.int .u64 a, .int .i64 x]) = .returned (.tuple #[.int .u64 b, .int .i64 y])) : a = b ∧ x = y := by
  simpa using h
theorem RsvPost.thenO {w : World} {N : Nat} {B : SB} {V : Nat → Value} {size : Int} {A : SA} {c : Nat} {e : Ending} {w' w2 : World} (h : RsvPost w N B V size A c e w') (ho : Only [] w' w2) : RsvPost w N B V size A c e w2 := by
  have mv : ∀ V', Moved B V V' w w' → Moved B V V' w w2 := fun V' hm => ⟨hm.only.trans ho (by simp), hm.foot⟩
  rcases h.ok with ⟨A', V', h1, h2, h3, hm⟩ | ⟨h1, h2, h3, h4, hm⟩
  · exact ⟨Or.inl ⟨A', V', h1, h2, h3.only ho (by simp), mv _ hm⟩⟩
  · exact ⟨Or.inr ⟨h1, h2, h3, h4.only ho (by simp), mv _ hm⟩⟩

set_option maxRecDepth 100000 in
set_option maxHeartbeats 4000000 in
theorem do_rsvArg (N n K : Nat) (l : GL) (g : GA) (kd nn aa cc : Int) (w : World) (h : GameIs w N n K l g) (hK : K ≤ 1000000) (hk : kd = 1) (hc : ¬ (1 ≤ nn ∧ nn ≤ 3)) :
    Calls Tryz.prog 19 #[.pointer (some ⟨l.gb, 0, none⟩), .agg #[.int .i64 kd, .int .i64 nn, .int .u64 aa, .int .i64 cc]] w (DoPost w N n K l g kd nn aa cc) := by
  obtain ⟨W, hW, hb, bx⟩ := actBox w kd nn aa cc
  have z0 : W.cell? ⟨w.heap.size, 0, none⟩ = some (.int .i64 kd) := bx.cell 0
  have z1 : W.cell? ⟨w.heap.size, 1, none⟩ = some (.int .i64 nn) := bx.cell 1
  have z2 : W.cell? ⟨w.heap.size, 2, none⟩ = some (.int .u64 aa) := bx.cell 2
  have z3 : W.cell? ⟨w.heap.size, 3, none⟩ = some (.int .i64 cc) := bx.cell 3
  have k1 : (kd == 1) = true := by rw [hk]; rfl
  have H := hid (h.bel hb)
  have HW := hid hW
  have HK := hid hk
  have HBX := hid bx
  have HBW := hid (hb.mono h.loN)
  have hwlt : w.heap.size < W.heap.size := bx.lt
  have HSEP : Hid (∀ p, ∀ k ∈ l.F g.T p, k < w.heap.size) := fun p k hk => h.sep.lt p k hk
  have RV := hid (Reserve_arg N l.B l.V _ g.A nn n W.drew H.out.drew.work.sl H.out.work.hl H.out.work.hn hc)
  have HC := hid hc
  have y1 : W.cell? ⟨l.gb, 1, none⟩ = some (.pointer (some ⟨l.B.s, 0, none⟩)) := H.out.gblk.cell 1
  have y2 : W.cell? ⟨l.gb, 2, none⟩ = some (.pointer (some ⟨l.wd, 0, none⟩)) := H.out.gblk.cell 2
  clear h hW hb bx hk hc
  go_enter Tryz.func19, Tryz.ntmps19
  go_upto_region 1 with fail
  rw [show w.alloc (.cells #[.int .i64 kd, .int .i64 nn, .int .u64 aa, .int .i64 cc] 45) = W from HW.out.symm]
  go_upto_region 4 with fail
  go_region_held3 (fun w' => w'.cell? ⟨l.gb, 1, none⟩ = some (.pointer (some ⟨l.B.s, 0, none⟩)) ∧ w'.cell? ⟨l.gb, 2, none⟩ = some (.pointer (some ⟨l.wd, 0, none⟩)) ∧ w'.cell? ⟨w.heap.size, 1, none⟩ = some (.int .i64 nn)) (go_keep)
    ((go_at_call 23; refine RV.out.mono ?_; rintro e w1 ⟨rfl, hb1⟩; have H1 := hid (H.out.drew.bel hb1); have HB1N := hid (((Only.refl [] W).drew.below (fun _ h => by cases h) H.out.loN).trans (hb1.mono H.out.drew.loN)); have hbx1 := (Only.of_below hb1 []).blk ((Only.refl [] W).drew.blk HBX.out (by simp)) (by simp); have HBX1 := hid hbx1; have q1 : w1.cell? ⟨l.gb, 1, none⟩ = some (.pointer (some ⟨l.B.s, 0, none⟩)) := H1.out.gblk.cell 1; have q2 : w1.cell? ⟨l.gb, 2, none⟩ = some (.pointer (some ⟨l.wd, 0, none⟩)) := H1.out.gblk.cell 2; have q3 : w1.cell? ⟨w.heap.size, 1, none⟩ = some (.int .i64 nn) := hbx1.cell 1; clear hb1 hbx1))
  clear y1 y2 z0 z1 z2 z3
  go_upto_region 5 with fail
  go_region_held3 (fun w' => w'.cell? ⟨l.gb, 1, none⟩ = some (.pointer (some ⟨l.B.s, 0, none⟩)) ∧ w'.cell? ⟨l.gb, 2, none⟩ = some (.pointer (some ⟨l.wd, 0, none⟩)) ∧ w'.cell? ⟨w.heap.size, 1, none⟩ = some (.int .i64 nn)) (go_keep)
    ((go_at_call 24; refine (WRsv_arg N l.wd nn HC.out w1.drew).mono ?_; rintro e w2 ⟨rfl, rfl⟩; have H2 := hid H1.out.drew; have q4 : w1.drew.cell? ⟨l.gb, 1, none⟩ = some (.pointer (some ⟨l.B.s, 0, none⟩)) := q1; have q5 : w1.drew.cell? ⟨l.gb, 2, none⟩ = some (.pointer (some ⟨l.wd, 0, none⟩)) := q2; have q6 : w1.drew.cell? ⟨w.heap.size, 1, none⟩ = some (.int .i64 nn) := q3))
  obtain ⟨W2, hW2⟩ : ∃ W2, W2 = w1.drew := ⟨_, rfl⟩
  rw [← hW2] at H2 ⊢
  have HG := hid H2.out.up
  have HBL := hid (HB1N.out.trans (show Below N w1 W2 by rw [hW2]; exact (Only.refl [] w1).drew.below (fun _ h => by cases h) H1.out.loN))
  clear q1 q2 q3 q4 q5 q6 hW2
  have y1 : W2.cell? ⟨l.gb, 1, none⟩ = some (.pointer (some ⟨l.B.s, 0, none⟩)) := by exact HG.out.gblk.cell 1
  have y2 : W2.cell? ⟨l.gb, 2, none⟩ = some (.pointer (some ⟨l.wd, 0, none⟩)) := by exact HG.out.gblk.cell 2
  have SM := hid (same_z _ _ _ _ _ _ _ _ _ _ _ _ W2.drew HG.out.drew.both)
  go_upto_region 26 with fail
  refine wp_region_still_tail 10 (by kernel_rfl) (by kernel_rfl) ?_
  simp only [List.take_succ_cons, List.take_zero, List.drop_succ_cons, List.drop_zero]
  repeat still_step
  refine wpStill_nil ?_
  change wpList _ _ _ _ _ W2.drew
  have HWD := hid (show Only [] W2 W2.drew from (Only.refl [] W2).drew)
  generalize W2.drew = w8 at SM HWD ⊢
  go_wp2_with fail
  with_reducible refine SM.out.mono ?_
  rintro e w9 ⟨rfl, hb9⟩
  have HB9 := hid hb9
  clear hb9
  go_wp2
  go_ret
  exact ⟨rfl, l, g, ((HG.out.only0 HWD.out).bel HB9.out), Did.rsvArg HK.out HC.out, rfl, (HBW.out.trans HBL.out).trans ((HWD.out.below (fun _ h => by cases h) HG.out.loN).trans (HB9.out.mono (Nat.le_trans HG.out.loN HWD.out.size)))⟩

set_option maxRecDepth 100000 in
set_option maxHeartbeats 4000000 in
theorem do_rsv (N n K : Nat) (l : GL) (g : GA) (kd nn aa cc : Int) (w : World) (h : GameIs w N n K l g) (hK : K ≤ 1000000) (hk : kd = 1) (c : Nat) (hnn : nn = (c : Int)) (hc : 1 ≤ c ∧ c ≤ 3) :
    Calls Tryz.prog 19 #[.pointer (some ⟨l.gb, 0, none⟩), .agg #[.int .i64 kd, .int .i64 nn, .int .u64 aa, .int .i64 cc]] w (DoPost w N n K l g kd nn aa cc) := by
  obtain ⟨W, hW, hb, bx⟩ := actBox w kd nn aa cc
  have z0 : W.cell? ⟨w.heap.size, 0, none⟩ = some (.int .i64 kd) := bx.cell 0
  have z1 : W.cell? ⟨w.heap.size, 1, none⟩ = some (.int .i64 nn) := bx.cell 1
  have z2 : W.cell? ⟨w.heap.size, 2, none⟩ = some (.int .u64 aa) := bx.cell 2
  have z3 : W.cell? ⟨w.heap.size, 3, none⟩ = some (.int .i64 cc) := bx.cell 3
  have k1 : (kd == 1) = true := by rw [hk]; rfl
  have H := hid (h.bel hb)
  have HW := hid hW
  have HK := hid hk
  have HBX := hid bx
  have HBW := hid (hb.mono h.loN)
  have hwlt : w.heap.size < W.heap.size := bx.lt
  have HSEP : Hid (∀ p, ∀ k ∈ l.F g.T p, k < w.heap.size) := fun p k hk => h.sep.lt p k hk
  have RV0 := Reserve_z N l.B l.V _ g.A c n W.drew H.out.drew.work.sl H.out.drew.loN H.out.work.hl H.out.work.hn hc ((H.out.al.few H.out.n6).2 c hc.1 hc.2)
  rw [← hnn] at RV0
  have RV := hid RV0
  have HNN := hid hnn
  have HC := hid hc
  have y1 : W.cell? ⟨l.gb, 1, none⟩ = some (.pointer (some ⟨l.B.s, 0, none⟩)) := H.out.gblk.cell 1
  have y2 : W.cell? ⟨l.gb, 2, none⟩ = some (.pointer (some ⟨l.wd, 0, none⟩)) := H.out.gblk.cell 2
  clear h hW hb bx hk hc hnn RV0
  go_enter Tryz.func19, Tryz.ntmps19
  go_upto_region 1 with fail
  rw [show w.alloc (.cells #[.int .i64 kd, .int .i64 nn, .int .u64 aa, .int .i64 cc] 45) = W from HW.out.symm]
  go_upto_region 4 with fail
  go_region_held3 (fun w' => w'.cell? ⟨l.gb, 1, none⟩ = some (.pointer (some ⟨l.B.s, 0, none⟩)) ∧ w'.cell? ⟨l.gb, 2, none⟩ = some (.pointer (some ⟨l.wd, 0, none⟩)) ∧ w'.cell? ⟨w.heap.size, 1, none⟩ = some (.int .i64 nn)) (go_keep)
    ((go_at_call 23; refine RV.out.mono ?_; intro e w1 hp; obtain ⟨a1, x1, rfl⟩ := hp.form; have P1 := hid hp; have HB1N := hid (((Only.refl [] W).drew.below (fun _ h => by cases h) H.out.loN).trans (hp.only.below (fun k hk => H.out.lo 2 k (H.out.in2 hk)) H.out.drew.loN)); obtain ⟨d1, d2, d3⟩ := H.out.drew.docMoved hp.only; have D1 := hid (⟨d1, d3⟩ : _ ∧ _); have hbx1 := hp.only.blk ((Only.refl [] W).drew.blk HBX.out (by simp)) (fun hm => Nat.lt_irrefl _ (HSEP.out 2 _ (gF_mem.2 (Or.inr (Or.inr (Or.inl ⟨rfl, hm⟩)))))); have HBX1 := hid hbx1; have q1 : w1.cell? ⟨l.gb, 1, none⟩ = some (.pointer (some ⟨l.B.s, 0, none⟩)) := d2.cell 1; have q2 : w1.cell? ⟨l.gb, 2, none⟩ = some (.pointer (some ⟨l.wd, 0, none⟩)) := d2.cell 2; have q3 : w1.cell? ⟨w.heap.size, 1, none⟩ = some (.int .i64 nn) := hbx1.cell 1; clear hp hbx1 d1 d2 d3))
  clear y1 y2 z0 z1 z2 z3
  have WV0 := (WRsv_r N l.wd _ g.cs g.ls l.vC l.vL c n w1.drew (D1.out.1.bel (show Below w1.heap.size w1 w1.drew from ⟨rfl, rfl, rfl, Nat.le_refl _, fun _ _ => rfl⟩)) D1.out.2 HC.out (by have := H.out.fewT.2; omega) H.out.al.cl.symm H.out.work.hn.2)
  rw [← HNN.out] at WV0
  have WV := hid WV0
  clear WV0
  have i1 : IntKind.u64.wrap 0 = 0 := rfl
  go_upto_region 5 with fail
  go_region_held3 (fun w' => w'.cell? ⟨l.gb, 1, none⟩ = some (.pointer (some ⟨l.B.s, 0, none⟩)) ∧ w'.cell? ⟨l.gb, 2, none⟩ = some (.pointer (some ⟨l.wd, 0, none⟩)) ∧ w'.cell? ⟨w.heap.size, 1, none⟩ = some (.int .i64 nn)) (go_keep)
    ((go_at_call 24; refine WV.out.mono ?_; intro e w2 hp2; have HBL := hid ((HB1N.out.trans ((Only.refl [] w1).drew.below (fun _ h => by cases h) D1.out.2)).trans (hp2.only.below (fun y hy => by (rcases List.mem_cons.1 hy with rfl | hy; exact H.out.wo.lo; exact own_base H.out.wo.rc y (by simpa using hy))) D1.out.2)); obtain ⟨a, x, t1, rfl, A', V', cs', ls', vL', hg, hrd, hrw⟩ := H.out.drew.reserved HC.out (P1.out.thenO (Only.refl [] w1).drew) hp2; obtain ⟨rfl, rfl⟩ := ret2_inj t1; have HG := hid hg.up; have HD := hid (Did.rsv c a1 x1 A' cs' ls' HK.out HNN.out HC.out hrw hrd : Did n kd nn aa cc g _); have hbx2 := hp2.only.blk ((Only.refl [] w1).drew.blk HBX1.out (by simp)) (fun hm => Nat.lt_irrefl _ (HSEP.out 3 _ (gF_mem.2 (Or.inr (Or.inr (Or.inr (Or.inl ⟨rfl, (show w.heap.size = l.wd ∨ l.vC.ownBlock = some w.heap.size from by simpa using hm).imp id Or.inl⟩))))))); have q4 : w2.cell? ⟨l.gb, 1, none⟩ = some (.pointer (some ⟨l.B.s, 0, none⟩)) := hg.gblk.cell 1; have q5 : w2.cell? ⟨l.gb, 2, none⟩ = some (.pointer (some ⟨l.wd, 0, none⟩)) := hg.gblk.cell 2; have q6 : w2.cell? ⟨w.heap.size, 1, none⟩ = some (.int .i64 nn) := hbx2.cell 1; clear hp2 hg hrd hrw t1 hbx2))
  clear q1 q2 q3 q4 q5 q6
  have y1 : w2.cell? ⟨l.gb, 1, none⟩ = some (.pointer (some ⟨l.B.s, 0, none⟩)) := by exact HG.out.gblk.cell 1
  have y2 : w2.cell? ⟨l.gb, 2, none⟩ = some (.pointer (some ⟨l.wd, 0, none⟩)) := by exact HG.out.gblk.cell 2
  have SM := hid (same_z _ _ _ _ _ _ _ _ _ _ _ _ w2.drew HG.out.drew.both)
  go_upto_region 26 with fail
  refine wp_region_still_tail 10 (by kernel_rfl) (by kernel_rfl) ?_
  simp only [List.take_succ_cons, List.take_zero, List.drop_succ_cons, List.drop_zero]
  repeat still_step
  refine wpStill_nil ?_
  change wpList _ _ _ _ _ w2.drew
  have HWD := hid (show Only [] w2 w2.drew from (Only.refl [] w2).drew)
  generalize w2.drew = w8 at SM HWD ⊢
  go_wp2_with fail
  with_reducible refine SM.out.mono ?_
  rintro e w9 ⟨rfl, hb9⟩
  have HB9 := hid hb9
  clear hb9
  go_wp2
  go_ret
  exact ⟨rfl, _, _, ((HG.out.only0 HWD.out).bel HB9.out), HD.out, rfl, (HBW.out.trans HBL.out).trans ((HWD.out.below (fun _ h => by cases h) HG.out.loN).trans (HB9.out.mono (Nat.le_trans HG.out.loN HWD.out.size)))⟩

end Go.Proofs.YtbkaemajjaiklaaGreat
