/- What a site is made of: questions of blocks, of a memory, of none; locks; a site. -/
import Derived.Test.YtbkaemajjaiklaaGreatSlabD
import Derived.Test.YtbkaemajjaiklaaGreatRGeo
import Derived.Test.YtbkaemajjaiklaaGreatPmX
namespace Go.Proofs.YtbkaemajjaiklaaGreat
open Go.RowKit
set_option linter.unusedVariables false
set_option linter.unusedSimpArgs false

/-- blocks with n slabs, or none -/
def HasSlabs (w : World) (v : Value) (n : Nat) : Prop := (v = .pointer none ∧ n = 0) ∨ ∃ (s : Nat) (g : Option Addr), v = .pointer (some ⟨s, 0, none⟩) ∧ 1 ≤ n ∧ n ≤ 64 ∧ s < w.heap.size ∧ w.cell? ⟨s, 1, none⟩ = some (.slice g (1 + n) (1 + n))
theorem HasSlabs.bel {w w' : World} {v : Value} {n : Nat} (h : HasSlabs w v n) (hb : Below w.heap.size w w') : HasSlabs w' v n := by
  rcases h with h | ⟨s, g, h1, h2, h3, h4, h5⟩
  · exact Or.inl h
  · exact Or.inr ⟨s, g, h1, h2, h3, Nat.lt_of_lt_of_le h4 hb.size, (hb.cell (p := ⟨s, 1, none⟩) h4).trans h5⟩
theorem HasSlabs.of {w : World} {N : Nat} {B : SB} {V : Nat → Value} {size : Int} {A : SA} {n : Nat} (h : SlabIs w N B V size A) (hl : A.hd.length = 1 + n) (hn : 1 ≤ n ∧ n ≤ 64) : HasSlabs w (.pointer (some ⟨B.s, 0, none⟩)) n :=
  Or.inr ⟨B.s, _, rfl, hn.1, hn.2, h.st.lt, by have := h.ch; rw [hl] at this; exact this⟩

theorem sthere_z (v : Value) (n : Nat) (w : World) (h : HasSlabs w v n) :
    Calls Tryz.prog 60 #[v] w fun e w' => e = .returned (.bool (decide (0 < n))) ∧ w = w' := by
  rcases h with ⟨rfl, rfl⟩ | ⟨s, g, rfl, h1, h2, h3, h4⟩
  · go_enter Tryz.func60, Tryz.ntmps60
    go_wp2
    go_ret
    exact ⟨by simp, rfl⟩
  · obtain ⟨q, hq⟩ : ∃ q, q = 1 + n := ⟨_, rfl⟩
    rw [← hq] at h4
    have i1 : (q : Int) > 0 := by omega
    have hd : decide (0 < n) = true := decide_eq_true (by omega)
    rw [hd]
    have i3 : 0 < q := by omega
    clear hq hd h2
    go_enter Tryz.func60, Tryz.ntmps60
    go_wp2
    go_ret
    exact ⟨by simp [i3], rfl⟩
theorem Slabs_s (v : Value) (n : Nat) (w : World) (h : HasSlabs w v n) :
    Calls Tryz.prog 59 #[v] w fun e w' => e = .returned (.int .i64 (n : Int)) ∧ w = w' := by
  have hT := hid (sthere_z v n w h)
  rcases h with ⟨rfl, rfl⟩ | ⟨s, g, rfl, h1, h2, h3, h4⟩
  · go_enter Tryz.func59, Tryz.ntmps59
    go_wp2_with fail
    refine (hT.out).mono ?_
    rintro e w1 ⟨rfl, rfl⟩
    go_wp2
    go_ret
    exact ⟨by simp, rfl⟩
  · obtain ⟨q, hq⟩ : ∃ q, q = 1 + n := ⟨_, rfl⟩
    rw [← hq] at h4
    have e1 : (q : Int) - 1 = (n : Int) := by omega
    have j1 : (n : Int) ≤ 64 := by omega
    have j0 : (0 : Int) ≤ (n : Int) := by omega
    have hd : decide (0 < n) = true := decide_eq_true (by omega)
    rw [hd] at hT
    clear hq hd h2
    go_enter Tryz.func59, Tryz.ntmps59
    go_wp2_with fail
    refine (hT.out).mono ?_
    rintro e w1 ⟨rfl, rfl⟩
    go_wp2
    go_ret
    exact ⟨rfl, rfl⟩

/-- a memory of z bytes, or none -/
def HasMem (w : World) (v : Value) (z : Nat) : Prop := (v = .pointer none ∧ z = 0) ∨ ∃ (m : Nat) (B : MB) (n : Nat) (s : St4), v = .pointer (some ⟨m, 0, none⟩) ∧ 0 < n ∧ n ≤ 131072 ∧ z = 8 * n ∧ Blk w m 133 (memC B n s)
theorem HasMem.bel {w w' : World} {v : Value} {z : Nat} (h : HasMem w v z) (hb : Below w.heap.size w w') : HasMem w' v z := by
  rcases h with h | ⟨m, B, n, s, h1, h2, h3, h4, h5⟩
  · exact Or.inl h
  · exact Or.inr ⟨m, B, n, s, h1, h2, h3, h4, h5.bel hb⟩
theorem mthere_nil (w : World) : Calls Tryz.prog 75 #[.pointer none] w fun e w' => e = .returned (.bool false) ∧ w = w' := by
  go_enter Tryz.func75, Tryz.ntmps75
  go_wp2
  go_ret
  exact ⟨rfl, rfl⟩
theorem MSize_z (v : Value) (z : Nat) (w : World) (h : HasMem w v z) :
    Calls Tryz.prog 84 #[v] w fun e w' => e = .returned (.int .i64 (z : Int)) ∧ w = w' := by
  rcases h with ⟨rfl, rfl⟩ | ⟨m, B, n, s, rfl, h1, h2, rfl, h3⟩
  · go_enter Tryz.func84, Tryz.ntmps84
    go_wp2_with fail
    refine (mthere_nil _).mono ?_
    rintro e w1 ⟨rfl, rfl⟩
    go_wp2
    go_ret
    exact ⟨by simp, rfl⟩
  · exact Size_m m B n s h1 h2 w h3

set_option maxRecDepth 100000 in
set_option maxHeartbeats 1000000 in
theorem LNew_z (c : Int) (hc : 1 ≤ c ∧ c ≤ 64) (w : World) :
    Calls Tryz.prog 85 #[.int .i64 c] w fun e w' => e = .returned (.tuple #[.pointer (some ⟨w.heap.size + 1, 0, none⟩), .int .i64 0]) ∧ w'.cell? ⟨w.heap.size + 1, 0, none⟩ = some (.int .i64 c) ∧ w.heap.size + 1 < w'.heap.size ∧ Below w.heap.size w w' := by
  have i1 : ¬ c < 1 := by omega
  have i2 : ¬ c > 64 := by omega
  have hmm : ∀ w, (Instr.makeMap 91 none).run Tryz.prog w = .ok (.map (some w.heap.size)) (w.alloc (.map #[] 0)) := fun _ => rfl
  clear hc
  go_enter Tryz.func85, Tryz.ntmps85
  go_wp2
  go_ret2
  refine ⟨rfl, ?_, by simp, by (repeat (first | exact Below.refl _ _ | (refine ba ?_ _) | (refine Below.drew ?_) | (refine below_drewN ?_ _) | (refine Below.alloc ?_ (by first | omega | (simp; done) | (simp; omega)) _) | (refine Below.setCell ?_ (by first | omega | (simp; done) | (simp; omega)) _) | (refine bx ?_ (by assumption)) | (refine Below.trans ?_ (Below.mono (by assumption) (by first | omega | (simp; done) | (simp; omega))))))⟩
  have := (Blk.new (w.alloc (.map #[] 0)) 197 ((Tryz.zeroCells197.setIfInBounds 0 (Value.int IntKind.i64 c)).setIfInBounds 1 (Value.map (some w.heap.size)))).cell 0
  simp only [World.size_alloc] at this
  refine this.trans ?_
  have hz : 0 < Tryz.zeroCells197.size := by decide +kernel
  rw [Array.getElem?_setIfInBounds, if_neg (by omega), Array.getElem?_setIfInBounds, if_pos rfl, if_pos hz]
theorem LNew_no (c : Int) (hc : ¬ (1 ≤ c ∧ c ≤ 64)) (w : World) :
    Calls Tryz.prog 85 #[.int .i64 c] w fun e w' => e = .returned (.tuple #[.pointer none, .int .i64 2]) ∧ w = w' := by
  by_cases i1 : c < 1
  · clear hc
    go_enter Tryz.func85, Tryz.ntmps85
    go_wp2
    go_ret2
    exact ⟨rfl, rfl⟩
  · have i2 : c > 64 := by omega
    clear hc
    go_enter Tryz.func85, Tryz.ntmps85
    go_wp2
    go_ret2
    exact ⟨rfl, rfl⟩

/-- what a new site is -/
structure SiteAt (w : World) (x : Nat) (mv sv : Value) (t : Nat) (c : Int) : Prop where
  blk : Blk w x 154 #[mv, sv, .pointer (some ⟨t, 0, none⟩)]
  tab : w.cell? ⟨t, 0, none⟩ = some (.int .i64 c)
  tlt : t < w.heap.size
  pos : 1 ≤ c ∧ c ≤ 64
def siteE (z n : Nat) (c : Int) : Int := if z = 0 ∨ n = 0 then 1 else if ¬ (1 ≤ c ∧ c ≤ 64) ∨ z ≠ 1024 * (1 + n) then 2 else 0

set_option maxRecDepth 100000 in
set_option maxHeartbeats 1000000 in
theorem SNew_z (ma sa : Option Addr) (z n : Nat) (c : Int) (hn : n ≤ 64) (w : World) (hm : HasMem w (.pointer ma) z) (hs : HasSlabs w (.pointer sa) n) :
    Calls Tryz.prog 33 #[(.pointer ma), (.pointer sa), .int .i64 c] w fun e w' => Below w.heap.size w w' ∧ ((siteE z n c ≠ 0 ∧ e = .returned (.tuple #[.pointer none, .int .i64 (siteE z n c)])) ∨ (siteE z n c = 0 ∧ ∃ x t, e = .returned (.tuple #[.pointer (some ⟨x, 0, none⟩), .int .i64 0]) ∧ SiteAt w' x (.pointer ma) (.pointer sa) t c ∧ w.heap.size ≤ x)) := by
  have HM := hid hm
  have HS := hid hs
  clear hm hs
  by_cases hz : z = 0
  · have he : Hid (siteE z n c = 1) := by show _ = _; unfold siteE; rw [if_pos (Or.inl hz)]
    have t0 : ((z : Int) == 0) = true := by rw [hz]; rfl
    have HZ := hid hz
    clear hz
    go_enter Tryz.func33, Tryz.ntmps33
    go_wp2_with fail
    refine (MSize_z (.pointer ma) z w HM.out).mono ?_
    rintro e w1 ⟨rfl, rfl⟩
    go_wp2
    go_ret2
    exact ⟨Below.refl _ _, Or.inl ⟨by rw [he.out]; decide, by rw [he.out]; rfl⟩⟩
  · by_cases hn0 : n = 0
    · have he : Hid (siteE z n c = 1) := by show _ = _; unfold siteE; rw [if_pos (Or.inr hn0)]
      have t0 : ((z : Int) == 0) = false := by simp; omega
      have t1 : ((n : Int) == 0) = true := by rw [hn0]; rfl
      clear hz hn0
      go_enter Tryz.func33, Tryz.ntmps33
      go_wp2_with fail
      refine (MSize_z (.pointer ma) z w HM.out).mono ?_
      rintro e w1 ⟨rfl, rfl⟩
      go_wp2_with fail
      refine (Slabs_s (.pointer sa) n w HS.out).mono ?_
      rintro e w1 ⟨rfl, rfl⟩
      go_wp2
      go_ret2
      exact ⟨Below.refl _ _, Or.inl ⟨by rw [he.out]; decide, by rw [he.out]; rfl⟩⟩
    · have t0 : ((z : Int) == 0) = false := by simp; omega
      have t1 : ((n : Int) == 0) = false := by simp; omega
      by_cases hc : 1 ≤ c ∧ c ≤ 64
      · have HC := hid hc
        have hsz : sizeZ (n : Int) = ((1024 * (1 + n) : Nat) : Int) := by unfold sizeZ; rw [if_pos (by omega)]; omega
        have hSize := Size_z (n : Int)
        rw [hsz] at hSize
        obtain ⟨q, hq⟩ : ∃ q, q = 1024 * (1 + n) := ⟨_, rfl⟩
        rw [← hq] at hSize
        have HSZ := hid hSize
        by_cases hzq : z = q
        · have he : Hid (siteE z n c = 0) := by show _ = _; unfold siteE; rw [if_neg (by omega), if_neg (by rw [← hq]; simp [hc, hzq])]
          have t2 : ((z : Int) != (q : Int)) = false := by rw [hzq]; simp
          clear hz hn0 hzq hsz hSize hq hc
          go_enter Tryz.func33, Tryz.ntmps33
          go_wp2_with fail
          refine (MSize_z (.pointer ma) z w HM.out).mono ?_
          rintro e w1 ⟨rfl, rfl⟩
          go_wp2_with fail
          refine (Slabs_s (.pointer sa) n w HS.out).mono ?_
          rintro e w1 ⟨rfl, rfl⟩
          go_wp2_with fail
          refine (LNew_z c HC.out w).mono ?_
          rintro e w2 ⟨rfl, ht, htl, hb⟩
          have HM2 := hid (HM.out.bel hb)
          have HS2 := hid (HS.out.bel hb)
          have HB := hid hb
          have HT := hid ht
          have HTL := hid htl
          obtain ⟨t, hte⟩ : ∃ t, t = w.heap.size + 1 := ⟨_, rfl⟩
          rw [← hte] at HT HTL
          rw [← hte]
          clear hb ht htl hte
          go_wp2_with fail
          refine (MSize_z (.pointer ma) z w2 HM2.out).mono ?_
          rintro e w1 ⟨rfl, rfl⟩
          go_wp2_with fail
          refine (Slabs_s (.pointer sa) n w2 HS2.out).mono ?_
          rintro e w1 ⟨rfl, rfl⟩
          go_wp2_with fail
          refine (HSZ.out w2).mono ?_
          rintro e w1 ⟨rfl, rfl⟩
          go_wp2
          go_ret2
          have hal : Below w2.heap.size w2 (w2.alloc (.cells #[(.pointer ma), (.pointer sa), .pointer (some ⟨t, 0, none⟩)] 154)) := ba (Below.refl _ _) _
          refine ⟨bx HB.out hal, Or.inr ⟨he.out, w2.heap.size, t, rfl, ⟨Blk.new w2 _ _, (hal.cell (p := ⟨t, 0, none⟩) HTL.out).trans HT.out, Nat.lt_of_lt_of_le HTL.out hal.size, HC.out⟩, HB.out.size⟩⟩
        · have he : Hid (siteE z n c = 2) := by show _ = _; unfold siteE; rw [if_neg (by omega), if_pos (Or.inr (by rw [← hq]; exact hzq))]
          have t2 : ((z : Int) != (q : Int)) = true := by simp; omega
          clear hz hn0 hzq hsz hSize hq hc
          go_enter Tryz.func33, Tryz.ntmps33
          go_wp2_with fail
          refine (MSize_z (.pointer ma) z w HM.out).mono ?_
          rintro e w1 ⟨rfl, rfl⟩
          go_wp2_with fail
          refine (Slabs_s (.pointer sa) n w HS.out).mono ?_
          rintro e w1 ⟨rfl, rfl⟩
          go_wp2_with fail
          refine (LNew_z c HC.out w).mono ?_
          rintro e w2 ⟨rfl, ht, htl, hb⟩
          have HM2 := hid (HM.out.bel hb)
          have HS2 := hid (HS.out.bel hb)
          have HB := hid hb
          clear hb ht htl
          go_wp2_with fail
          refine (MSize_z (.pointer ma) z w2 HM2.out).mono ?_
          rintro e w1 ⟨rfl, rfl⟩
          go_wp2_with fail
          refine (Slabs_s (.pointer sa) n w2 HS2.out).mono ?_
          rintro e w1 ⟨rfl, rfl⟩
          go_wp2_with fail
          refine (HSZ.out w2).mono ?_
          rintro e w1 ⟨rfl, rfl⟩
          go_wp2
          go_ret2
          exact ⟨HB.out, Or.inl ⟨by rw [he.out]; decide, by rw [he.out]; rfl⟩⟩
      · have he : Hid (siteE z n c = 2) := by show _ = _; unfold siteE; rw [if_neg (by omega), if_pos (Or.inl hc)]
        have HC := hid hc
        clear hz hn0 hc
        go_enter Tryz.func33, Tryz.ntmps33
        go_wp2_with fail
        refine (MSize_z (.pointer ma) z w HM.out).mono ?_
        rintro e w1 ⟨rfl, rfl⟩
        go_wp2_with fail
        refine (Slabs_s (.pointer sa) n w HS.out).mono ?_
        rintro e w1 ⟨rfl, rfl⟩
        go_wp2_with fail
        refine (LNew_no c HC.out w).mono ?_
        rintro e w1 ⟨rfl, rfl⟩
        go_wp2
        go_ret2
        exact ⟨Below.refl _ _, Or.inl ⟨by rw [he.out]; decide, by rw [he.out]; rfl⟩⟩

theorem XMem_z (x t : Nat) (mv sv : Value) (c : Int) (w : World) (h : SiteAt w x mv sv t c) : Calls Tryz.prog 34 #[.pointer (some ⟨x, 0, none⟩)] w fun e w' => e = .returned mv ∧ w = w' := by
  have y0 := h.blk.cell 0
  clear h
  go_enter Tryz.func34, Tryz.ntmps34
  go_wp2
  go_ret
  exact ⟨rfl, rfl⟩
theorem XSlab_z (x t : Nat) (mv sv : Value) (c : Int) (w : World) (h : SiteAt w x mv sv t c) : Calls Tryz.prog 35 #[.pointer (some ⟨x, 0, none⟩)] w fun e w' => e = .returned sv ∧ w = w' := by
  have y0 := h.blk.cell 1
  clear h
  go_enter Tryz.func35, Tryz.ntmps35
  go_wp2
  go_ret
  exact ⟨rfl, rfl⟩

end Go.Proofs.YtbkaemajjaiklaaGreat
