/- SiteMakes: the walk. -/
import Derived.Test.YtbkaemajjaiklaaSiteA
import Derived.Test.YtbkaemajjaiklaaSwD
import Derived.LaidEqlPtr
namespace Go.Proofs.Ytbkaemajjaiklaa
open Go.RowKit
set_option linter.unusedVariables false
set_option linter.unusedSimpArgs false

theorem slabs_of {q rm : Nat} (hq : 1 ≤ q ∧ q ≤ 20) (hr : rm = 1024 + 1024 * q) : slabsZ (rm : Int) = (q : Int) := by
  unfold slabsZ; rw [if_pos (by omega)]; omega
theorem ref_pq (p q : Nat) (c : Int) (sz rm : Nat) (hp : 1 ≤ p ∧ p ≤ 20) (hq : 1 ≤ q ∧ q ≤ 20) (hs : sz = 1024 + 1024 * p) (hr : rm = 1024 + 1024 * q) : refE (sz : Int) (rm : Int) c = siteE sz q c := by
  have h1 := slabs_of hq hr
  have a1 : ¬ ((sz : Int) = 0 ∨ slabsZ (rm : Int) = 0) := by rw [h1]; omega
  have a2 : ¬ (sz = 0 ∨ q = 0) := by omega
  have a3 : (¬ (1 ≤ c ∧ c ≤ 64) ∨ (sz : Int) ≠ (rm : Int)) ↔ (¬ (1 ≤ c ∧ c ≤ 64) ∨ sz ≠ 1024 * (1 + q)) := by
    constructor
    · rintro (h | h)
      · exact Or.inl h
      · exact Or.inr (by omega)
    · rintro (h | h)
      · exact Or.inl h
      · exact Or.inr (by omega)
  unfold refE siteE
  rw [if_neg a1, if_neg a2]
  simp only [a3]
theorem ref_p0 (sz : Nat) (c : Int) : refE (sz : Int) 0 c = siteE sz 0 c := by
  unfold refE siteE
  rw [if_pos (Or.inr (by decide)), if_pos (Or.inr rfl)]
theorem ref_0q (q rm : Nat) (c : Int) : refE 0 (rm : Int) c = siteE 0 q c := by
  unfold refE siteE
  rw [if_pos (Or.inl rfl), if_pos (Or.inl rfl)]
theorem ref_00 (c : Int) : refE 0 0 c = siteE 0 0 c := by
  unfold refE siteE
  rw [if_pos (Or.inl rfl), if_pos (Or.inl rfl)]
theorem ptr_same {tp te : TypeId} (a : Addr) (hp : Try.prog.underlying tp = some (.pointer te)) (hte : (Try.prog.info? te).isSome = true) (w : World) : (binOp .eql tp (.pointer (some a)) (.pointer (some a))).run Try.prog w = .ok (.bool true) w := by
  obtain ⟨j, hj⟩ := Option.isSome_iff_exists.1 hte
  exact run_eql_ptr_same w a hp hj
theorem ptr_same_m (a : Addr) (w : World) : (binOp .eql 23 (.pointer (some a)) (.pointer (some a))).run Try.prog w = .ok (.bool true) w := ptr_same a Try.underlying23 (by kernel_rfl) w
theorem ptr_same_s (a : Addr) (w : World) : (binOp .eql 24 (.pointer (some a)) (.pointer (some a))).run Try.prog w = .ok (.bool true) w := ptr_same a Try.underlying24 (by kernel_rfl) w
theorem ptr_same_l (a : Addr) (w : World) : (binOp .eql 38 (.pointer (some a)) (.pointer (some a))).run Try.prog w = .ok (.bool true) w := ptr_same a Try.underlying38 (by kernel_rfl) w
theorem zero_heads (n i m : Nat) : headOK (List.replicate m 0) i = true := by
  have h : ∀ k, (leW (((List.replicate m (0 : Int)).drop k).take 8)).toNat = 0 := fun k => by
    rw [List.drop_replicate, List.take_replicate, leW_zeros]; rfl
  unfold headOK clsAt bitAt
  rw [h, h]
  decide +kernel
/-- a memory of noughts -/
theorem NewM_h (p sz : Nat) (hp : 1 ≤ p ∧ p ≤ 20) (hs : sz = 1024 + 1024 * p) (w : World) :
    Calls Try.prog 7 #[.int .i64 (sz : Int)] w fun e W' => ∃ m, e = .returned (.tuple #[.pointer (some ⟨m, 0, none⟩), .int .i64 0]) ∧ HasMem W' (.pointer (some ⟨m, 0, none⟩)) sz ∧ Below w.heap.size w W' := by
  refine (New_m sz (by unfold mayB; exact decide_eq_true (by omega)) w).mono ?_
  rintro e W' ⟨m, B, rfl, hm, hb, _⟩
  refine ⟨m, rfl, Or.inr ⟨m, B, _, _, rfl, hm.pos, hm.big, ?_, hm.blk⟩, hb⟩
  show sz = 8 * (List.replicate (sz / 8) (0 : Int)).length
  rw [List.length_replicate]; omega
/-- blocks of an image of noughts -/
theorem NewS_h (q rm : Nat) (hq : 1 ≤ q ∧ q ≤ 20) (hr : rm = 1024 + 1024 * q) (w : World) (a : Option Addr) (h : BytesIn w a rm (List.replicate rm 0)) :
    Calls Try.prog 8 #[.slice a rm rm] w fun e W' => ∃ s, e = .returned (.tuple #[.pointer (some ⟨s, 0, none⟩), .int .i64 0]) ∧ HasSlabs W' (.pointer (some ⟨s, 0, none⟩)) q ∧ Below w.heap.size w W' := by
  have hl : (List.replicate rm (0 : Int)).length = rm := List.length_replicate
  have h1 := callsIn_wide.1 (SOf_in a rm (List.replicate rm 0) q (by omega) (by rw [hl]; omega) w h)
  rw [hl] at h1
  refine h1.mono ?_
  rintro e W' h2
  obtain ⟨B, V, rfl, h3⟩ := h2.yes (fun i _ _ => zero_heads q i rm)
  exact ⟨B.s, rfl, HasSlabs.of h3 (ofTo_hd _ _ _) (by omega), h2.bel⟩

set_option maxRecDepth 100000 in
set_option maxHeartbeats 4000000 in
theorem SiteMakes_z (a b c : Int) (w : World) (a1 : -9223372036854775808 ≤ a) (a2 : a ≤ 9223372036854775807) (b1 : -9223372036854775808 ≤ b) (b2 : b ≤ 9223372036854775807) (c1 : -9223372036854775808 ≤ c) (c2 : c ≤ 9223372036854775807) :
    Calls Try.prog 3 #[.int .i64 a, .int .i64 b, .int .i64 c] w fun e w' => e = .returned (.bool true) ∧ Below w.heap.size w w' := by
  by_cases i2 : a < 0
  · go_enter Try.func3, Try.ntmps3
    go_wp2_with fail
    refine (known_z13 _).mono ?_
    rintro e w2 ⟨rfl, hb⟩
    have HB := hid hb
    clear hb
    go_wp2
    go_ret
    exact ⟨rfl, HB.out⟩
  · skip
    by_cases i4 : a > 20
    · go_enter Try.func3, Try.ntmps3
      go_wp2_with fail
      refine (known_z13 _).mono ?_
      rintro e w2 ⟨rfl, hb⟩
      have HB := hid hb
      clear hb
      go_wp2
      go_ret
      exact ⟨rfl, HB.out⟩
    · skip
      by_cases i6 : b < 0
      · go_enter Try.func3, Try.ntmps3
        go_wp2_with fail
        refine (known_z13 _).mono ?_
        rintro e w2 ⟨rfl, hb⟩
        have HB := hid hb
        clear hb
        go_wp2
        go_ret
        exact ⟨rfl, HB.out⟩
      · skip
        by_cases i8 : b > 20
        · go_enter Try.func3, Try.ntmps3
          go_wp2_with fail
          refine (known_z13 _).mono ?_
          rintro e w2 ⟨rfl, hb⟩
          have HB := hid hb
          clear hb
          go_wp2
          go_ret
          exact ⟨rfl, HB.out⟩
        · skip
          obtain ⟨p, rfl⟩ : ∃ p : Nat, a = (p : Int) := ⟨a.toNat, by omega⟩
          obtain ⟨q, rfl⟩ : ∃ q : Nat, b = (q : Int) := ⟨b.toNat, by omega⟩
          obtain ⟨sz, hsz⟩ : ∃ sz, sz = 1024 + 1024 * p := ⟨_, rfl⟩
          obtain ⟨rm, hrm⟩ : ∃ rm, rm = 1024 + 1024 * q := ⟨_, rfl⟩
          have e1 : (1024 : Int) + 1024 * (p : Int) = (sz : Int) := by omega
          have e2 : (1024 : Int) + 1024 * (q : Int) = (rm : Int) := by omega
          have s1 : (sz : Int) ≤ 21504 := by omega
          have s2 : (rm : Int) ≤ 21504 := by omega
          have m1 : 1024 * (p : Int) ≤ 20480 := by omega
          have m2 : 1024 * (q : Int) ≤ 20480 := by omega
          have HSZ := hid hsz
          have HRM := hid hrm
          have hmk : 0 < q → _ := fun _ => run_make_row' (P := Try.prog) 30 5 (.int .u8 0) 1 Try.underlying30 (by kernel_rfl) rfl .i64 .i64 rm (by omega) (by omega)
          clear hsz hrm
          by_cases hp : (p : Int) > 0
          · by_cases hq : (q : Int) > 0
            · go_enter Try.func3, Try.ntmps3
              go_wp2_with fail
              refine (NewM_h p sz (by omega) HSZ.out w).mono ?_
              rintro e w1 ⟨m, rfl, hm, hb1⟩
              have HM0 := hid hm
              have HB0 := hid hb1
              clear hm hb1
              have hmk2 := hmk (by omega)
              clear hmk
              go_wp2_with fail
              have hz := zeros_in w1 rm 5 (by have := HRM.out; omega)
              rw [made_zeros]
              refine (NewS_h q rm (by omega) HRM.out _ _ hz).mono ?_
              rintro e w3 ⟨s, rfl, hs, hb3⟩
              have hal : Below w1.heap.size w1 (w1.alloc (.cells (Array.replicate rm (.int .u8 0)) 5)) := ba (Below.refl _ _) _
              have hb4 := hal.trans (hb3.mono hal.size)
              have HM := hid (HM0.out.bel hb4)
              have HS := hid hs
              have HB := hid (HB0.out.trans (hb4.mono HB0.out.size))
              clear hz hs hb3 hal hb4 hmk2
              have hR := RNew_z ((sz : Int)) ((rm : Int)) c
              rw [show refE ((sz : Int)) ((rm : Int)) c = siteE sz q c from ref_pq p q c sz rm (by omega) (by omega) HSZ.out HRM.out] at hR
              have HR := hid hR
              clear hR
              go_wp2_with fail
              refine (SNew_z (some ⟨m, 0, none⟩) (some ⟨s, 0, none⟩) sz q c (by omega) _ HM.out HS.out).mono ?_
              rintro e w5 ⟨hb5, h5⟩
              have HB5 := hid (HB.out.trans (hb5.mono HB.out.size))
              rcases h5 with ⟨hne, rfl⟩ | ⟨heq, x, t, rfl, hx, hlo⟩
              · have t0 : (siteE sz q c != 0) = true := by simp [hne]
                clear hne hb5
                go_wp2_with fail
                refine (HR.out w5).mono ?_
                rintro e w6 ⟨rfl, rfl⟩
                go_wp2_with fail
                refine (known_z13 w5).mono ?_
                rintro e w6 ⟨rfl, hb6⟩
                have HB6 := hid (HB5.out.trans (hb6.mono HB5.out.size))
                clear hb6
                go_wp2
                go_ret
                exact ⟨rfl, HB6.out⟩
              · rw [heq] at HR
                have pl := ptr_same_l ⟨t, 0, none⟩ w5
                have pm := ptr_same_m ⟨m, 0, none⟩ w5
                have ps := ptr_same_s ⟨s, 0, none⟩ w5
                have HX := hid hx
                have hpos := hx.pos
                have HLC := hid (LClients_z t c hx.pos w5 hx.tab)
                clear hx hb5 heq hpos
                go_wp2_with fail
                refine (HR.out w5).mono ?_
                rintro e w6 ⟨rfl, rfl⟩
                go_wp2_with fail
                refine (XMem_z x t _ _ c w5 HX.out).mono ?_
                rintro e w6 ⟨rfl, rfl⟩
                go_wp2_with fail
                refine (XSlab_z x t _ _ c w5 HX.out).mono ?_
                rintro e w6 ⟨rfl, rfl⟩
                go_wp2_with fail
                refine (XClients_z x t _ _ c w5 HX.out).mono ?_
                rintro e w6 ⟨rfl, rfl⟩
                go_wp2_with fail
                refine (XLocks_z x t _ _ c w5 HX.out).mono ?_
                rintro e w6 ⟨rfl, rfl⟩
                go_wp2_with fail
                refine (XLocks_z x t _ _ c w5 HX.out).mono ?_
                rintro e w6 ⟨rfl, rfl⟩
                go_wp2_with fail
                refine HLC.out.mono ?_
                rintro e w6 ⟨rfl, rfl⟩
                go_wp2_with fail
                refine (XLocks_z x t _ _ c w5 HX.out).mono ?_
                rintro e w6 ⟨rfl, rfl⟩
                go_wp2_with fail
                refine (XLocks_z x t _ _ c w5 HX.out).mono ?_
                rintro e w6 ⟨rfl, rfl⟩
                go_wp2_with fail
                refine (known_z13 w5).mono ?_
                rintro e w6 ⟨rfl, hb6⟩
                have HB6 := hid (HB5.out.trans (hb6.mono HB5.out.size))
                clear hb6
                go_wp2
                go_ret
                exact ⟨rfl, HB6.out⟩
            · go_enter Try.func3, Try.ntmps3
              go_wp2_with fail
              refine (NewM_h p sz (by omega) HSZ.out w).mono ?_
              rintro e w1 ⟨m, rfl, hm, hb1⟩
              have HM0 := hid hm
              have HB0 := hid hb1
              clear hm hb1
              clear hmk
              have HM := HM0
              have HB := HB0
              have HS : Hid (HasSlabs w1 (.pointer none) 0) := Or.inl ⟨rfl, rfl⟩
              have hR := RNew_z ((sz : Int)) (0) c
              rw [show refE ((sz : Int)) (0) c = siteE sz 0 c from ref_p0 sz c] at hR
              have HR := hid hR
              clear hR
              go_wp2_with fail
              refine (SNew_z (some ⟨m, 0, none⟩) (none) sz 0 c (by omega) _ HM.out HS.out).mono ?_
              rintro e w5 ⟨hb5, h5⟩
              have HB5 := hid (HB.out.trans (hb5.mono HB.out.size))
              rcases h5 with ⟨hne, rfl⟩ | ⟨heq, x, t, rfl, hx, hlo⟩
              · have t0 : (siteE sz 0 c != 0) = true := by simp [hne]
                clear hne hb5
                go_wp2_with fail
                refine (HR.out w5).mono ?_
                rintro e w6 ⟨rfl, rfl⟩
                go_wp2_with fail
                refine (known_z13 w5).mono ?_
                rintro e w6 ⟨rfl, hb6⟩
                have HB6 := hid (HB5.out.trans (hb6.mono HB5.out.size))
                clear hb6
                go_wp2
                go_ret
                exact ⟨rfl, HB6.out⟩
              · rw [heq] at HR
                have pl := ptr_same_l ⟨t, 0, none⟩ w5
                have pm := ptr_same_m ⟨m, 0, none⟩ w5
                have HX := hid hx
                have hpos := hx.pos
                have HLC := hid (LClients_z t c hx.pos w5 hx.tab)
                clear hx hb5 heq hpos
                go_wp2_with fail
                refine (HR.out w5).mono ?_
                rintro e w6 ⟨rfl, rfl⟩
                go_wp2_with fail
                refine (XMem_z x t _ _ c w5 HX.out).mono ?_
                rintro e w6 ⟨rfl, rfl⟩
                go_wp2_with fail
                refine (XSlab_z x t _ _ c w5 HX.out).mono ?_
                rintro e w6 ⟨rfl, rfl⟩
                go_wp2_with fail
                refine (XClients_z x t _ _ c w5 HX.out).mono ?_
                rintro e w6 ⟨rfl, rfl⟩
                go_wp2_with fail
                refine (XLocks_z x t _ _ c w5 HX.out).mono ?_
                rintro e w6 ⟨rfl, rfl⟩
                go_wp2_with fail
                refine (XLocks_z x t _ _ c w5 HX.out).mono ?_
                rintro e w6 ⟨rfl, rfl⟩
                go_wp2_with fail
                refine HLC.out.mono ?_
                rintro e w6 ⟨rfl, rfl⟩
                go_wp2_with fail
                refine (XLocks_z x t _ _ c w5 HX.out).mono ?_
                rintro e w6 ⟨rfl, rfl⟩
                go_wp2_with fail
                refine (XLocks_z x t _ _ c w5 HX.out).mono ?_
                rintro e w6 ⟨rfl, rfl⟩
                go_wp2_with fail
                refine (known_z13 w5).mono ?_
                rintro e w6 ⟨rfl, hb6⟩
                have HB6 := hid (HB5.out.trans (hb6.mono HB5.out.size))
                clear hb6
                go_wp2
                go_ret
                exact ⟨rfl, HB6.out⟩
          · by_cases hq : (q : Int) > 0
            · go_enter Try.func3, Try.ntmps3
              have hm : HasMem w (.pointer none) 0 := Or.inl ⟨rfl, rfl⟩
              have hb1 : Below w.heap.size w w := Below.refl _ _
              have HM0 := hid hm
              have HB0 := hid hb1
              clear hm hb1
              have hmk2 := hmk (by omega)
              clear hmk
              go_wp2_with fail
              have hz := zeros_in w rm 5 (by have := HRM.out; omega)
              rw [made_zeros]
              refine (NewS_h q rm (by omega) HRM.out _ _ hz).mono ?_
              rintro e w3 ⟨s, rfl, hs, hb3⟩
              have hal : Below w.heap.size w (w.alloc (.cells (Array.replicate rm (.int .u8 0)) 5)) := ba (Below.refl _ _) _
              have hb4 := hal.trans (hb3.mono hal.size)
              have HM := hid (HM0.out.bel hb4)
              have HS := hid hs
              have HB := hid (HB0.out.trans (hb4.mono HB0.out.size))
              clear hz hs hb3 hal hb4 hmk2
              have hR := RNew_z (0) ((rm : Int)) c
              rw [show refE (0) ((rm : Int)) c = siteE 0 q c from ref_0q q rm c] at hR
              have HR := hid hR
              clear hR
              go_wp2_with fail
              refine (SNew_z (none) (some ⟨s, 0, none⟩) 0 q c (by omega) _ HM.out HS.out).mono ?_
              rintro e w5 ⟨hb5, h5⟩
              have HB5 := hid (HB.out.trans (hb5.mono HB.out.size))
              rcases h5 with ⟨hne, rfl⟩ | ⟨heq, x, t, rfl, hx, hlo⟩
              · have t0 : (siteE 0 q c != 0) = true := by simp [hne]
                clear hne hb5
                go_wp2_with fail
                refine (HR.out w5).mono ?_
                rintro e w6 ⟨rfl, rfl⟩
                go_wp2_with fail
                refine (known_z13 w5).mono ?_
                rintro e w6 ⟨rfl, hb6⟩
                have HB6 := hid (HB5.out.trans (hb6.mono HB5.out.size))
                clear hb6
                go_wp2
                go_ret
                exact ⟨rfl, HB6.out⟩
              · rw [heq] at HR
                have pl := ptr_same_l ⟨t, 0, none⟩ w5
                have ps := ptr_same_s ⟨s, 0, none⟩ w5
                have HX := hid hx
                have hpos := hx.pos
                have HLC := hid (LClients_z t c hx.pos w5 hx.tab)
                clear hx hb5 heq hpos
                go_wp2_with fail
                refine (HR.out w5).mono ?_
                rintro e w6 ⟨rfl, rfl⟩
                go_wp2_with fail
                refine (XMem_z x t _ _ c w5 HX.out).mono ?_
                rintro e w6 ⟨rfl, rfl⟩
                go_wp2_with fail
                refine (XSlab_z x t _ _ c w5 HX.out).mono ?_
                rintro e w6 ⟨rfl, rfl⟩
                go_wp2_with fail
                refine (XClients_z x t _ _ c w5 HX.out).mono ?_
                rintro e w6 ⟨rfl, rfl⟩
                go_wp2_with fail
                refine (XLocks_z x t _ _ c w5 HX.out).mono ?_
                rintro e w6 ⟨rfl, rfl⟩
                go_wp2_with fail
                refine (XLocks_z x t _ _ c w5 HX.out).mono ?_
                rintro e w6 ⟨rfl, rfl⟩
                go_wp2_with fail
                refine HLC.out.mono ?_
                rintro e w6 ⟨rfl, rfl⟩
                go_wp2_with fail
                refine (XLocks_z x t _ _ c w5 HX.out).mono ?_
                rintro e w6 ⟨rfl, rfl⟩
                go_wp2_with fail
                refine (XLocks_z x t _ _ c w5 HX.out).mono ?_
                rintro e w6 ⟨rfl, rfl⟩
                go_wp2_with fail
                refine (known_z13 w5).mono ?_
                rintro e w6 ⟨rfl, hb6⟩
                have HB6 := hid (HB5.out.trans (hb6.mono HB5.out.size))
                clear hb6
                go_wp2
                go_ret
                exact ⟨rfl, HB6.out⟩
            · go_enter Try.func3, Try.ntmps3
              have hm : HasMem w (.pointer none) 0 := Or.inl ⟨rfl, rfl⟩
              have hb1 : Below w.heap.size w w := Below.refl _ _
              have HM0 := hid hm
              have HB0 := hid hb1
              clear hm hb1
              clear hmk
              have HM := HM0
              have HB := HB0
              have HS : Hid (HasSlabs w (.pointer none) 0) := Or.inl ⟨rfl, rfl⟩
              have hR := RNew_z (0) (0) c
              rw [show refE (0) (0) c = siteE 0 0 c from ref_00 c] at hR
              have HR := hid hR
              clear hR
              go_wp2_with fail
              refine (SNew_z (none) (none) 0 0 c (by omega) _ HM.out HS.out).mono ?_
              rintro e w5 ⟨hb5, h5⟩
              have HB5 := hid (HB.out.trans (hb5.mono HB.out.size))
              rcases h5 with ⟨hne, rfl⟩ | ⟨heq, x, t, rfl, hx, hlo⟩
              · have t0 : (siteE 0 0 c != 0) = true := by simp [hne]
                clear hne hb5
                go_wp2_with fail
                refine (HR.out w5).mono ?_
                rintro e w6 ⟨rfl, rfl⟩
                go_wp2_with fail
                refine (known_z13 w5).mono ?_
                rintro e w6 ⟨rfl, hb6⟩
                have HB6 := hid (HB5.out.trans (hb6.mono HB5.out.size))
                clear hb6
                go_wp2
                go_ret
                exact ⟨rfl, HB6.out⟩
              · rw [heq] at HR
                have pl := ptr_same_l ⟨t, 0, none⟩ w5
                have HX := hid hx
                have hpos := hx.pos
                have HLC := hid (LClients_z t c hx.pos w5 hx.tab)
                clear hx hb5 heq hpos
                go_wp2_with fail
                refine (HR.out w5).mono ?_
                rintro e w6 ⟨rfl, rfl⟩
                go_wp2_with fail
                refine (XMem_z x t _ _ c w5 HX.out).mono ?_
                rintro e w6 ⟨rfl, rfl⟩
                go_wp2_with fail
                refine (XSlab_z x t _ _ c w5 HX.out).mono ?_
                rintro e w6 ⟨rfl, rfl⟩
                go_wp2_with fail
                refine (XClients_z x t _ _ c w5 HX.out).mono ?_
                rintro e w6 ⟨rfl, rfl⟩
                go_wp2_with fail
                refine (XLocks_z x t _ _ c w5 HX.out).mono ?_
                rintro e w6 ⟨rfl, rfl⟩
                go_wp2_with fail
                refine (XLocks_z x t _ _ c w5 HX.out).mono ?_
                rintro e w6 ⟨rfl, rfl⟩
                go_wp2_with fail
                refine HLC.out.mono ?_
                rintro e w6 ⟨rfl, rfl⟩
                go_wp2_with fail
                refine (XLocks_z x t _ _ c w5 HX.out).mono ?_
                rintro e w6 ⟨rfl, rfl⟩
                go_wp2_with fail
                refine (XLocks_z x t _ _ c w5 HX.out).mono ?_
                rintro e w6 ⟨rfl, rfl⟩
                go_wp2_with fail
                refine (known_z13 w5).mono ?_
                rintro e w6 ⟨rfl, hb6⟩
                have HB6 := hid (HB5.out.trans (hb6.mono HB5.out.size))
                clear hb6
                go_wp2
                go_ret
                exact ⟨rfl, HB6.out⟩

end Go.Proofs.Ytbkaemajjaiklaa
