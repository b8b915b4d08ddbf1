/- SiteDrops: the walk. -/
import Derived.Test.YtbkaemajjaiklaaLockN
import Derived.Test.YtbkaemajjaiklaaLawSm
import Derived.Test.YtbkaemajjaiklaaInts

namespace Go.Proofs.Ytbkaemajjaiklaa
open Go.RowKit
set_option linter.unusedVariables false
set_option linter.unusedSimpArgs false

theorem isSet_len (has : List (Int × Int)) (a v : Int) : (isSet has a v).length ≤ has.length + 1 := by
  by_cases hm : a ∈ has.map (·.1)
  · obtain ⟨pre, u, post, p1, p2, p3, p4⟩ := is_split hm
    rw [p4 v, p1]; simp
  · rw [isSet_not hm]; simp
theorem tryHas_len (has : List (Int × Int)) (k a : Int) : (tryHas has k a).length ≤ has.length + 1 := by
  unfold tryHas
  split
  · omega
  · split
    · omega
    · exact isSet_len _ _ _
theorem tryHas_uniq {has : List (Int × Int)} (h : UniqA has) (k a : Int) : UniqA (tryHas has k a) := by
  unfold tryHas
  split
  · exact h
  · split
    · exact h
    · exact h.set _ _

/-- a site, its locks -/
structure SdIs (w0 w : World) (x t mb : Nat) (mv sv : Value) (c : Int) (has : List (Int × Int)) (ws : List Int) : Prop where
  site : SiteAt w x mv sv t c
  tab : TabIs w t mb c has ws
  bel : Below w0.heap.size w0 w
  far : w0.heap.size ≤ t ∧ w0.heap.size ≤ mb ∧ x ≠ t ∧ x ≠ mb
theorem SiteAt.only {w w' : World} {x t : Nat} {mv sv : Value} {c : Int} {fs : List Nat} (h : SiteAt w x mv sv t c) (ho : Only fs w w') (h1 : x ∉ fs) (ht : w'.cell? ⟨t, 0, none⟩ = some (.int .i64 c)) : SiteAt w' x mv sv t c :=
  ⟨ho.blk h.blk h1, ht, Nat.lt_of_lt_of_le h.tlt ho.size, h.pos⟩
theorem SdIs.turn {w0 w w' : World} {x t mb : Nat} {mv sv : Value} {c : Int} {has has' : List (Int × Int)} {ws ws' : List Int} (h : SdIs w0 w x t mb mv sv c has ws) (ht : TabIs w' t mb c has' ws') (ho : Only [t, mb] w w') : SdIs w0 w' x t mb mv sv c has' ws' :=
  ⟨h.site.only ho (by simp; exact h.far.2.2) ht.cc, ht, h.bel.trans (ho.below (by simp; exact ⟨h.far.1, h.far.2.1⟩) h.bel.size), h.far⟩
theorem SdIs.bel' {w0 w w' : World} {x t mb : Nat} {mv sv : Value} {c : Int} {has : List (Int × Int)} {ws : List Int} (h : SdIs w0 w x t mb mv sv c has ws) (hb : Below w.heap.size w w') : SdIs w0 w' x t mb mv sv c has ws := by
  have ho := Only.of_below hb []
  have ht := h.tab.only ho (by simp) (by simp)
  exact ⟨h.site.only ho (by simp) ht.cc, ht, h.bel.trans (hb.mono h.bel.size), h.far⟩

set_option maxRecDepth 100000 in
set_option maxHeartbeats 4000000 in
theorem SiteDrops_z (a : Int) (v : Value) (xs : List Int) (c : Int) (w : World) (a1 : -9223372036854775808 ≤ a) (a2 : a ≤ 9223372036854775807) (h : IntsAt .u64 w v xs) (_ : xs.length ≤ 9223372036854775807) (c1 : -9223372036854775808 ≤ c) (c2 : c ≤ 9223372036854775807) :
    Calls Try.prog 5 #[.int .i64 a, v, .int .i64 c] w fun e w' => e = .returned (.bool true) ∧ Below w.heap.size w w' := by
  obtain ⟨ao, cap, rfl, hat⟩ := h.at_
  have HAT := hid hat
  clear hat h
  obtain ⟨n, hn⟩ : ∃ n, n = xs.length := ⟨_, rfl⟩
  rw [← hn]
  have HN := hid hn
  have n0 : (0 : Int) ≤ (n : Int) := by omega
  clear hn
  by_cases i1 : a < 1
  · have d1 : decide (a < 1) = true := by simp [i1]
    go_enter Try.func5, Try.ntmps5
    go_wp2_with fail
    refine (known_z13 _).mono ?_
    rintro e w2 ⟨rfl, hb⟩
    have HB := hid hb
    clear hb
    go_wp2
    go_ret
    exact ⟨rfl, HB.out⟩
  · have d1 : decide (a < 1) = false := by simp; omega
    by_cases i2 : a > 64
    · have d2 : decide (a > 64) = true := by simp [i2]
      go_enter Try.func5, Try.ntmps5
      go_wp2_with fail
      refine (known_z13 _).mono ?_
      rintro e w2 ⟨rfl, hb⟩
      have HB := hid hb
      clear hb
      go_wp2
      go_ret
      exact ⟨rfl, HB.out⟩
    · have d2 : decide (a > 64) = false := by simp; omega
      by_cases i3 : n > 60
      · have d3 : decide ((n : Int) > 60) = true := by simp; omega
        have i3' : (n : Int) > 60 := by omega
        go_enter Try.func5, Try.ntmps5
        go_wp2_with fail
        refine (known_z13 _).mono ?_
        rintro e w2 ⟨rfl, hb⟩
        have HB := hid hb
        clear hb
        go_wp2
        go_ret
        exact ⟨rfl, HB.out⟩
      · have d3 : decide ((n : Int) > 60) = false := by simp; omega
        have i3' : ¬ (n : Int) > 60 := by omega
        have hmk2 := run_make_row' (P := Try.prog) 30 5 (.int .u8 0) 1 Try.underlying30 (by kernel_rfl) rfl .i64 .i64 2048 (by omega) (by omega)
        simp only [show ((2048 : Nat) : Int) = 2048 from rfl] at hmk2
        have HA := hid (show 1 ≤ a ∧ a ≤ 64 by omega)
        have HN60 := hid (show n ≤ 60 by omega)
        clear i1 i2 i3
        go_enter Try.func5, Try.ntmps5
        go_wp2_with fail
        refine (NewM_h 1 2048 (by omega) rfl w).mono ?_
        rintro e w1 ⟨m, rfl, hm, hb1⟩
        have HM0 := hid hm
        have HB0 := hid hb1
        clear hm hb1
        go_wp2_with fail
        have hz := zeros_in w1 2048 5 (by omega)
        rw [made_zeros]
        refine (NewS_h 1 2048 (by omega) rfl _ _ hz).mono ?_
        rintro e w3 ⟨s, rfl, hs, hb3⟩
        have hal : Below w1.heap.size w1 (w1.alloc (.cells (Array.replicate 2048 (.int .u8 0)) 5)) := ba (Below.refl _ _) _
        have hb4 := hal.trans (hb3.mono hal.size)
        have HM := hid (HM0.out.bel hb4)
        have HS := hid hs
        have HB := hid (HB0.out.trans (hb4.mono HB0.out.size))
        clear hz hs hb3 hal hb4 hmk2
        go_wp2_with fail
        refine (SNew_t _ _ 2048 1 a (by omega) rfl HA.out _ HM.out HS.out).mono ?_
        rintro e w5 ⟨hb5, x, t, mb, rfl, hx, ht, l1, l2, l3, l4, l5⟩
        have hB5 := HB.out.trans (hb5.mono HB.out.size)
        have hs3 := HB.out.size
        have HS5 := hid (show SdIs w w5 x t mb (.pointer (some ⟨m, 0, none⟩)) (.pointer (some ⟨s, 0, none⟩)) a [] (List.replicate 64 0) from ⟨hx, ht, hB5, by omega, by omega, l4, l5⟩)
        clear hb5 hx ht l1 l2 l3 l4 l5 hB5 hs3
        go_wp2_with fail
        refine (XLocks_z x t _ _ a w5 HS5.out.site).mono ?_
        rintro e w6 ⟨rfl, rfl⟩
        go_wp2
        go_loopw [13] (fun vi wr => ∃ (i : Nat) (has : List (Int × Int)) (ws : List Int), vi = .int .i64 i ∧ Hid (i ≤ n) ∧ Hid (SdIs w wr x t mb (.pointer (some ⟨m, 0, none⟩)) (.pointer (some ⟨s, 0, none⟩)) a has ws) ∧ Hid (UniqA has ∧ has.length ≤ i)) (fun vi _ => n - (intOf vi).toNat)
        case atStart => exact ⟨0, [], List.replicate 64 0, rfl, Nat.zero_le _, HS5, ⟨List.nodup_nil, Nat.le_refl _⟩⟩
        case round =>
          obtain ⟨i, has, ws, rfl, hin, hS, hU⟩ := hrel
          by_cases hlt : i < n
          · obtain ⟨b, off, rfl, hbl, hcell⟩ : ∃ b off, ao = some ⟨b, off, none⟩ ∧ b < w.heap.size ∧ ∀ i (h : i < xs.length), w.cell? ⟨b, off + i, none⟩ = some (.int .u64 xs[i]) := by
              rcases HAT.out with h0 | h0
              · exfalso; have := HN.out; rw [h0] at this; simp at this; omega
              · exact h0
            have hx0 := hcell i (by rw [← HN.out]; exact hlt)
            obtain ⟨X, hX⟩ : ∃ X, X = xs[i]'(by rw [← HN.out]; exact hlt) := ⟨_, rfl⟩
            rw [← hX] at hx0
            obtain ⟨k, hk⟩ : ∃ k, k = i % a.toNat := ⟨_, rfl⟩
            have ha := HA.out
            have hka : (k : Int) < a := by
              have : i % a.toNat < a.toNat := Nat.mod_lt _ (by omega)
              omega
            have ek : (i : Int).tmod a = (k : Int) := by
              rw [Int.tmod_eq_emod_of_nonneg (by omega), hk]
              have : a = (a.toNat : Int) := by omega
              conv => lhs; rw [this]
              rfl
            have i1 : (0 : Int) ≤ (i : Int) := by omega
            have i2 : (i : Int) < (n : Int) := by omega
            have z0 : ¬ a = 0 := by omega
            have z1 : (a == 0) = false := by simp [z0]
            have hSd := hid (hS.out.bel' (belDrew _))
            have hx1 := (hS.out.bel.cell (p := ⟨b, off + i, none⟩) hbl).trans hx0
            have hx2 := (hSd.out.bel.cell (p := ⟨b, off + i, none⟩) hbl).trans hx0
            have HBL := hid hbl
            have HKA := hid hka
            have HLT := hid hlt
            clear hcell hX hk ha hx0 hka hlt hbl
            go_wp2
            go_region_held3 (fun w' => w'.cell? ⟨b, off + i, none⟩ = some (.int .u64 X)) (first | (with_reducible exact hx1) | (with_reducible exact hx2) | (with_reducible assumption))
              (first
              | (go_at_call 14; (with_reducible refine (XLocks_z x t _ _ a _ hSd.out.site).mono ?_); rintro e v1 ⟨rfl, rfl⟩)
              | (go_at_call 22; (with_reducible refine (Try_l t mb a has ws k X _ hSd.out.tab HKA.out).mono ?_); rintro e v2 ⟨⟨r, rfl⟩, ht, ho⟩; have hS2 := hid (hSd.out.turn ht ho); have hx3 := (hS2.out.bel.cell (p := ⟨b, off + i, none⟩) HBL.out).trans ((hSd.out.bel.cell (p := ⟨b, off + i, none⟩) HBL.out).symm.trans hx2); clear ht ho))
            go_wp2
            go_roundw
            case rel => exact ⟨i + 1, _, _, by go_num, HLT.out, hS2, ⟨tryHas_uniq hU.out.1 _ _, Nat.le_trans (tryHas_len _ _ _) (by have := hU.out.2; omega)⟩⟩
            case measure => simp [intOf]; have := HLT.out; omega
          · have i2 : ¬ (i : Int) < (n : Int) := by omega
            have HL60 := hid (show has.length ≤ 60 by have := hU.out.2; have := HN60.out; have := hin.out; omega)
            clear hlt
            go_wp2_with fail
            refine (XLocks_z x t _ _ a wr hS.out.site).mono ?_
            rintro e w6 ⟨rfl, rfl⟩
            go_wp2_with fail
            refine (Copy_l t mb a has ws wr hS.out.tab).mono ?_
            rintro e w6 ⟨⟨t2, mb2, rfl, ht2, f1, f2⟩, hb6⟩
            have S6 := hid (hS.out.bel' hb6)
            have hdr : Calls Try.prog 24 #[.pointer (some ⟨x, 0, none⟩), .int .i64 c] w6 fun e w' => (∃ r, e = .returned r) ∧ ∃ has' ws', SdIs w w' x t mb (.pointer (some ⟨m, 0, none⟩)) (.pointer (some ⟨s, 0, none⟩)) a has' ws' ∧ TabIs w' t2 mb2 a has ws ∧ has'.length ≤ 60 ∧
                (∀ j : Nat, (j : Int) < a → (ownL has' (j : Int)).length = (if (j : Int) = c then 0 else (ownL has (j : Int)).length)) ∧ (∀ j : Nat, (j : Int) < a → (j : Int) = c → ws'[j]? = some 0) := by
              by_cases hc : 0 ≤ c ∧ c < a
              · obtain ⟨k, rfl⟩ : ∃ k : Nat, c = (k : Int) := ⟨c.toNat, by omega⟩
                refine (XDrop_l x t mb _ _ a has ws k w6 S6.out.site S6.out.tab hU.out.1 hc.2).mono ?_
                rintro e w7 ⟨hr, ⟨ws', q1, q2, q3⟩, ho⟩
                have hl := hS.out.tab.lt
                refine ⟨hr, _, ws', S6.out.turn q1 ho, ht2.only ho (by simp; omega) (by simp; omega), Nat.le_trans (List.length_filter_le ..) HL60.out, fun j hj => ?_, fun j hj hjk => ?_⟩
                · by_cases hjk : (j : Int) = (k : Int)
                  · rw [if_pos hjk, hjk, own_drop_self]; rfl
                  · rw [if_neg hjk, own_drop_other _ hjk]
                · obtain rfl : j = k := by omega
                  exact q2
              · refine (XDrop_no x t _ _ a c hc w6 S6.out.site).mono ?_
                rintro e w7 ⟨hr, rfl⟩
                refine ⟨hr, has, ws, S6.out, ht2, HL60.out, fun j hj => ?_, fun j hj hjk => ?_⟩
                · rw [if_neg (by omega)]
                · exfalso; omega
            have HDR := hid hdr
            clear hdr ht2 f1 f2 hb6
            go_wp2_with fail
            refine HDR.out.mono ?_
            rintro e w7 ⟨⟨rv, rfl⟩, has', ws', hS7, hT7, hl7, hown, hwt⟩
            have S7 := hid hS7
            have T7 := hid hT7
            have L7 := hid hl7
            have OWN := hid hown
            have WT := hid hwt
            clear hS7 hT7 hl7 hown hwt HDR
            go_wp2
            go_loopw [15, 16, 17, 18] (fun vj _ _ _ wq => ∃ (j : Nat), vj = .int .i64 j ∧ Hid ((j : Int) ≤ a) ∧ Hid (SdIs w wq x t mb (.pointer (some ⟨m, 0, none⟩)) (.pointer (some ⟨s, 0, none⟩)) a has' ws') ∧ Hid (TabIs wq t2 mb2 a has ws)) (fun vj _ _ _ _ => (a - intOf vj).toNat)
            case atStart => exact ⟨0, rfl, (by have := HA.out; omega : ((0 : Nat) : Int) ≤ a), S7, T7⟩
            case round =>
              obtain ⟨j, rfl, hja, hSq, hTq⟩ := hrel
              by_cases hjl : (j : Int) < a
              · have HJL := hid hjl
                have hh1 := hid (Held_l t2 mb2 a j has ws wr hTq.out hjl (by have := HL60.out; omega))
                obtain ⟨n1, hn1⟩ : ∃ n1, n1 = (ownL has (j : Int)).length := ⟨_, rfl⟩
                obtain ⟨n2, hn2⟩ : ∃ n2, n2 = (ownL has' (j : Int)).length := ⟨_, rfl⟩
                have hown := OWN.out j hjl
                rw [← hn1, ← hn2] at hown
                rw [← hn1] at hh1
                have HN2 := hid hn2
                clear hn1 hn2
                go_wp2_with fail
                refine hh1.out.mono ?_
                rintro e v1 ⟨⟨p1, cp1, rfl⟩, hb1⟩
                have hS1 := hid (hSq.out.bel' hb1)
                have hT1 := hid (hTq.out.only (Only.of_below hb1 []) (by simp) (by simp))
                clear hb1
                by_cases hjc : (j : Int) = c
                · have e5 : ((j : Int) == c) = true := by simp [hjc]
                  rw [if_pos hjc] at hown
                  have HOWN := hid hown
                  clear hown
                  have hX := WT.out j HJL.out hjc
                  obtain ⟨X, hXX⟩ : ∃ X : Int, X = 0 := ⟨0, rfl⟩
                  rw [← hXX] at hX
                  have eX : (X != 0) = false := by rw [hXX]; rfl
                  clear hXX hjc
                  go_wp2_with fail
                  refine (XLocks_z x t _ _ a _ hS1.out.site).mono ?_
                  rintro e w8 ⟨rfl, rfl⟩
                  have hwn := Wants_l t mb a has' ws' (j : Int) X v1 hS1.out.tab ⟨by omega, HJL.out⟩ (by rw [Int.toNat_natCast]; exact hX)
                  have HWN := hid hwn
                  clear hwn hX
                  go_wp2_with fail
                  refine HWN.out.mono ?_
                  rintro e v2 ⟨rfl, hb2⟩
                  have hS2 := hid (hS1.out.bel' hb2)
                  have hT2 := hid (hT1.out.only (Only.of_below hb2 []) (by simp) (by simp))
                  clear hb2
                  go_wp2_with fail
                  refine (XLocks_z x t _ _ a _ hS2.out.site).mono ?_
                  rintro e w8 ⟨rfl, rfl⟩
                  have hh2 := Held_l t mb a j has' ws' v2 hS2.out.tab HJL.out (by have := L7.out; omega)
                  rw [← HN2.out, HOWN.out] at hh2
                  have HH2 := hid hh2
                  clear hh2
                  go_wp2_with fail
                  refine HH2.out.mono ?_
                  rintro e v3 ⟨⟨p2, cp2, rfl⟩, hb3⟩
                  have hS3 := hid (hS2.out.bel' hb3)
                  have hT3 := hid (hT2.out.only (Only.of_below hb3 []) (by simp) (by simp))
                  clear hb3
                  go_wp2
                  go_roundw
                  case rel => exact ⟨j + 1, by go_num, (by have := HJL.out; omega : ((j + 1 : Nat) : Int) ≤ a), hS3, hT3⟩
                  case measure => simp [intOf]; have := HJL.out; omega
                · have e5 : ((j : Int) == c) = false := by simp [hjc]
                  rw [if_neg hjc] at hown
                  have HOWN := hid hown
                  clear hown hjc
                  obtain ⟨X, hX⟩ : ∃ X, ws'[j]? = some X := ⟨_, List.getElem?_eq_getElem (by rw [hS1.out.tab.len]; have := HJL.out; have := HA.out; omega)⟩
                  go_wp2_with fail
                  refine (XLocks_z x t _ _ a _ hS1.out.site).mono ?_
                  rintro e w8 ⟨rfl, rfl⟩
                  have hwn := Wants_l t mb a has' ws' (j : Int) X v1 hS1.out.tab ⟨by omega, HJL.out⟩ (by rw [Int.toNat_natCast]; exact hX)
                  have HWN := hid hwn
                  clear hwn hX
                  go_wp2_with fail
                  refine HWN.out.mono ?_
                  rintro e v2 ⟨rfl, hb2⟩
                  have hS2 := hid (hS1.out.bel' hb2)
                  have hT2 := hid (hT1.out.only (Only.of_below hb2 []) (by simp) (by simp))
                  clear hb2
                  go_wp2_with fail
                  refine (XLocks_z x t _ _ a _ hS2.out.site).mono ?_
                  rintro e w8 ⟨rfl, rfl⟩
                  have hh2 := Held_l t mb a j has' ws' v2 hS2.out.tab HJL.out (by have := L7.out; omega)
                  rw [← HN2.out, HOWN.out] at hh2
                  have HH2 := hid hh2
                  clear hh2
                  go_wp2_with fail
                  refine HH2.out.mono ?_
                  rintro e v3 ⟨⟨p2, cp2, rfl⟩, hb3⟩
                  have hS3 := hid (hS2.out.bel' hb3)
                  have hT3 := hid (hT2.out.only (Only.of_below hb3 []) (by simp) (by simp))
                  clear hb3
                  go_wp2
                  go_roundw
                  case rel => exact ⟨j + 1, by go_num, (by have := HJL.out; omega : ((j + 1 : Nat) : Int) ≤ a), hS3, hT3⟩
                  case measure => simp [intOf]; have := HJL.out; omega
              · have hjn : ¬ (j : Int) < a := hjl
                clear hjl
                go_wp2_with fail
                refine (known_z13 wr).mono ?_
                rintro e w8 ⟨rfl, hb8⟩
                have HB8 := hid (hSq.out.bel.trans (hb8.mono hSq.out.bel.size))
                clear hb8
                go_wp2
                go_ret
                exact ⟨rfl, HB8.out⟩
end Go.Proofs.Ytbkaemajjaiklaa
