/- SlabReads: the walk. -/
import Derived.Test.YtbkaemajjaiklaaGreatSame
import Derived.Test.YtbkaemajjaiklaaGreatAlikeM
import Derived.Test.YtbkaemajjaiklaaGreatImg
import Derived.Test.YtbkaemajjaiklaaGreatEvKnown6
namespace Go.Proofs.YtbkaemajjaiklaaGreat
open Go.RowKit
set_option linter.unusedVariables false
set_option linter.unusedSimpArgs false

attribute [local go_sem ↓ high] append_shut2
attribute [local go_sem] appM2_run

theorem bytesOf {w : World} {g : Nat} {bs : List Int} (h : Blk w g 5 (bytC bs)) (hb : isByte bs) : BytesIn w (some ⟨g, 0, none⟩) bs.length bs := by
  refine ⟨Nat.le_refl _, hb, fun _ => ⟨g, 0, rfl, h.lt, fun i x hx => ?_⟩⟩
  rw [Nat.zero_add, h.cell]
  unfold bytC
  rw [List.getElem?_toArray, List.getElem?_map, hx]; rfl
theorem info_u8 : (Tryz.prog.info? 5).map (fun i => (i.zero, i.size, i.bytes)) = some (some (.int .u8 0), 1, 1) := by kernel_rfl
set_option maxRecDepth 100000 in
/-- bytes copied -/
theorem copyBytes {w : World} {g : Nat} {bs : List Int} (h : BytesIn w (some ⟨g, 0, none⟩) bs.length bs) (hl : bs.length ≤ 1000000) :
    ∃ p cap w', appRun2 Tryz.prog #[26, 26] 26 #[.slice none 0 0, .slice (some ⟨g, 0, none⟩) bs.length bs.length] w = .ok (.slice p bs.length cap) w' ∧ BytesIn w' p cap bs ∧ Below w.heap.size w w' := by
  obtain ⟨i0, hi0, hz0, hz1, hz2⟩ := info_parts info_u8
  have hx : NewsAt w (.slice (some ⟨g, 0, none⟩) bs.length bs.length) bs.length (bs.map (Value.int .u8)) := Or.inr ⟨g, 0, _, rfl, fun j u hj => by
    rw [List.getElem?_map] at hj
    obtain ⟨x, hx, rfl⟩ := Option.map_eq_some_iff.1 hj
    have hp : 0 < bs.length := by have := (List.getElem?_eq_some_iff.1 hx).1; omega
    obtain ⟨b, off, e, _, hc⟩ := h.2.2 hp
    injection e with e
    injection e with e1 e2
    subst e1; subst e2
    exact hc j x hx⟩
  obtain ⟨v', w', q⟩ := run_app (P := Tryz.prog) w w.heap.size 26 26 5 i0 (.int .u8 0) 1 1 Tryz.underlying26 hi0 hz0 hz1 hz2 rfl (by decide) (.slice none 0 0) 0 [] (World.ownsRow_nil _ _ _ _) _ bs.length _ hx (by simp) (by
    intro u hu
    obtain ⟨y, _, rfl⟩ := List.mem_map.1 hu
    rfl) (by unfold maxLen; omega) (by omega) (Nat.le_refl _)
  have ho : Only [] w w' := Only.of_grown q.grown (fun k hk => by simp [Value.ownBlock] at hk)
  have hown := q.own
  rw [Nat.zero_add, List.nil_append] at hown
  have hrun := q.run
  rcases hown.2 with ⟨rfl, h2⟩ | ⟨b, cap, cur, rfl, h2, h3, h4, h5, h6, h7⟩
  · have hb0 : bs = [] := List.length_eq_zero_iff.1 h2
    subst hb0
    exact ⟨none, 0, w', hrun, ⟨Nat.le_refl _, h.2.1, fun hp => by simp at hp⟩, ho.below (by simp) (Nat.le_refl _)⟩
  · refine ⟨some ⟨b, 0, none⟩, cap, w', hrun, ⟨h4, h.2.1, fun _ => ⟨b, 0, rfl, (Array.getElem?_eq_some_iff.1 h3).1, fun i x hi => ?_⟩⟩, ho.below (by simp) (Nat.le_refl _)⟩
    have hc : Blk w' b _ cur := h3
    rw [hc.cell, Nat.zero_add, ← Array.getElem?_toList]
    have hl := (List.getElem?_eq_some_iff.1 hi).1
    have : (cur.toList.take (bs.length * 1))[i]? = some (.int .u8 x) := by rw [h7, List.getElem?_map, hi]; rfl
    rw [List.getElem?_take, if_pos (by omega)] at this
    exact this

set_option maxRecDepth 100000 in
theorem SOf_zero (p : Option Addr) (cap : Nat) (w : World) : Calls Tryz.prog 10 #[.slice p 1024 cap] w fun e w' => e = .returned (.tuple #[.pointer none, .int .i64 2]) ∧ Below w.heap.size w w' := by
  have hs : slabsZ 1024 = 0 := by decide
  have hS := fun W => Slabs_z 1024 W (by omega) (by omega)
  rw [hs, show decide ((0 : Int) < 0) = false from rfl] at hS
  go_enter Tryz.func10, Tryz.ntmps10
  go_wp2_with fail
  refine (hS _).mono ?_
  rintro e w1 ⟨rfl, rfl⟩
  go_wp2
  go_ret2
  exact ⟨rfl, Below.refl _ _⟩
set_option maxRecDepth 100000 in
theorem ROf_zero (p : Option Addr) (cap : Nat) (w : World) : Calls Tryz.prog 11 #[.slice p 1024 cap] w fun e w' => e = .returned (.tuple #[.pointer none, .int .i64 2]) ∧ Below w.heap.size w w' := by
  have hs : slabsZ 1024 = 0 := by decide
  have hS := fun W => RSlabs_z 1024 W
  rw [hs] at hS
  go_enter Tryz.func11, Tryz.ntmps11
  go_wp2_with fail
  refine (hS _).mono ?_
  rintro e w1 ⟨rfl, rfl⟩
  go_wp2
  go_ret2
  exact ⟨rfl, Below.refl _ _⟩

theorem few_ls (bs : List Int) (k : Nat) (hk : k ≤ 6) : (refL bs k).length ≤ 50000 := by
  have := refL_len bs k
  omega
theorem len_of_sub : ∀ (xs : List Int), xs.Nodup → (∀ x ∈ xs, ∃ i c j : Nat, i < 6 ∧ j < nb c ∧ x = blockZ ((i : Int) + 1) c j ∧ 1 ≤ c ∧ c ≤ 3) → xs.length ≤ 10000 := by
  intro xs hn hx
  have hsub : ∀ x ∈ xs, x ∈ (List.range 8192).map (fun k : Nat => (k : Int)) := by
    intro x hm
    obtain ⟨i, c, j, h1, h2, rfl, h3, h4⟩ := hx x hm
    have := block_in (i := i) (by omega) ⟨h3, h4⟩ h2
    exact List.mem_map.2 ⟨(blockZ ((i : Int) + 1) c j).toNat, List.mem_range.2 (by omega), by omega⟩
  have h1 : ∀ (xs ys : List Int), xs.Nodup → (∀ x ∈ xs, x ∈ ys) → xs.length ≤ ys.length := by
    intro xs
    induction xs with
    | nil => intro ys _ _; simp
    | cons x xs ih =>
      intro ys hn hs
      rw [List.nodup_cons] at hn
      have hm := hs x (List.mem_cons_self ..)
      have := ih (ys.erase x) hn.2 (fun y hy => by
        exact (List.mem_erase_of_ne (fun e : y = x => hn.1 (by rw [← e]; exact hy))).2 (hs y (List.mem_cons_of_mem _ hy)))
      rw [List.length_erase_of_mem hm] at this
      have hp := List.length_pos_of_mem hm
      simp only [List.length_cons]
      omega
  have := h1 xs _ hn hsub
  rw [List.length_map, List.length_range] at this
  omega
/-- few entries, few free ones -/
theorem Alike.few {A : SA} {n : Nat} {cs : List Int} {ls : List (Int × Int)} (h : Alike A n cs ls) (hn : n ≤ 6) : A.is.length ≤ 50000 ∧ ∀ c, 1 ≤ c → c ≤ 3 → (A.fr c).length ≤ 50000 := by
  constructor
  · have h1 := len_of_sub (A.is.map (fun p : Int × Int => p.1)) h.ua (fun x hx => by
      obtain ⟨p, hp, rfl⟩ := List.mem_map.1 hx
      have hv : isGet A.is p.1 = p.2 := h.ua.get hp
      have hz := h.nz p hp
      rw [h.is] at hv
      have hm := isGet_mem hz hv
      obtain ⟨_, _, i, j, c, h2, h3, h4, h5, _, h6⟩ := h.blk _ hm
      exact ⟨i, c, j, by omega, h3, h6, h4, h5⟩)
    rw [List.length_map] at h1
    omega
  · intro c c1 c3
    have h1 := len_of_sub (A.fr c) (h.nd c c1 c3) (fun x hx => by
      obtain ⟨i, j, h2, h3, _, h4, _⟩ := (h.fr c c1 c3 x).1 hx
      exact ⟨i, c, j, by omega, h3, h4, c1, c3⟩)
    omega
theorem ok_or (bs : List Int) (n : Nat) : (∀ i, 1 ≤ i → i ≤ n → headOK bs i = true) ∨ ∃ i, 1 ≤ i ∧ i ≤ n ∧ headOK bs i = false := by
  by_cases h : ∃ i, 1 ≤ i ∧ i ≤ n ∧ headOK bs i = false
  · exact Or.inr h
  · refine Or.inl fun i h1 h2 => ?_
    cases hh : headOK bs i
    · exact absurd ⟨i, h1, h2, hh⟩ h
    · rfl

set_option maxRecDepth 100000 in
set_option maxHeartbeats 4000000 in
theorem SlabReads_z (v : Value) (hs : List (Nat × Nat)) (f a i : Int) (w : World) (h : HeadsAt w v hs) (_ : hs.length ≤ 9223372036854775807) (f0 : 0 ≤ f) (f1 : f ≤ 255) (a0 : 0 ≤ a) (a1 : a ≤ 18446744073709551615) (n0 : -9223372036854775808 ≤ i) (n1 : i ≤ 9223372036854775807) :
    Calls Tryz.prog 3 #[v, .int .u8 f, .int .u64 a, .int .i64 i] w fun e w' => e = .returned (.bool true) ∧ Below w.heap.size w w' := by
  obtain ⟨ao, cap, hv, _⟩ := h.at_
  have HI := hid (fun hl => image_z v hs f ⟨f0, by omega⟩ hl w h)
  subst hv
  obtain ⟨n, hn⟩ : ∃ n, n = hs.length := ⟨_, rfl⟩
  rw [← hn] at HI ⊢
  have HN := hid hn
  clear h hn
  by_cases h6 : n > 6
  · have i1 : (n : Int) > 6 := by omega
    clear h6
    go_enter Tryz.func3, Tryz.ntmps3
    go_wp2_with fail
    refine (Ev.known6_run w).mono ?_
    rintro e w1 ⟨rfl, hb⟩
    have HB := hid hb
    clear hb
    go_wp2
    go_ret
    exact ⟨rfl, HB.out⟩
  · have i1 : ¬ (n : Int) > 6 := by omega
    have HI6 := hid (HI.out (by omega))
    have HN6 := hid (show n ≤ 6 by omega)
    clear h6 HI
    go_enter Tryz.func3, Tryz.ntmps3
    go_wp2_with fail
    refine HI6.out.mono ?_
    rintro e w1 ⟨g, bs, rfl, hbk, him, hlo, hb⟩
    rw [HN.out] at him
    have HIM := hid him
    have HB1 := hid hb
    have hby := bytesOf hbk him.byt
    have hlen := him.len
    rw [← HN.out] at hlen
    obtain ⟨p, cp, w2, hrun, hby2, hb2⟩ := copyBytes hby (by have := HN6.out; omega)
    have HBY := hid (bytesBel hby hb2)
    have HBY2 := hid hby2
    have HLEN := hid hlen
    have HB2 := hid (bx HB1.out hb2)
    clear hby hbk him hlo hb hlen hby2 hb2
    obtain ⟨L, hL⟩ : ∃ L, L = bs.length := ⟨_, rfl⟩
    rw [← hL] at hrun
    rw [← hL]
    have HL := hid hL
    clear hL
    by_cases hz : n = 0
    · have hL1 : L = 1024 := by rw [HL.out, HLEN.out, hz]
      subst hL1
      clear hz
      have e1 : ((1024 : Nat) : Int) = 1024 := rfl
      go_wp2_with fail
      refine (SOf_zero p cp w2).mono ?_
      rintro e w3 ⟨rfl, hb3⟩
      have HB3 := hid (bx HB2.out hb3)
      clear hb3
      go_wp2_with fail
      refine (ROf_zero _ _ w3).mono ?_
      rintro e w4 ⟨rfl, hb4⟩
      have HB4 := hid (bx HB3.out hb4)
      clear hb4
      go_wp2_with fail
      refine (Ev.known6_run w4).mono ?_
      rintro e w5 ⟨rfl, hb5⟩
      have HB5 := hid (bx HB4.out hb5)
      clear hb5
      go_wp2
      go_ret
      exact ⟨rfl, HB5.out⟩
    · have hSO := callsIn_wide.1 (SOf_in p cp bs n (by have := HN6.out; omega) HLEN.out w2 HBY2.out)
      rw [← HL.out] at hSO
      have HSO := hid hSO
      have HNZ := hid (show 1 ≤ n ∧ n ≤ 64 by have := HN6.out; omega)
      clear hSO hz
      go_wp2_with fail
      refine HSO.out.mono ?_
      rintro e w3 hp
      have hby3 := bytesBel HBY.out hp.bel
      have hRO := ROf_r (some ⟨g, 0, none⟩) bs.length bs n HNZ.out HLEN.out w3 hby3
      rw [← HL.out] at hRO
      have HRO := hid hRO
      have HB3 := hid (bx HB2.out hp.bel)
      clear hby3 hRO
      rcases ok_or bs n with hok | hno
      · obtain ⟨B, V, rfl, hsl⟩ := hp.yes hok
        have HSL := hid hsl
        have HOK := hid hok
        clear hp hsl hok
        go_wp2_with fail
        refine HRO.out.mono ?_
        rintro e w4 hq
        obtain ⟨gg, vC, vL, rfl, hwo⟩ := hq.yes HOK.out
        have hal := ofTo_alike bs n HNZ.out.2 HOK.out n (Nat.le_refl _)
        have hfew := hal.few HN6.out
        have HBO := hid (show BothS w4 w2.heap.size B V (L : Int) (ofTo bs n n) n w3.heap.size gg (refC bs n) (refL bs n) vC vL from
          ⟨HSL.out.bel hq.bel, hwo, hal, ofTo_hd _ _ _, HNZ.out, hfew.1, few_ls bs n HN6.out, hfew.2⟩)
        have HB4 := hid (bx HB3.out hq.bel)
        clear hq hwo hal hfew HSL
        go_wp2_with fail
        refine (same_z _ B V (L : Int) _ n _ gg _ _ vC vL w4 HBO.out).mono ?_
        rintro e w5 ⟨rfl, hb5⟩
        have HBO5 := hid (HBO.out.bel hb5)
        have HB5 := hid (bx HB4.out hb5)
        clear hb5
        have HWI := hid (WIs_r _ gg (L : Int) (refC bs n) (refL bs n) vC vL a w5 HBO5.out.wo (by have := HBO5.out.few.2.1; omega))
        have HSI := hid (Is_z _ B V (L : Int) (ofTo bs n n) a n w5 HBO5.out.sl HBO5.out.hl HBO5.out.hn)
        rw [HBO5.out.al.is a] at HSI
        obtain ⟨I, hI⟩ : ∃ I, I = isGet (refL bs n) a := ⟨_, rfl⟩
        rw [← hI] at HWI HSI
        clear hI
        obtain ⟨J, hJ⟩ : ∃ J, J = decide (0 < I) := ⟨_, rfl⟩
        have hJ1 : decide (I > 0) = J := hJ.symm
        have hJ2 : decide (0 < I) = J := hJ.symm
        have hJJ : (J == J) = true := by cases J <;> rfl
        clear hJ
        by_cases h1 : 1 ≤ i
        · by_cases h2 : i ≤ (n : Int)
          · by_cases h3 : i ≤ 3
            · have d1 : decide ((1 : Int) ≤ i) = true := by simp; omega
              have d1' : (1 : Int) ≤ i := by omega
              have d2 : decide (i ≤ (n : Int)) = true := by simp; omega
              have d3 : decide (i ≤ (3 : Int)) = true := by simp; omega
              clear h1 h2 h3
              go_wp2_with fail
              refine HWI.out.mono ?_
              rintro e w6 ⟨rfl, rfl⟩
              go_wp2_with fail
              refine HSI.out.mono ?_
              rintro e w6 ⟨rfl, rfl⟩
              go_wp2_with fail
              refine (Ev.known6_run w5).mono ?_
              rintro e w8 ⟨rfl, hb8⟩
              have HB8 := hid (bx HB5.out hb8)
              clear hb8
              go_wp2
              go_ret
              exact ⟨rfl, HB8.out⟩
            · have d1 : decide ((1 : Int) ≤ i) = true := by simp; omega
              have d1' : (1 : Int) ≤ i := by omega
              have d2 : decide (i ≤ (n : Int)) = true := by simp; omega
              have d3 : decide (i ≤ (3 : Int)) = false := by simp; omega
              have hno := hid (show ¬ (1 ≤ i ∧ i ≤ 3) by omega)
              clear h1 h2 h3
              go_wp2_with fail
              refine HWI.out.mono ?_
              rintro e w6 ⟨rfl, rfl⟩
              go_wp2_with fail
              refine HSI.out.mono ?_
              rintro e w6 ⟨rfl, rfl⟩
              go_wp2_with fail
              refine (Room_no (.pointer (some ⟨B.s, 0, none⟩)) i _ hno.out).mono ?_
              rintro e w7 ⟨rfl, hb7⟩
              have HB7 := hid (bx HB5.out hb7)
              clear hb7
              go_wp2_with fail
              refine (Ev.known6_run w7).mono ?_
              rintro e w8 ⟨rfl, hb8⟩
              have HB8 := hid (bx HB7.out hb8)
              clear hb8
              go_wp2
              go_ret
              exact ⟨rfl, HB8.out⟩
          · by_cases h3 : i ≤ 3
            · have d1 : decide ((1 : Int) ≤ i) = true := by simp; omega
              have d1' : (1 : Int) ≤ i := by omega
              have d2 : decide (i ≤ (n : Int)) = false := by simp; omega
              have d3 : decide (i ≤ (3 : Int)) = true := by simp; omega
              have hcz : Hid (clsZ (ofTo bs n n) i = 0) := by show clsZ (ofTo bs n n) i = 0; unfold clsZ; rw [if_neg (by have := HBO.out.hl; omega)]
              clear h1 h2 h3
              have HCL := Class_s _ B V (L : Int) (ofTo bs n n) i n w5 HBO5.out.sl HBO5.out.hl HBO5.out.hn
              rw [hcz.out] at HCL
              have HCL' := hid HCL
              clear HCL
              go_wp2_with fail
              refine HCL'.out.mono ?_
              rintro e w6 ⟨rfl, rfl⟩
              go_wp2_with fail
              refine HWI.out.mono ?_
              rintro e w6 ⟨rfl, rfl⟩
              go_wp2_with fail
              refine HSI.out.mono ?_
              rintro e w6 ⟨rfl, rfl⟩
              go_wp2_with fail
              refine (Ev.known6_run w5).mono ?_
              rintro e w8 ⟨rfl, hb8⟩
              have HB8 := hid (bx HB5.out hb8)
              clear hb8
              go_wp2
              go_ret
              exact ⟨rfl, HB8.out⟩
            · have d1 : decide ((1 : Int) ≤ i) = true := by simp; omega
              have d1' : (1 : Int) ≤ i := by omega
              have d2 : decide (i ≤ (n : Int)) = false := by simp; omega
              have d3 : decide (i ≤ (3 : Int)) = false := by simp; omega
              have hcz : Hid (clsZ (ofTo bs n n) i = 0) := by show clsZ (ofTo bs n n) i = 0; unfold clsZ; rw [if_neg (by have := HBO.out.hl; omega)]
              have hno := hid (show ¬ (1 ≤ i ∧ i ≤ 3) by omega)
              clear h1 h2 h3
              have HCL := Class_s _ B V (L : Int) (ofTo bs n n) i n w5 HBO5.out.sl HBO5.out.hl HBO5.out.hn
              rw [hcz.out] at HCL
              have HCL' := hid HCL
              clear HCL
              go_wp2_with fail
              refine HCL'.out.mono ?_
              rintro e w6 ⟨rfl, rfl⟩
              go_wp2_with fail
              refine HWI.out.mono ?_
              rintro e w6 ⟨rfl, rfl⟩
              go_wp2_with fail
              refine HSI.out.mono ?_
              rintro e w6 ⟨rfl, rfl⟩
              go_wp2_with fail
              refine (Room_no (.pointer (some ⟨B.s, 0, none⟩)) i _ hno.out).mono ?_
              rintro e w7 ⟨rfl, hb7⟩
              have HB7 := hid (bx HB5.out hb7)
              clear hb7
              go_wp2_with fail
              refine (Ev.known6_run w7).mono ?_
              rintro e w8 ⟨rfl, hb8⟩
              have HB8 := hid (bx HB7.out hb8)
              clear hb8
              go_wp2
              go_ret
              exact ⟨rfl, HB8.out⟩
        · have d1 : decide ((1 : Int) ≤ i) = false := by simp; omega
          have d1' : ¬ (1 : Int) ≤ i := by omega
          have hcz : Hid (clsZ (ofTo bs n n) i = 0) := by show clsZ (ofTo bs n n) i = 0; unfold clsZ; rw [if_neg (by have := HBO.out.hl; omega)]
          have hno := hid (show ¬ (1 ≤ i ∧ i ≤ 3) by omega)
          clear h1
          have HCL := Class_s _ B V (L : Int) (ofTo bs n n) i n w5 HBO5.out.sl HBO5.out.hl HBO5.out.hn
          rw [hcz.out] at HCL
          have HCL' := hid HCL
          clear HCL
          go_wp2_with fail
          refine HCL'.out.mono ?_
          rintro e w6 ⟨rfl, rfl⟩
          go_wp2_with fail
          refine HWI.out.mono ?_
          rintro e w6 ⟨rfl, rfl⟩
          go_wp2_with fail
          refine HSI.out.mono ?_
          rintro e w6 ⟨rfl, rfl⟩
          go_wp2_with fail
          refine (Room_no (.pointer (some ⟨B.s, 0, none⟩)) i _ hno.out).mono ?_
          rintro e w7 ⟨rfl, hb7⟩
          have HB7 := hid (bx HB5.out hb7)
          clear hb7
          go_wp2_with fail
          refine (Ev.known6_run w7).mono ?_
          rintro e w8 ⟨rfl, hb8⟩
          have HB8 := hid (bx HB7.out hb8)
          clear hb8
          go_wp2
          go_ret
          exact ⟨rfl, HB8.out⟩
      · obtain rfl := hp.no hno
        have HNO := hid hno
        clear hp hno
        go_wp2_with fail
        refine HRO.out.mono ?_
        rintro e w4 hq
        obtain rfl := hq.no HNO.out
        have HB4 := hid (bx HB3.out hq.bel)
        clear hq
        go_wp2_with fail
        refine (Ev.known6_run w4).mono ?_
        rintro e w5 ⟨rfl, hb5⟩
        have HB5 := hid (bx HB4.out hb5)
        clear hb5
        go_wp2
        go_ret
        exact ⟨rfl, HB5.out⟩
end Go.Proofs.YtbkaemajjaiklaaGreat
