/- SlabRoom: the walk. -/
import Derived.Test.YtbkaemajjaiklaaSlabM
import Derived.Test.YtbkaemajjaiklaaImg
import Derived.Test.YtbkaemajjaiklaaRefW
import Derived.Test.YtbkaemajjaiklaaEvKnown6

namespace Go.Proofs.Ytbkaemajjaiklaa
open Go.RowKit
set_option linter.unusedVariables false
set_option linter.unusedSimpArgs false

def okH (x : Nat × Nat) : Bool := decide (x.1 ≤ 3) && mayBits x.2 (blocksZ x.1)
def fewH (hs : List (Nat × Nat)) : Bool := decide (1 ≤ hs.length ∧ hs.length ≤ 4) && hs.all okH
theorem head_of {bs : List Int} {hs : List (Nat × Nat)} (h : ImgTo bs hs hs.length) {i : Nat} (hi : i < hs.length) : headOK bs (i + 1) = okH hs[i] := by
  obtain ⟨h1, h2⟩ := h.ok i hi hi
  unfold headOK okH
  rw [h1, h2]
theorem bytes_of {w : World} {g : Nat} {bs : List Int} (h : Blk w g 5 (bytC bs)) (hb : isByte bs) : BytesIn w (some ⟨g, 0, none⟩) bs.length bs := by
  refine ⟨Nat.le_refl _, hb, fun _ => ⟨g, 0, rfl, h.lt, fun i x hx => ?_⟩⟩
  obtain ⟨hi, he⟩ := List.getElem?_eq_some_iff.1 hx
  rw [Nat.zero_add, h.cell, bytC_get hi, he]
theorem heads_all {bs : List Int} {hs : List (Nat × Nat)} (h : ImgTo bs hs hs.length) (hok : hs.all okH = true) : ∀ i, 1 ≤ i → i ≤ hs.length → headOK bs i = true := by
  intro i h1 h2
  obtain ⟨j, rfl⟩ : ∃ j, i = j + 1 := ⟨i - 1, by omega⟩
  rw [head_of h (show j < hs.length by omega)]
  rw [List.all_eq_true] at hok
  exact hok _ (List.getElem_mem _)
theorem heads_no {bs : List Int} {hs : List (Nat × Nat)} (h : ImgTo bs hs hs.length) (hok : hs.all okH = false) : ∃ i, 1 ≤ i ∧ i ≤ hs.length ∧ headOK bs i = false := by
  rw [List.all_eq_false] at hok
  obtain ⟨x, hx, hn⟩ := hok
  obtain ⟨j, hj, rfl⟩ := List.mem_iff_getElem.1 hx
  exact ⟨j + 1, by omega, by omega, by rw [head_of h hj]; simpa using hn⟩

set_option maxRecDepth 100000 in
set_option maxHeartbeats 1000000 in
theorem few_r (v : Value) (hs : List (Nat × Nat)) (w : World) (h : HeadsAt w v hs) :
    Calls Try.prog 16 #[v, .slice none 0 0, .int .i64 0] w fun e w' => e = .returned (.bool (fewH hs)) ∧ Below w.heap.size w w' := by
  obtain ⟨ao, cap, hv, _⟩ := h.at_
  by_cases h1 : hs.length < 1
  · have hf : Hid (fewH hs = false) := by show _ = _; unfold fewH; rw [decide_eq_false (by omega)]; rfl
    subst hv
    obtain ⟨n, hn⟩ : ∃ n, n = hs.length := ⟨_, rfl⟩
    rw [← hn] at h1 ⊢
    have i1 : (n : Int) < 1 := by omega
    clear h hn h1
    go_enter Try.func16, Try.ntmps16
    go_wp2
    go_ret
    exact ⟨by rw [hf.out]; rfl, Below.refl _ _⟩
  · by_cases h4 : hs.length > 4
    · have hf : Hid (fewH hs = false) := by show _ = _; unfold fewH; rw [decide_eq_false (by omega)]; rfl
      subst hv
      obtain ⟨n, hn⟩ : ∃ n, n = hs.length := ⟨_, rfl⟩
      rw [← hn] at h1 h4 ⊢
      have i1 : ¬ (n : Int) < 1 := by omega
      have i2 : (n : Int) > 4 := by omega
      clear h hn h1 h4
      go_enter Try.func16, Try.ntmps16
      go_wp2
      go_ret
      exact ⟨by rw [hf.out]; rfl, Below.refl _ _⟩
    · have hI := hid (image_z v hs 0 (by omega) (by omega) w h)
      have hf : Hid (fewH hs = hs.all okH) := by show _ = _; unfold fewH; rw [decide_eq_true (by omega)]; simp
      have hlen : 1 ≤ hs.length ∧ hs.length ≤ 64 := by omega
      have HLEN := hid hlen
      subst hv
      obtain ⟨n, hn⟩ : ∃ n, n = hs.length := ⟨_, rfl⟩
      rw [← hn] at h1 h4 hI ⊢
      have i1 : ¬ (n : Int) < 1 := by omega
      have i2 : ¬ (n : Int) > 4 := by omega
      have HN := hid hn
      clear h hn h1 h4 hlen
      go_enter Try.func16, Try.ntmps16
      go_wp2_with fail
      refine hI.out.mono ?_
      rintro e w1 ⟨g, bs, rfl, hbk, him, hlo, hb⟩
      rw [HN.out] at him
      have hR := ROf_r (some ⟨g, 0, none⟩) bs.length bs hs.length HLEN.out (by rw [him.len]) w1 (bytes_of hbk him.byt)
      have HR := hid hR
      have HIM := hid him
      have HB := hid hb
      clear hR him hb hbk hlo
      go_wp2_with fail
      refine HR.out.mono ?_
      rintro e w2 hp
      have HB2 := hid (HB.out.trans (hp.bel.mono HB.out.size))
      cases hok : hs.all okH
      · rw [hok] at hf
        obtain rfl := hp.no (heads_no HIM.out hok)
        clear hp
        go_wp2
        go_ret
        exact ⟨by rw [hf.out]; rfl, HB2.out⟩
      · rw [hok] at hf
        obtain ⟨gg, vC, vL, rfl, _⟩ := hp.yes (heads_all HIM.out hok)
        clear hp
        go_wp2
        go_ret
        exact ⟨by rw [hf.out]; rfl, HB2.out⟩

theorem len_le : ∀ (xs ys : List Int), xs.Nodup → (∀ x ∈ xs, x ∈ ys) → xs.length ≤ ys.length
  | [], ys, _, _ => Nat.zero_le _
  | x :: xs, ys, hn, hs => by
    have hx := hs x (List.mem_cons_self ..)
    have h1 := List.nodup_cons.1 hn
    have h2 := len_le xs (ys.erase x) h1.2 (fun y hy => by
      have := hs y (List.mem_cons_of_mem _ hy)
      exact (List.mem_erase_of_ne (fun e => h1.1 (by rw [← e]; exact hy))).2 this)
    rw [List.length_erase_of_mem hx] at h2
    have := List.length_pos_of_mem hx
    rw [List.length_cons]
    omega
def allB (n c : Nat) : List Int := (List.range (n + 1)).flatMap fun (i : Nat) => (List.range 15).map fun (j : Nat) => blockZ (i : Int) (c : Int) (j : Int)
theorem allB_len (n c : Nat) : (allB n c).length = 15 * (n + 1) := by
  unfold allB
  induction (n + 1) with
  | zero => rfl
  | succ k ih =>
    rw [show List.range (k + 1) = List.range k ++ [k] from List.range_succ, List.flatMap_append, List.length_append, ih]
    simp
    omega
theorem RoomI.few {A : SA} {n c : Nat} {got : List Int} (h : RoomI A n c got) (hn : n ≤ 4) : got.length ≤ 75 := by
  have := len_le got (allB n c) h.nd (fun x hx => by
    obtain ⟨i, j, h1, h2, h3, _, h5⟩ := (h.of x hx).1
    have hnl := nb_le c
    unfold allB
    rw [List.mem_flatMap]
    exact ⟨i, List.mem_range.2 (by omega), List.mem_map.2 ⟨j, List.mem_range.2 (by omega), h5.symm⟩⟩)
  rw [allB_len] at this
  omega
theorem room_zero {A : SA} {c : Nat} (h0 : A.fr c = []) (hz : ∀ j (hj : j + 1 < A.hd.length), A.hd[j + 1].1 ≠ 0) : roomSA A c = 0 := by
  unfold roomSA
  have : zeroN A.hd A.hd.length = 0 := by
    unfold zeroN
    rw [List.take_of_length_le (Nat.le_refl _), List.countP_eq_zero]
    intro x hx
    obtain ⟨j, hj, rfl⟩ := List.mem_iff_getElem.1 hx
    have hj' : j + 1 < A.hd.length := by simp at hj; omega
    have := hz j hj'
    simpa [Nat.add_comm] using this
  rw [this, h0]; simp
theorem info_addr : (Try.prog.info? 47).map (fun i => (i.zero, i.size, i.bytes)) = some (some (.int .u64 0), 1, 8) := by kernel_rfl
def addrV (x : Int) : Value := .int .u64 x
/-- while blocks are reserved -/
structure RmI (w : World) (N : Nat) (B : SB) (size : Int) (n c R k : Nat) (gs : List Int) (v : Value) (W : World) : Prop where
  sl : ∃ A V, SlabIs W N B V size A ∧ RoomI A n c gs ∧ roomSA A c + k = R ∧ ∀ x, v.ownBlock = some x → x ∉ foot B V
  len : gs.length = k
  row : W.ownsRow w.heap.size 47 1 v k (gs.map addrV)
  bel : Below w.heap.size w W
theorem RmI.fr_le {A : SA} {c R k : Nat} (h : roomSA A c + k = R) : (A.fr c).length ≤ R := by unfold roomSA at h; omega

set_option maxRecDepth 100000 in
set_option maxHeartbeats 4000000 in
theorem SlabRoom_z (v : Value) (hs : List (Nat × Nat)) (c : Int) (w : World) (h : HeadsAt w v hs) :
    Calls Try.prog 4 #[v, .int .i64 c] w fun e w' => e = .returned (.bool true) ∧ Below w.heap.size w w' := by
  have hF := hid (few_r v hs w h)
  have H := hid h
  clear h
  by_cases hgo : fewH hs = true ∧ ¬ c < 1 ∧ ¬ c > 3
  · obtain ⟨hfw, hc1, hc3⟩ := hgo
    rw [hfw] at hF
    have hlen : 1 ≤ hs.length ∧ hs.length ≤ 4 := by
      unfold fewH at hfw
      simp at hfw
      exact ⟨hfw.1.1, hfw.1.2⟩
    have hall : hs.all okH = true := by
      unfold fewH at hfw
      rw [Bool.and_eq_true] at hfw
      exact hfw.2
    obtain ⟨cc, rfl⟩ : ∃ cc : Nat, c = (cc : Int) := ⟨c.toNat, by omega⟩
    have hcc : 1 ≤ cc ∧ cc ≤ 3 := by omega
    have HLEN := hid hlen
    have HALL := hid hall
    have HCC := hid hcc
    clear hfw hlen hall hcc
    obtain ⟨iA, hiA, zA0, zA1, zA2⟩ := info_parts info_addr
    go_enter Try.func4, Try.ntmps4
    go_wp2_with fail
    refine hF.out.mono ?_
    rintro e w1 ⟨rfl, hb1⟩
    have HI := hid (image_z v hs 0 (by omega) (by have := HLEN.out; omega) w1 (H.out.bel hb1))
    have HB1 := hid hb1
    clear hb1
    go_wp2_with fail
    refine HI.out.mono ?_
    rintro e w2 ⟨g, bs, rfl, hbk, him, hlo, hb2⟩
    have hS := callsIn_wide.1 (SOf_in (some ⟨g, 0, none⟩) bs.length bs hs.length (by have := HLEN.out; omega) (by rw [him.len]) w2 (bytes_of hbk him.byt))
    have HS := hid hS
    have HIM := hid him
    have HB2 := hid (HB1.out.trans (hb2.mono HB1.out.size))
    clear hS him hb2 hbk hlo
    go_wp2_with fail
    refine HS.out.mono ?_
    rintro e w3 hp
    obtain ⟨B, V, rfl, hs3⟩ := hp.yes (heads_all HIM.out HALL.out)
    have HB3 := hid (HB2.out.trans (hp.bel.mono HB2.out.size))
    obtain ⟨A0, hA0⟩ : ∃ A0, A0 = ofTo bs hs.length hs.length := ⟨_, rfl⟩
    rw [← hA0] at hs3
    have hl0 : A0.hd.length = 1 + hs.length := by rw [hA0]; exact ofTo_hd _ _ _
    have hr0 : RoomI A0 hs.length cc [] := ⟨hl0, by rw [hA0]; exact ofTo_fr bs hs.length hs.length (Nat.le_refl _) cc, List.nodup_nil, fun _ h => by cases h⟩
    have hf0 : (A0.fr cc).length ≤ 60 := by rw [hA0]; have := ofTo_len bs hs.length hs.length cc; have := HLEN.out; omega
    have hR0 : roomSA A0 cc ≤ 200 := by
      unfold roomSA
      have h1 := zeroN_le A0.hd A0.hd.length
      have h2 := nb_le cc
      have h3 : zeroN A0.hd A0.hd.length * nb cc ≤ 5 * 15 := Nat.mul_le_mul (by have := HLEN.out; omega) h2
      omega
    have HRm := hid (Room_z w2.heap.size B V (bs.length : Int) A0 cc hs.length w3 hs3 hl0 (by have := HLEN.out; omega) HCC.out (by omega))
    obtain ⟨R, hR⟩ : ∃ R, R = roomSA A0 cc := ⟨_, rfl⟩
    rw [← hR] at HRm hR0
    have HI0 : Hid (∃ gs, RmI w w2.heap.size B (bs.length : Int) hs.length cc R 0 gs (.slice none 0 0) w3) := ⟨[], ⟨⟨A0, V, hs3, hr0, by omega, by simp [Value.ownBlock]⟩, rfl, World.ownsRow_nil _ _ _ _, HB3.out⟩⟩
    have HN2 := hid (HB2.out.size)
    have HN23 := hid (hp.bel.size)
    have HR0 := hid hR0
    clear hp hs3 hA0 hl0 hr0 hf0 hR hR0
    go_wp2_with fail
    refine HRm.out.mono ?_
    rintro e w4 ⟨rfl, hb4⟩
    have HI4 : Hid (∃ gs, RmI w w2.heap.size B (bs.length : Int) hs.length cc R 0 gs (.slice none 0 0) w4) := by
      obtain ⟨gs, hI⟩ := HI0.out
      obtain ⟨A, V, q1, q2, q3, q4⟩ := hI.sl
      exact ⟨gs, ⟨A, V, q1.bel hb4, q2, q3, q4⟩, hI.len, (Only.of_below hb4 []).own hI.row (by simp), hI.bel.trans (hb4.mono hI.bel.size)⟩
    have HN4 : Hid (w2.heap.size ≤ w4.heap.size) := Nat.le_trans HN23.out hb4.size
    clear hb4 HI0
    go_wp2
    go_loopw [8, 9] (fun gv i wr => ∃ k : Nat, k ≤ R ∧ i = .int .i64 k ∧ Hid (w2.heap.size ≤ wr.heap.size) ∧ Hid (∃ gs, RmI w w2.heap.size B (bs.length : Int) hs.length cc R k gs gv wr)) (fun _ i _ => (R - (intOf i).toNat))
    case atStart => exact ⟨0, by omega, rfl, HN4, HI4⟩
    case round =>
      obtain ⟨k, hk, rfl, hN, hI⟩ := hrel
      obtain ⟨gs, hJ⟩ := hI.out
      obtain ⟨A, V1, hsl, hro, hrm, hap⟩ := hJ.sl
      have hgl := hro.few HLEN.out.2
      rw [hJ.len] at hgl
      have hRv := Reserve_z w2.heap.size B V1 (bs.length : Int) A cc hs.length wr hsl hN.out hro.len (by have := HLEN.out; omega) HCC.out (by have := RmI.fr_le hrm; have := HR0.out; omega)
      have HRv := hid hRv
      by_cases hlt : k < R
      · have i1 : (k : Int) < (R : Int) := by omega
        have i2 : (k : Int) < 100 := by omega
        have HLT := hid hlt
        have HJ := hid hJ
        have HRO := hid hro
        have HRM := hid hrm
        have HAP := hid hap
        have HSL := hid hsl
        have hform := rowForm hJ.row
        obtain ⟨av, cv, rfl⟩ := hform
        clear hRv hJ hro hrm hap hsl hI hlt hk
        go_wp2_with fail
        refine HRv.out.mono ?_
        rintro e w5 hpost
        rcases hpost.ok with ⟨A', V', hA', rfl, hs5, hm5⟩ | ⟨q1, q2, _⟩
        · have hnx : RoomI A' hs.length cc gs ∧ roomSA A' cc = roomSA A cc ∧ A'.fr cc ≠ [] := by
            rcases hA' with ⟨rfl, q⟩ | ⟨q, j, hj, hz, rfl⟩
            · exact ⟨HRO.out, rfl, q⟩
            · obtain ⟨g1, g2⟩ := HRO.out.give (by have := HLEN.out; omega) HCC.out q j hj hz
              exact ⟨g1, g2, giveSA_ne A (j + 1) HCC.out⟩
          obtain ⟨g1, g2, g3⟩ := hnx.1.take hnx.2.2
          obtain ⟨a, hae⟩ : ∃ a, a = at0 (A'.fr cc) 0 := ⟨_, rfl⟩
          rw [← hae] at g1 g3 ⊢
          have hIs := Is_z w2.heap.size B V' (bs.length : Int) (takeSA A' cc) a hs.length w5 hs5 g1.len (by have := HLEN.out; omega)
          have hone : isGet (takeSA A' cc).is a = 1 := by
            show isGet (isSet A'.is (at0 (A'.fr cc) 0) 1) a = 1
            rw [hae]; exact isGet_set _ _ _
          rw [hone] at hIs
          have HIS := hid hIs
          have hrow5 : w5.ownsRow w.heap.size 47 1 (.slice av k cv) k (gs.map addrV) := hm5.only.own HJ.out.row (fun x hx => HAP.out x hx)
          have hap5 : ∀ x, (Value.slice av k cv).ownBlock = some x → x ∉ foot B V' := fun x hx hm => by
            rcases hm5.foot x hm with q | q
            · exact HAP.out x hx q
            · have := own_lt HJ.out.row x hx; omega
          have hbel5 : Below w.heap.size w w5 := HJ.out.bel.trans (hm5.only.below (fun x hx => by obtain ⟨i, hi⟩ := foot_mem.1 hx; exact Nat.le_trans HN2.out (HSL.out.lo i x hi)) HJ.out.bel.size)
          have HROW := hid hrow5
          have HAP5 := hid hap5
          have HBEL5 := hid hbel5
          have HS5 := hid hs5
          have HG := hid (⟨g1, by have := HRM.out; have := hnx.2.1; omega, g3⟩ : RoomI (takeSA A' cc) hs.length cc (gs ++ [a]) ∧ roomSA (takeSA A' cc) cc + (k + 1) = R ∧ a ∉ gs)
          have HN5 := hid (Nat.le_trans hN.out hm5.only.size)
          have HK5 := hid HJ.out.len
          clear hpost hA' hs5 hm5 hnx g1 g2 g3 hae hIs hone hrow5 hap5 hbel5 HJ HRv HAP HSL HRO HRM
          go_wp2_with fail
          refine HIS.out.mono ?_
          rintro e w6 ⟨rfl, rfl⟩
          go_wp2
          go_loop [12] (fun j => ∃ t : Nat, t ≤ k ∧ j = .int .i64 t) (fun j => (k - (intOf j).toNat))
          case atStart => exact ⟨0, by omega, rfl⟩
          case round =>
            obtain ⟨t, ht, rfl⟩ := hrel
            by_cases htl : t < k
            · have t1 : (t : Int) < (k : Int) := by omega
              have t2 : (0 : Int) ≤ (t : Int) := by omega
              rcases HROW.out.2 with ⟨hv1, hv2⟩ | ⟨gB, capB, curB, hv1, hgB, hhB, hcB, hmB, hsB, htB⟩
              · omega
              · cases hv1
                have htg : t < gs.length := by rw [HK5.out]; exact htl
                obtain ⟨x, hx⟩ : ∃ x, x = gs[t] := ⟨_, rfl⟩
                have yb : w5.cell? ⟨gB, t, none⟩ = some (.int .u64 x) := by
                  have h1 : (curB.toList.take (k * 1))[t]? = some (addrV x) := by rw [htB, List.getElem?_map, List.getElem?_eq_getElem htg, hx]; rfl
                  rw [List.getElem?_take, if_pos (by omega)] at h1
                  rw [cell_of_row w5 gB t curB _ _ hhB]
                  simpa [addrV] using h1
                have hne : (x == a) = false := by
                  rw [beq_eq_false_iff_ne]
                  intro e
                  exact HG.out.2.2 (by rw [← e, hx]; exact List.getElem_mem htg)
                clear htB hsB hmB hcB hhB hgB hx
                go_wp2
                go_round
                case rel => exact ⟨t + 1, by omega, by go_num⟩
                case measure => simp [intOf]; omega
            · obtain rfl : t = k := by omega
              have t1 : ¬ (t : Int) < (t : Int) := by omega
              have HO := hid (HROW.out.alloc (.cells #[.int .u64 a] 47))
              have h63 : t + 1 ≤ maxLen := by unfold maxLen; omega
              have hby : (t + 1) * 8 ≤ 140737488355328 := by omega
              have hsz5 := HBEL5.out.size
              go_wp2_with (at_builtin; go_must (refine wpList_append_own_at _ rfl _ _ 45 rfl w.heap.size 47 iA (.int .u64 0) 1 8 Try.underlying45 hiA zA0 zA1 zA2 rfl (by decide) _ _ _ rfl HO.out ⟨w5.heap.size, 0, none⟩ 1 1 [.int .u64 a] rfl rfl (World.news_of_block (Blk.new w5 47 #[.int .u64 a])) (by simp [Value.oneCell']) h63 hby (by simp; omega) ?_); intro v' w7 hown' hgrow _ hat)
              go_roundw
              case rel =>
                have hal : Below w5.heap.size w5 (w5.alloc (.cells #[.int .u64 a] 47)) := ba (Below.refl _ _) _
                have ho : Only (Value.slice av t cv).ownBlock.toList (w5.alloc (.cells #[.int .u64 a] 47)) w7 := Only.of_grown hgrow (fun x hx => Option.mem_toList.2 hx)
                refine ⟨t + 1, HLT.out, by go_num, Nat.le_trans HN5.out (Nat.le_trans hal.size hgrow.size), gs ++ [a], ⟨takeSA A' cc, V', ?_, HG.out.1, HG.out.2.1, fun x hx => ?_⟩, by rw [List.length_append, HK5.out]; rfl, ?_, ?_⟩
                · exact (HS5.out.bel hal).only ho (fun i x hi hm => HAP5.out x (by simpa using hm) (foot_mem.2 ⟨i, hi⟩))
                · have hx' : v'.ownBlock = some x := hx
                  clear hx
                  rcases hat with e | e
                  · exact HAP5.out x (e.symm.trans hx')
                  · rw [e] at hx'
                    injection hx' with hx
                    intro hm
                    obtain ⟨i, hi⟩ := foot_mem.1 hm
                    have := HS5.out.lt hi
                    simp at hx
                    omega
                · simpa [addrV] using hown'
                · exact belGrown (ba HBEL5.out _) hgrow (Nat.le_refl _) (fun r hr => own_base HROW.out r hr)
              case measure => simp [intOf]; have := HLT.out; omega
        · have := room_zero q1 q2
          have := HRM.out
          have := HLT.out
          omega
      · have hkR : k = R := by omega
        have hz0 : roomSA A cc = 0 := by omega
        have i1 : ¬ (k : Int) < (R : Int) := by omega
        have HZ := hid hz0
        have HJ := hid hJ
        have HRO := hid hro
        have HSL := hid hsl
        clear hRv hJ hro hrm hap hsl hI hlt hk hkR hz0 hgl
        go_wp2_with fail
        refine HRv.out.mono ?_
        rintro e w5 hpost
        obtain ⟨n1, n2⟩ := room_none HRO.out.len HCC.out HZ.out
        rcases hpost.ok with ⟨A', V', hA', _, _, _⟩ | ⟨q1, q2, rfl, hs5, hm5⟩
        · rcases hA' with ⟨rfl, q⟩ | ⟨q, j, hj, hz, rfl⟩
          · exact absurd n1 q
          · exact absurd hz (n2 j hj)
        · have hbel5 : Below w.heap.size w w5 := HJ.out.bel.trans (hm5.only.below (fun x hx => by obtain ⟨i, hi⟩ := foot_mem.1 hx; exact Nat.le_trans HN2.out (HSL.out.lo i x hi)) HJ.out.bel.size)
          have hRm5 := Room_z w2.heap.size B V1 (bs.length : Int) A cc hs.length w5 hs5 HRO.out.len (by have := HLEN.out; omega) HCC.out (by rw [n1]; simp)
          rw [HZ.out] at hRm5
          have HRM5 := hid hRm5
          have HBEL5 := hid hbel5
          clear hpost hs5 hm5 hbel5 hRm5 n1 n2 q1 q2
          go_wp2_with fail
          refine HRM5.out.mono ?_
          rintro e w6 ⟨rfl, hb6⟩
          have HBEL6 := hid (HBEL5.out.trans (hb6.mono HBEL5.out.size))
          clear hb6
          go_wp2_with fail
          refine (Ev.known6_run w6).mono ?_
          rintro e w7 ⟨rfl, hb7⟩
          have HBEL7 := hid (HBEL6.out.trans (hb7.mono HBEL6.out.size))
          clear hb7
          go_wp2
          go_ret
          exact ⟨rfl, HBEL7.out⟩
  · have known : ∀ w1, Below w.heap.size w w1 → Calls Try.prog 17 #[] w1 fun e w' => e = .returned (.bool true) ∧ Below w.heap.size w w' := by
      intro w1 hb
      refine (Ev.known6_run w1).mono ?_
      rintro e w2 ⟨h1, h2⟩
      exact ⟨h1, hb.trans (h2.mono hb.size)⟩
    have HK := hid known
    have HGO := hid hgo
    clear known hgo
    cases hfw : fewH hs
    · rw [hfw] at hF
      go_enter Try.func4, Try.ntmps4
      go_wp2_with fail
      refine hF.out.mono ?_
      rintro e w1 ⟨rfl, hb1⟩
      go_wp2_with fail
      refine (HK.out w1 hb1).mono ?_
      rintro e w2 ⟨rfl, hb2⟩
      have HB2 := hid hb2
      clear hb2 hb1
      go_wp2
      go_ret
      exact ⟨rfl, HB2.out⟩
    · rw [hfw] at hF
      by_cases hc1 : c < 1
      · go_enter Try.func4, Try.ntmps4
        go_wp2_with fail
        refine hF.out.mono ?_
        rintro e w1 ⟨rfl, hb1⟩
        go_wp2_with fail
        refine (HK.out w1 hb1).mono ?_
        rintro e w2 ⟨rfl, hb2⟩
        have HB2 := hid hb2
        clear hb2 hb1
        go_wp2
        go_ret
        exact ⟨rfl, HB2.out⟩
      · have hc3 : c > 3 := Int.not_le.1 fun hle => HGO.out ⟨hfw, hc1, by omega⟩
        go_enter Try.func4, Try.ntmps4
        go_wp2_with fail
        refine hF.out.mono ?_
        rintro e w1 ⟨rfl, hb1⟩
        go_wp2_with fail
        refine (HK.out w1 hb1).mono ?_
        rintro e w2 ⟨rfl, hb2⟩
        have HB2 := hid hb2
        clear hb2 hb1
        go_wp2
        go_ret
        exact ⟨rfl, HB2.out⟩

end Go.Proofs.Ytbkaemajjaiklaa
