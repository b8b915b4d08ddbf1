/- The law's few and behind. -/
import Derived.Deep.RegionHeld3
import Derived.Test.YtdhnacajgmjmlaaDo
namespace Go.Proofs.Ytdhnacajgmjmlaa
open Go.RowKit
set_option linter.unusedVariables false
set_option linter.unusedSimpArgs false

structure CallT where
  op : Int
  key : Int
  hi : Int
  lim : Int
  val : ByteArray
def callCells (c : CallT) : Array Value := #[.int .i64 c.op, .int .u64 c.key, .int .u64 c.hi, .int .i64 c.lim, .string c.val]
def CallsAt (w : World) (v : Value) (cs : List CallT) : Prop :=
  ∃ (ao : Option Addr) (cap : Nat), v = .slice ao cs.length cap ∧ ((cs = [] ∧ (ao = none → cap = 0)) ∨ ∃ b off, ao = some ⟨b, off, none⟩ ∧ b < w.heap.size ∧ ∀ i (h : i < cs.length) j, j < 5 → w.cell? ⟨b, off + i * 5 + j, none⟩ = (callCells cs[i])[j]?)
theorem CallsAt.bel {w w' : World} {v : Value} {cs : List CallT} (h : CallsAt w v cs) (hb : Below w.heap.size w w') : CallsAt w' v cs := by
  obtain ⟨ao, cap, rfl, h⟩ := h
  refine ⟨ao, cap, rfl, ?_⟩
  rcases h with h | ⟨b, off, rfl, hlt, hc⟩
  · exact Or.inl h
  · exact Or.inr ⟨b, off, rfl, Nat.lt_of_lt_of_le hlt hb.size, fun i hi j hj => (hb.cell (p := ⟨b, off + i * 5 + j, none⟩) hlt).trans (hc i hi j hj)⟩
theorem CallsAt.drewN {w : World} {v : Value} {cs : List CallT} (h : CallsAt w v cs) (n : Nat) : CallsAt (w.drewN n) v cs := h
def fewB (cs : List CallT) (most : Int) : Bool := decide ((cs.length : Int) ≤ most ∧ ∀ c ∈ cs, c.val.size ≤ 200)
theorem fewB_t {cs : List CallT} {most : Int} (h : fewB cs most = true) : (cs.length : Int) ≤ most := (of_decide_eq_true h).1

set_option maxRecDepth 100000 in
set_option maxHeartbeats 1000000 in
theorem few_z (v : Value) (cs : List CallT) (most : Int) (w : World) (h : CallsAt w v cs) (hm : cs.length ≤ 9223372036854775807) :
    Calls Try.prog 36 #[v, .int .i64 most] w fun e w' => e = .returned (.bool (fewB cs most)) ∧ w = w' := by
  obtain ⟨ao, cap, rfl, h⟩ := h
  obtain ⟨n, hn⟩ : ∃ n, n = cs.length := ⟨_, rfl⟩
  rw [← hn] at hm ⊢
  by_cases hlen : (n : Int) ≤ most
  · have i0 : ¬ (n : Int) > most := by omega
    have HN := hid hn
    have HH := hid h
    clear hn h
    go_enter Try.func36, Try.ntmps36
    go_wp2
    go_loopw [5] (fun i wr => ∃ k : Nat, k ≤ n ∧ i = .int .i64 k ∧ w = wr ∧ Hid (∀ j (hj : j < cs.length), j < k → cs[j].val.size ≤ 200)) (fun i _ => (n - (intOf i).toNat))
    case atStart => exact ⟨0, by omega, rfl, rfl, fun j hj hk => by omega⟩
    case round =>
      obtain ⟨k, hk, rfl, rfl, hS⟩ := hrel
      by_cases hlt : k < n
      · have hkl : k < cs.length := by have := HN.out; omega
        rcases HH.out with h0 | ⟨b, off, rfl, hbl, hc⟩
        · have := HN.out; rw [h0.1] at this; simp at this; omega
        have x0 := hc k hkl 4 (by omega)
        obtain ⟨S, hS0⟩ : ∃ S, S = cs[k].val := ⟨_, rfl⟩
        have x1 : w.cell? ⟨b, off + k * 5 + 4, none⟩ = some (.string S) := by rw [x0, hS0]; rfl
        have HS0 := hid hS0
        have i1 : (0 : Int) ≤ (k : Int) := by omega
        have i2 : (k : Int) < (n : Int) := by omega
        clear hc x0 hS0
        by_cases hs : S.size ≤ 200
        · have i3 : ¬ (S.size : Int) > 200 := by omega
          have hS' : Hid (∀ j (hj : j < cs.length), j < k + 1 → cs[j].val.size ≤ 200) := fun j hj hjk => by
            by_cases he : j = k
            · subst he; rw [← HS0.out]; exact hs
            · exact hS.out j hj (by omega)
          clear hS
          go_wp2
          go_roundw
          case rel => exact ⟨k + 1, by omega, by go_num, trivial, hS'⟩
          case measure => simp [intOf]; omega
        · have hf : Hid (fewB cs most = false) := decide_eq_false fun hx => hs (by rw [HS0.out]; exact hx.2 _ (List.getElem_mem hkl))
          clear hS
          go_wp2
          go_ret
          exact ⟨by rw [hf.out]; rfl, rfl⟩
      · obtain rfl : k = n := by omega
        have hf : Hid (fewB cs most = true) := decide_eq_true ⟨by have := HN.out; omega, fun c hc => by
          obtain ⟨j, hj, rfl⟩ := List.mem_iff_getElem.1 hc
          exact hS.out j hj (by have := HN.out; omega)⟩
        clear hS
        go_wp2
        go_ret
        exact ⟨by rw [hf.out]; rfl, rfl⟩
  · have i0 : (n : Int) > most := by omega
    have hf := hid (show fewB cs most = false from decide_eq_false fun hx => hlen (by rw [hn]; exact hx.1))
    clear h hn
    go_enter Try.func36, Try.ntmps36
    go_wp2
    go_ret
    exact ⟨by rw [hf.out]; rfl, rfl⟩

theorem strB_self (s : ByteArray) : strB s s = true := by simp [strB]
theorem pairsEq_self (ps : PairL) : pairsEq ps ps = true := pairsEq_all rfl fun k h1 h2 => by simp [pairEq]
theorem same_self (c : Int) (s : ByteArray) (ps : PairL) : (c == c && (strB s s && pairsEq ps ps)) = true := by simp [strB_self, pairsEq_self]

/-- what behind leaves -/
def BehPost (w : World) (n : Nat) (e : Ending) (w' : World) : Prop :=
  ∃ m v r u L, e = .returned (.tuple #[.pointer (some ⟨m, 0, none⟩), .pointer (some ⟨r, 0, none⟩), .bool true]) ∧ L.length ≤ n ∧ Both w m v (absL L) r u L w'
theorem Both.start {w w1 : World} {m : Nat} {v : Value} (h : OwnMap w m v [] w1) : Both w m v (absL []) w1.heap.size (.slice none 0 0) [] (w1.alloc (.cells #[.slice none 0 0] 50)) :=
  ⟨(h.bel' (ba (Below.refl _ _) _)).map, RefIs.new w1, ba h.bel _, h.low, fun k hk => by
    rcases foot_mem.1 hk with rfl | hk
    · exact h.bel.size
    · simp [Value.ownBlock] at hk, fun k hk hk2 => by
    have := h.map.foot_lt k hk
    rcases foot_mem.1 hk2 with rfl | hk2
    · omega
    · simp [Value.ownBlock] at hk2⟩

theorem cellsC {w X : World} {b off k : Nat} {o K H M : Int} {S : ByteArray} (hb : Below w.heap.size w X) (hbl : b < w.heap.size) (hc : ∀ j, j < 5 → w.cell? ⟨b, off + k * 5 + j, none⟩ = (callCells ⟨o, K, H, M, S⟩)[j]?) :
    X.cell? ⟨b, off + k * 5, none⟩ = some (.int .i64 o) ∧ X.cell? ⟨b, off + k * 5 + 1, none⟩ = some (.int .u64 K) ∧ X.cell? ⟨b, off + k * 5 + 2, none⟩ = some (.int .u64 H) ∧ X.cell? ⟨b, off + k * 5 + 3, none⟩ = some (.int .i64 M) ∧ X.cell? ⟨b, off + k * 5 + 4, none⟩ = some (.string S) :=
  ⟨(hb.cell (p := ⟨b, off + k * 5, none⟩) hbl).trans (hc 0 (by omega)), (hb.cell (p := ⟨b, off + k * 5 + 1, none⟩) hbl).trans (hc 1 (by omega)), (hb.cell (p := ⟨b, off + k * 5 + 2, none⟩) hbl).trans (hc 2 (by omega)), (hb.cell (p := ⟨b, off + k * 5 + 3, none⟩) hbl).trans (hc 3 (by omega)), (hb.cell (p := ⟨b, off + k * 5 + 4, none⟩) hbl).trans (hc 4 (by omega))⟩
theorem doP_few {o K H M : Int} {n : Nat} {ps : PairL} : (doP o K H M n ps).length ≤ 1000000 := by
  unfold doP
  split
  · rename_i h
    have hb := h.1
    rw [h.2, bounds_may] at hb
    obtain ⟨_, h1, h2⟩ := bounds_ok hb
    unfold scanL
    have := List.length_take_le M.toNat (ps.filter fun p => decide (K ≤ p.1 ∧ p.1 ≤ H))
    omega
  · simp

set_option maxRecDepth 100000 in
set_option maxHeartbeats 4000000 in
theorem behind_z (v0 : Value) (cs : List CallT) (w : World) (h : CallsAt w v0 cs) (hn : cs.length ≤ 1000) :
    Calls Try.prog 37 #[v0] w (BehPost w cs.length) := by
  obtain ⟨ao, cap, rfl, h⟩ := h
  obtain ⟨n, hl⟩ : ∃ n, n = cs.length := ⟨_, rfl⟩
  rw [← hl] at hn ⊢
  have HN := hid hl
  have HH := hid h
  clear hl h
  go_enter Try.func37, Try.ntmps37
  go_wp2_with fail
  refine (New_nil w).mono ?_
  rintro e w1 ⟨m, v, rfl, hown⟩
  have hB := hid (Both.start hown)
  have HO := hid hown.bel.size
  have c1 : m ≠ w1.heap.size := Nat.ne_of_lt hown.map.obj.lt
  clear hown
  go_wp2_with fail
  go_loopw [7] (fun i wr => ∃ (k : Nat) (v' u : Value) (L : RL), k ≤ n ∧ i = .int .i64 k ∧ L.length ≤ k ∧ Hid (Both w m v' (absL L) w1.heap.size u L wr)) (fun i _ => (n - (intOf i).toNat))
  case atStart => exact ⟨0, v, .slice none 0 0, [], by omega, rfl, by simp, hB⟩
  case round =>
    obtain ⟨k, v', u, L, hk, rfl, hLk, hS⟩ := hrel
    by_cases hlt : k < n
    · have hkl : k < cs.length := by have := HN.out; omega
      rcases HH.out with h0 | ⟨b, off, rfl, hbl, hc⟩
      · have := HN.out; rw [h0.1] at this; simp at this; omega
      have hcc := hid (hc k hkl)
      obtain ⟨C, hC⟩ : ∃ C, C = cs[k] := ⟨_, rfl⟩
      have hC' := hid hC
      rw [← hC] at hcc
      obtain ⟨o, K, H, M, S⟩ := C
      obtain ⟨g0, g1, g2, g3, g4⟩ := cellsC hS.out.bel hbl hcc.out
      have i1 : (0 : Int) ≤ (k : Int) := by omega
      have i2 : (k : Int) < (n : Int) := by omega
      have hfew : (absL L).length + 1 ≤ 1000000 := by have := absL_length L; omega
      clear hc hC
      go_wp2
      go_region_held3 (fun w' => w'.cell? ⟨b, off + k * 5, none⟩ = some (.int .i64 o) ∧ w'.cell? ⟨b, off + k * 5 + 1, none⟩ = some (.int .u64 K) ∧ w'.cell? ⟨b, off + k * 5 + 2, none⟩ = some (.int .u64 H) ∧ w'.cell? ⟨b, off + k * 5 + 3, none⟩ = some (.int .i64 M) ∧ w'.cell? ⟨b, off + k * 5 + 4, none⟩ = some (.string S)) (go_keep)
        (first
        | ((go_at_call 65; refine (MMay_z o K H M S _).mono ?_; rintro e v1 ⟨rfl, hb1⟩; have B1 := hid (hS.out.bel' (bx (bdrew (Below.refl _ _)) hb1)); obtain ⟨k0, k1, k2, k3, k4⟩ := cellsC B1.out.bel hbl hcc.out; clear hb1))
        | ((go_at_call 58; refine (RMay_z22 o K H M S _).mono ?_; rintro e v2 ⟨rfl, hb2⟩; have B2 := hid (B1.out.bel' hb2); obtain ⟨l0, l1, l2, l3, l4⟩ := cellsC B2.out.bel hbl hcc.out; clear hb2))
        | ((go_at_call 38; refine (Do_z m v' o K H M S _ _ B2.out.map hfew).mono ?_; intro e v3 hp; obtain ⟨v'', pv, rfl, hm', ho', hown', hrow', hpf'⟩ := hp; obtain ⟨pa, pn, rfl⟩ := row_form hrow'; have B3 := hid (B2.out.mapTurn hm' ho' hown'); have HR3 := hid hrow'; have HP3 : Hid (∀ q, (Value.slice pa (List.length (doP o K H M S.size (absL L))) pn).ownBlock = some q → q ∉ foot w1.heap.size u) := (fun q hq hx => by have h1 := (row_lt hrow' q hq).1; have h2 := B2.out.ref.foot_lt q hx; omega); obtain ⟨m0, m1, m2, m3, m4⟩ := cellsC B3.out.bel hbl hcc.out; clear hm' ho' hown' hrow' hpf'))
        | ((go_at_call 22; refine (RDo_z _ u o K H M S L _ B3.out.ref (by omega)).mono ?_; intro e v4 hp; obtain ⟨L', hL1, hL2, u', qv, rfl, hm', ho', hown', hrow', hpf'⟩ := hp; obtain ⟨qa, qn, rfl⟩ := row_form hrow'; have HL1 := hid hL1; have B4 := hid (B3.out.refTurn hm' ho' hown'); have HR4 := hid (row_zero (ho'.own (row_zero HR3.out) HP3.out)); have HR5 := hid (row_zero hrow'); obtain ⟨n0, n1, n2, n3, n4⟩ := cellsC B4.out.bel hbl hcc.out; clear hL1 hm' ho' hown' hrow' hpf'))
        | ((go_at_call 39; refine (RSame_z _ _ _ _ _ _ _ _ _ HR4.out HR5.out doP_few doP_few).mono ?_; rintro e v5 ⟨rfl, hb5⟩; rw [same_self]; have B5 : Hid (Both w m v'' (absL L') w1.heap.size u' L' v5) := (by have := B4.out.bel' hb5; rw [← HL1.out] at this; exact this); obtain ⟨o0, o1, o2, o3, o4⟩ := cellsC B5.out.bel hbl hcc.out; clear hb5)))
      have hL3 : L'.length ≤ k + 1 := by omega
      clear hS hL2 hLk B1 B2 B3 B4
      go_wp2
      go_roundw
      case rel => exact ⟨k + 1, v'', u', L', by omega, by go_num, hL3, B5⟩
      case measure => simp [intOf]; omega
    · obtain rfl : k = n := by omega
      have hfew := hid (show (absL L).length ≤ 1000000 by have := absL_length L; omega)
      go_wp2_with fail
      refine (Pairs_some m v' (absL L) _ hS.out.map).mono ?_
      rintro e v3 ⟨pv, rfl, hr3, hb3⟩
      obtain ⟨pa, pn, rfl⟩ := row_form hr3
      have B3 := hid (hS.out.bel' hb3)
      have HR3 := hid (row_zero hr3)
      clear hr3 hb3
      go_wp2_with fail
      refine (RPairs_z _ u L _ B3.out.ref).mono ?_
      rintro e v4 ⟨qv, rfl, hr4, hb4⟩
      obtain ⟨qa, qn, rfl⟩ := row_form hr4
      have B4 := hid (B3.out.bel' hb4)
      have HR4 := hid (row_zero hr4)
      have HR5 := hid ((Only.of_below hb4 []).own HR3.out (fun _ _ => by simp))
      clear hr4 hb4
      go_wp2_with fail
      refine (RSamePairs_z _ _ _ _ _ HR5.out HR4.out hfew.out hfew.out).mono ?_
      rintro e v5 ⟨rfl, hb5⟩
      rw [pairsEq_self]
      have B5 := hid (B4.out.bel' hb5)
      clear hb5 hS B3 B4
      go_wp2
      go_ret3
      exact ⟨m, v', _, u, L, rfl, hLk, B5.out⟩

end Go.Proofs.Ytdhnacajgmjmlaa
