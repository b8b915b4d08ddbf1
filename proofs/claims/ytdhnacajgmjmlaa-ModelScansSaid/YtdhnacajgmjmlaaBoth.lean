/- What lies beside both maps is kept while they turn; New over any slice of pairs. -/
import Derived.Test.YtdhnacajgmjmlaaKnown
namespace Go.Proofs.Ytdhnacajgmjmlaa
open Go.RowKit
set_option linter.unusedVariables false
set_option linter.unusedSimpArgs false

structure Turn (m r : Nat) (w : World) (v u : Value) (w' : World) (v' u' : Value) : Prop where
  only : Only (foot m v ++ foot r u) w w'
  mf : ∀ k, k ∈ foot m v' → k ∈ foot m v ∨ w.heap.size ≤ k
  rf : ∀ k, k ∈ foot r u' → k ∈ foot r u ∨ w.heap.size ≤ k
theorem Turn.bel {m r : Nat} {w w' : World} {v u : Value} (hb : Below w.heap.size w w') : Turn m r w v u w' v u := ⟨Only.of_below hb _, fun k hk => Or.inl hk, fun k hk => Or.inl hk⟩
theorem foot_turn {m : Nat} {v v' : Value} {w : World} (h : ∀ k, v'.ownBlock = some k → v.ownBlock = some k ∨ w.heap.size ≤ k) : ∀ k, k ∈ foot m v' → k ∈ foot m v ∨ w.heap.size ≤ k := fun k hk => by
  rcases foot_mem.1 hk with rfl | hk
  · exact Or.inl (foot_mem.2 (Or.inl rfl))
  · rcases h k hk with h1 | h1
    · exact Or.inl (foot_mem.2 (Or.inr h1))
    · exact Or.inr h1
theorem Turn.map {m r : Nat} {w w' : World} {v v' u : Value} (ho : Only (foot m v) w w') (h : ∀ k, v'.ownBlock = some k → v.ownBlock = some k ∨ w.heap.size ≤ k) : Turn m r w v u w' v' u :=
  ⟨ho.mono fun x hx => List.mem_append.2 (Or.inl hx), foot_turn h, fun k hk => Or.inl hk⟩
theorem Turn.ref {m r : Nat} {w w' : World} {v u u' : Value} (ho : Only (foot r u) w w') (h : ∀ k, u'.ownBlock = some k → u.ownBlock = some k ∨ w.heap.size ≤ k) : Turn m r w v u w' v u' :=
  ⟨ho.mono fun x hx => List.mem_append.2 (Or.inr hx), fun k hk => Or.inl hk, foot_turn h⟩
theorem Turn.trans {m r : Nat} {w1 w2 w3 : World} {v1 v2 v3 u1 u2 u3 : Value} (h : Turn m r w1 v1 u1 w2 v2 u2) (k : Turn m r w2 v2 u2 w3 v3 u3) : Turn m r w1 v1 u1 w3 v3 u3 := by
  refine ⟨h.only.trans k.only fun x hx => ?_, fun x hx => ?_, fun x hx => ?_⟩
  · rcases List.mem_append.1 hx with hx | hx
    · rcases h.mf x hx with h1 | h1
      · exact Or.inl (List.mem_append.2 (Or.inl h1))
      · exact Or.inr h1
    · rcases h.rf x hx with h1 | h1
      · exact Or.inl (List.mem_append.2 (Or.inr h1))
      · exact Or.inr h1
  · rcases k.mf x hx with h1 | h1
    · exact h.mf x h1
    · exact Or.inr (Nat.le_trans h.only.size h1)
  · rcases k.rf x hx with h1 | h1
    · exact h.rf x h1
    · exact Or.inr (Nat.le_trans h.only.size h1)

/-- a block beside both -/
structure Side (m r : Nat) (v u : Value) (w : World) (b : Nat) (t : TypeId) (cs : Array Value) : Prop where
  blk : Blk w b t cs
  nm : b ∉ foot m v
  nr : b ∉ foot r u
theorem Side.turn {m r : Nat} {w w' : World} {v v' u u' : Value} {b : Nat} {t : TypeId} {cs : Array Value} (h : Side m r v u w b t cs) (k : Turn m r w v u w' v' u') : Side m r v' u' w' b t cs :=
  ⟨k.only.blk h.blk fun hx => (List.mem_append.1 hx).elim h.nm h.nr, fun hx => (k.mf b hx).elim h.nm fun h1 => by have := h.blk.lt; omega, fun hx => (k.rf b hx).elim h.nr fun h1 => by have := h.blk.lt; omega⟩
/-- a row beside both -/
structure SideRow (m r : Nat) (v u : Value) (w : World) (pv : Value) (ps : PairL) : Prop where
  row : w.ownsRow 0 52 2 pv ps.length (pc ps)
  nm : ∀ b, pv.ownBlock = some b → b ∉ foot m v
  nr : ∀ b, pv.ownBlock = some b → b ∉ foot r u
theorem SideRow.turn {m r : Nat} {w w' : World} {v v' u u' : Value} {pv : Value} {ps : PairL} (h : SideRow m r v u w pv ps) (k : Turn m r w v u w' v' u') : SideRow m r v' u' w' pv ps :=
  ⟨k.only.own h.row fun b hb hx => (List.mem_append.1 hx).elim (h.nm b hb) (h.nr b hb), fun b hb hx => (k.mf b hx).elim (h.nm b hb) fun h1 => by have := (row_lt h.row b hb).2; omega, fun b hb hx => (k.rf b hx).elim (h.nr b hb) fun h1 => by have := (row_lt h.row b hb).2; omega⟩
theorem Both.side {w0 w : World} {m r : Nat} {v u : Value} {ps : PairL} {L : RL} (h : Both w0 m v ps r u L w) (t : TypeId) (cs : Array Value) : Side m r v u (w.alloc (.cells cs t)) w.heap.size t cs :=
  ⟨Blk.new w t cs, fun hx => Nat.lt_irrefl _ (h.map.foot_lt _ hx), fun hx => Nat.lt_irrefl _ (h.ref.foot_lt _ hx)⟩
theorem Both.sideRow {w0 w w' : World} {m r : Nat} {v u : Value} {ps qs : PairL} {L : RL} (h : Both w0 m v ps r u L w) {pv : Value} (hr : w'.ownsRow w.heap.size 52 2 pv qs.length (pc qs)) : SideRow m r v u w' pv qs :=
  ⟨row_zero hr, fun b hb hx => by have := (row_lt hr b hb).1; have := h.map.foot_lt _ hx; omega, fun b hb hx => by have := (row_lt hr b hb).1; have := h.ref.foot_lt _ hx; omega⟩

theorem Both.putPost {w0 w w' : World} {m r : Nat} {v u : Value} {ps ps' : PairL} {L : RL} {res : Value} {e : Ending} (h : Both w0 m v ps r u L w) (hp : MapPost w m v ps' res e w') : e = .returned res ∧ ∃ v', Both w0 m v' ps' r u L w' ∧ Turn m r w v u w' v' u := by
  obtain ⟨v', rfl, hm, ho, hown⟩ := hp
  exact ⟨rfl, v', h.mapTurn hm ho hown, Turn.map ho hown⟩
theorem Both.doPost {w0 w w' : World} {m r : Nat} {v u : Value} {ps ps' qs : PairL} {L : RL} {c : Int} {s : ByteArray} {e : Ending} (h : Both w0 m v ps r u L w) (hp : RespPost w m v ps' c s qs e w') :
    ∃ v' pa pn, e = .returned (.agg #[.int .i64 c, .string s, .slice pa qs.length pn]) ∧ Both w0 m v' ps' r u L w' ∧ Turn m r w v u w' v' u ∧ SideRow m r v' u w' (.slice pa qs.length pn) qs := by
  obtain ⟨v', pv, rfl, hm, ho, hown, hr, hf⟩ := hp
  obtain ⟨pa, pn, rfl⟩ := row_form hr
  exact ⟨v', pa, pn, rfl, h.mapTurn hm ho hown, Turn.map ho hown, row_zero hr, hf, fun b hb hx => by have := (row_lt hr b hb).1; have := h.ref.foot_lt b hx; omega⟩
theorem Both.rdoPost {w0 w w' : World} {m r : Nat} {v u : Value} {ps : PairL} {L : RL} {op key hi lim : Int} {s : ByteArray} {e : Ending} (h : Both w0 m v ps r u L w) (hp : RDoPost w r u op key hi lim s L e w') :
    ∃ L' u' pa pn, e = .returned (.agg #[.int .i64 (doC op key hi lim s.size (absL L)), .string (doV op key hi lim s.size (absL L)), .slice pa (doP op key hi lim s.size (absL L)).length pn]) ∧ absL L' = doN op key hi lim s (absL L) ∧ L'.length ≤ L.length + 1 ∧ Both w0 m v ps r u' L' w' ∧ Turn m r w v u w' v u' ∧
      SideRow m r v u' w' (.slice pa (doP op key hi lim s.size (absL L)).length pn) (doP op key hi lim s.size (absL L)) := by
  obtain ⟨L', hL1, hL2, u', pv, rfl, hm, ho, hown, hr, hf⟩ := hp
  obtain ⟨pa, pn, rfl⟩ := row_form hr
  exact ⟨L', u', pa, pn, rfl, hL1, hL2, h.refTurn hm ho hown, Turn.ref ho hown, row_zero hr, fun b hb hx => by have := (row_lt hr b hb).1; have := h.map.foot_lt b hx; omega, hf⟩

/-- a slice of pairs, wherever it lies -/
def PairsAt (w : World) (v : Value) (ps : PairL) : Prop :=
  ∃ (ao : Option Addr) (cap : Nat), v = .slice ao ps.length cap ∧ (ps = [] ∨ ∃ b off, ao = some ⟨b, off, none⟩ ∧ b < w.heap.size ∧ ∀ i (h : i < ps.length), w.cell? ⟨b, off + i * 2, none⟩ = some (.int .u64 ps[i].1) ∧ w.cell? ⟨b, off + i * 2 + 1, none⟩ = some (.string ps[i].2))
theorem PairsAt.bel {w w' : World} {v : Value} {ps : PairL} (h : PairsAt w v ps) (hb : Below w.heap.size w w') : PairsAt w' v ps := by
  obtain ⟨ao, cap, rfl, h⟩ := h
  refine ⟨ao, cap, rfl, ?_⟩
  rcases h with h | ⟨b, off, rfl, hlt, hc⟩
  · exact Or.inl h
  · exact Or.inr ⟨b, off, rfl, Nat.lt_of_lt_of_le hlt hb.size, fun i hi => ⟨(hb.cell (p := ⟨b, off + i * 2, none⟩) hlt).trans (hc i hi).1, (hb.cell (p := ⟨b, off + i * 2 + 1, none⟩) hlt).trans (hc i hi).2⟩⟩

set_option maxRecDepth 100000 in
set_option maxHeartbeats 1000000 in
theorem New_at (v0 : Value) (ps : PairL) (w : World) (h : PairsAt w v0 ps) (hn : ps.length ≤ 1000) :
    Calls Try.prog 23 #[v0] w (NewPost w (newL ps)) := by
  obtain ⟨ao, cap, rfl, h⟩ := h
  obtain ⟨n, hl⟩ : ∃ n, n = ps.length := ⟨_, rfl⟩
  rw [← hl] at hn ⊢
  have HL := hid hl.symm
  have HH := hid h
  clear h hl
  go_enter Try.func23, Try.ntmps23
  go_wp2_with fail
  go_loopw [10] (fun i wr => ∃ (k : Nat) (v : Value), k ≤ n ∧ i = .int .i64 k ∧ Hid (OwnMap w w.heap.size v (newL (ps.take k)) wr)) (fun i _ => (n - (intOf i).toNat))
  case atStart => exact ⟨0, _, by omega, rfl, ⟨MapIs.new w, ba (Below.refl _ _) _, by simp [foot, Value.ownBlock]⟩⟩
  case round =>
    obtain ⟨k, v, hk, rfl, hS⟩ := hrel
    by_cases hlt : k < n
    · have hkl : k < ps.length := by have := HL.out; omega
      rcases HH.out with h0 | ⟨b, off, rfl, hbl, hc⟩
      · have := HL.out; rw [h0] at this; simp at this; omega
      have z0 := (hS.out.bel.cell (p := ⟨b, off + k * 2, none⟩) hbl).trans (hc k hkl).1
      have z1 := (hS.out.bel.cell (p := ⟨b, off + k * 2 + 1, none⟩) hbl).trans (hc k hkl).2
      obtain ⟨K, hK⟩ : ∃ K, K = ps[k].1 := ⟨_, rfl⟩
      obtain ⟨S, hSS⟩ : ∃ S, S = ps[k].2 := ⟨_, rfl⟩
      rw [← hK] at z0
      rw [← hSS] at z1
      have hT := hid (show newL (ps.take (k + 1)) = putZ K S (newL (ps.take k)) by rw [List.take_succ_eq_append_getElem hkl, newL_snoc, hK, hSS])
      have hgw : b < wr.heap.size := by have := hS.out.bel.size; omega
      have i1 : (0 : Int) ≤ (k : Int) := by omega
      have i2 : (k : Int) < (n : Int) := by omega
      have hfew : (newL (ps.take k)).length + 1 ≤ 1000000 := by have := newL_length (ps.take k); simp at this; omega
      clear hK hSS hc
      go_wp2_with fail
      refine (Put_z w.heap.size v K S _ _ (hS.out.map.bel (by (repeat (first | exact Below.refl _ _ | (refine ba ?_ _) | (refine Below.drew ?_) | (refine below_drewN ?_ _) | (refine Below.alloc ?_ (by first | omega | (simp; done) | (simp; omega)) _) | (refine Below.setCell ?_ (by first | omega | (simp; done) | (simp; omega)) _) | (refine bx ?_ (by assumption)) | (refine Below.trans ?_ (Below.mono (by assumption) (by first | omega | (simp; done) | (simp; omega)))))))) hfew).mono ?_
      intro e w2 hp
      obtain ⟨rfl, v', ho'⟩ := (hS.out.bel' (w' := wr.alloc (.cells #[.int .u64 K, .string S] 52)) (ba (Below.refl _ _) _)).post hp
      have hS' : Hid (OwnMap w w.heap.size v' (newL (ps.take (k + 1))) w2) := by rw [hT.out]; exact ho'
      clear hS ho' hp
      go_wp2
      go_roundw
      case rel => exact ⟨k + 1, v', by omega, by go_num, hS'⟩
      case measure => simp [intOf]; omega
    · obtain rfl : k = n := by omega
      have hT : Hid (OwnMap w w.heap.size v (newL ps) wr) := by have := hS.out; rw [List.take_of_length_le (by have := HL.out; omega)] at this; exact this
      clear hS
      go_wp2
      go_ret
      exact ⟨_, _, rfl, hT.out⟩

theorem doN_put (K H M : Int) (S : ByteArray) (ps : PairL) : doN 1 K H M S ps = putZ K S ps := by
  unfold putZ
  by_cases h : 120 < S.size
  · rw [if_pos h]
    exact (do_bad (op := 1) (key := K) (hi := H) (lim := M) (s := S) ps (by unfold mayZ; rw [if_neg (by omega), if_neg (by omega), if_pos ⟨rfl, h⟩]; omega)).2.2.2
  · rw [if_neg h]
    exact (do_put (key := K) (hi := H) (lim := M) (s := S) ps (may_zero (Or.inr (Or.inr (Or.inl ⟨rfl, by omega⟩))))).2.2.2
theorem doC_put (K H M : Int) (S : ByteArray) (ps : PairL) : doC 1 K H M S.size ps = putE S := by
  unfold putE
  by_cases h : 120 < S.size
  · have hm : mayZ 1 K H M S.size = 10 := by unfold mayZ; rw [if_neg (by omega), if_neg (by omega), if_pos ⟨rfl, h⟩]
    rw [if_pos h, (do_bad (op := 1) (key := K) (hi := H) (lim := M) (s := S) ps (by rw [hm]; omega)).1, hm]
  · rw [if_neg h]
    exact (do_put (key := K) (hi := H) (lim := M) (s := S) ps (may_zero (Or.inr (Or.inr (Or.inl ⟨rfl, by omega⟩))))).1

end Go.Proofs.Ytdhnacajgmjmlaa
