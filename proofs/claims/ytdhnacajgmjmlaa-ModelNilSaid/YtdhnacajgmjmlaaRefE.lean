/- The document's Do and Copy: an append of three cells in a drawn region. -/
import Derived.Test.YtdhnacajgmjmlaaMapE
namespace Go.Proofs.Ytdhnacajgmjmlaa
open Go.RowKit
set_option linter.unusedVariables false

/-- what a call on the document's map leaves, and its response -/
def RPost (w : World) (r : Nat) (v : Value) (L' : RL) (c : Int) (s : ByteArray) (qs : PairL) (e : Ending) (w' : World) : Prop :=
  ∃ v' pv, e = .returned (.agg #[.int .i64 c, .string s, pv]) ∧ RefIs w' r v' L' ∧ Only (foot r v) w w' ∧ (∀ k, v'.ownBlock = some k → v.ownBlock = some k ∨ w.heap.size ≤ k) ∧ w'.ownsRow w.heap.size 52 2 pv qs.length (pc qs) ∧ (∀ k, pv.ownBlock = some k → k ∉ foot r v')

theorem RefIs.append {w : World} {r : Nat} {v : Value} {L : RL} (h : RefIs w r v L) (k : Int) (s : ByteArray) (b : Bool) (hn : L.length + 1 ≤ 1000000) :
    ∃ a n c w', (Builtin.append_ #[48, 48] 48 #[v, .slice (some ⟨w.heap.size, 0, none⟩) 1 1]).run Try.prog ((w.alloc (.cells #[.int .u64 k, .string s, .bool b] 123)).drew) = .ok (.slice a n c) w' ∧
      w'.cell? ⟨r, 0, none⟩ = some v ∧ w'.frozen? ⟨r, 0, none⟩ = false ∧ RefIs (w'.setCell ⟨r, 0, none⟩ (.slice a n c)) r (.slice a n c) (L ++ [(k, s, b)]) ∧ Only (foot r v) w w' ∧
      (∀ q, (Value.slice a n c).ownBlock = some q → v.ownBlock = some q ∨ w.heap.size ≤ q) := by
  obtain ⟨i0, hi0, hz0, hz1, hz2⟩ := info_parts infoPut
  have hB : Below w.heap.size w (w.alloc (.cells #[.int .u64 k, .string s, .bool b] 123)).drew := bdrew (ba (Below.refl _ _) _)
  have h1 := h.bel hB
  have hcells : ∀ j u, [Value.int .u64 k, .string s, .bool b][j]? = some u → (w.alloc (.cells #[.int .u64 k, .string s, .bool b] 123)).drew.cell? ((⟨w.heap.size, 0, none⟩ : Addr).add j) = some u := by
    intro j u hj
    have hb := (Blk.new w 123 #[.int .u64 k, .string s, .bool b]).drew
    have := hb.cell j
    have e : (⟨w.heap.size, 0, none⟩ : Addr).add j = ⟨w.heap.size, j, none⟩ := by unfold Addr.add; split <;> simp [*]
    rw [e, this, ← hj]
    simp
  obtain ⟨v', w', hrun, hown', hgrow, _, hob⟩ := run_append_own_at (P := Try.prog) (w := (w.alloc (.cells #[.int .u64 k, .string s, .bool b] 123)).drew) 0 48 48 123 i0 (.agg #[.int .u64 0, .string ⟨#[]⟩, .bool false]) 3 32 Try.underlying48 hi0 hz0 hz1 hz2 rfl (by decide)
            v L.length (rc L) h1.row ⟨w.heap.size, 0, none⟩ 1 1 [.int .u64 k, .string s, .bool b] rfl hcells (by simp [Value.oneCell']) (by unfold maxLen; omega) (by omega) (by omega)
  obtain ⟨a', c', rfl⟩ := row_form hown'
  have hO := h1.obj.grown hgrow (fun e => h.ne_ e.symm)
  have hnew : ∀ q, (Value.slice a' (L.length + 1) c').ownBlock = some q → v.ownBlock = some q ∨ w.heap.size < q := by
    intro q hq
    rcases hob with ho | ho
    · exact Or.inl (ho ▸ hq)
    · right; rw [ho] at hq; have : (w.alloc (.cells #[.int .u64 k, .string s, .bool b] 123)).drew.heap.size = q := by simpa using hq
      simp at this; omega
  have hfar : (Value.slice a' (L.length + 1) c').ownBlock ≠ some r := by
    intro he
    rcases hnew r he with h2 | h2
    · exact h.ne_ h2
    · have := h.obj.lt; omega
  refine ⟨a', _, c', w', hrun, hO.cell 0, hO.frozen 0, ⟨hO.set_ 0 _, ?_, by simp; omega⟩, ?_, fun q hq => ?_⟩
  · have he : rc (L ++ [(k, s, b)]) = rc L ++ [.int .u64 k, .string s, .bool b] := by rw [rc_append]; rfl
    rw [he, List.length_append]
    exact ownsRow_setCell_other (a := ⟨r, 0, none⟩) hown' hfar _
  · exact (Only.of_below hB _).trans (Only.of_grown (f := foot r v) hgrow fun q hq => by simp [foot, hq]) (fun x hx => Or.inl hx)
  · rcases hnew q hq with h2 | h2
    · exact Or.inl h2
    · exact Or.inr (by omega)

theorem RPost.put {w w1 w' : World} {r : Nat} {v v' pv : Value} {L' : RL} {qs : PairL} {c : Int} {s : ByteArray} {f : List Nat} (hf : ∀ x, x ∈ f → w.heap.size ≤ x ∧ x ≠ r ∧ v'.ownBlock ≠ some x)
    (hm : RefIs w1 r v' L') (ho : Only (foot r v) w w1) (hown : ∀ k, v'.ownBlock = some k → v.ownBlock = some k ∨ w.heap.size ≤ k) (hO : Only f w1 w')
    (hpv : w'.ownsRow w.heap.size 52 2 pv qs.length (pc qs)) (hpf : ∀ k, pv.ownBlock = some k → k ∉ foot r v') :
    RPost w r v L' c s qs (.returned (.agg #[.int .i64 c, .string s, pv])) w' :=
  ⟨v', pv, rfl, hm.only hO (fun h => (hf r h).2.1 rfl) (fun k hk h => (hf k h).2.2 hk), ho.trans hO fun x hx => Or.inr (hf x hx).1, hown, hpv, hpf⟩

theorem RPost.bel {w w' : World} {r : Nat} {v pv : Value} {L : RL} {qs : PairL} {c : Int} {s : ByteArray} (h : RefIs w r v L) (hB : Below w.heap.size w w') (hpv : w'.ownsRow w.heap.size 52 2 pv qs.length (pc qs)) :
    RPost w r v L c s qs (.returned (.agg #[.int .i64 c, .string s, pv])) w' :=
  ⟨v, pv, rfl, h.bel hB, Only.of_below hB _, fun k hk => Or.inl hk, hpv, fun k hk hm => by have := (row_lt hpv k hk).1; have := h.foot_lt k hm; omega⟩
theorem RPost.bel0 {w w' : World} {r : Nat} {v : Value} {L : RL} {c : Int} {s : ByteArray} (h : RefIs w r v L) (hB : Below w.heap.size w w') :
    RPost w r v L c s [] (.returned (.agg #[.int .i64 c, .string s, .slice none 0 0])) w' := RPost.bel h hB ⟨rfl, Or.inl ⟨rfl, rfl⟩⟩

set_option maxRecDepth 100000 in
set_option maxHeartbeats 1000000 in
theorem RDo_bad (r : Nat) (v : Value) (op key hi lim : Int) (s : ByteArray) (L : RL) (w : World) (h : RefIs w r v L) (hm : mayZ op key hi lim s.size ≠ 0) :
    Calls Try.prog 22 #[.pointer (some ⟨r, 0, none⟩), .agg #[.int .i64 op, .int .u64 key, .int .u64 hi, .int .i64 lim, .string s]] w (RPost w r v L (mayZ op key hi lim s.size) ⟨#[]⟩ []) := by
  have HH := hid h
  obtain ⟨mz, hmz⟩ : ∃ mz, mz = mayZ op key hi lim s.size := ⟨_, rfl⟩
  have HM := hid hmz
  rw [← hmz] at hm ⊢
  have hb : (mz != 0) = true := by simpa using hm
  have hbl := Blk.new (w.alloc (.cells #[.int .i64 op, .int .u64 key, .int .u64 hi, .int .i64 lim, .string s] 58)) 54 #[.int .i64 0, .string ⟨#[]⟩, .slice none 0 0]
  have hbc := (Blk.new w 58 #[.int .i64 op, .int .u64 key, .int .u64 hi, .int .i64 lim, .string s]).alloc (.cells #[.int .i64 0, .string ⟨#[]⟩, .slice none 0 0] 54)
  have hB := hid (ba (ba (Below.refl w.heap.size w) (.cells #[.int .i64 op, .int .u64 key, .int .u64 hi, .int .i64 lim, .string s] 58)) (.cells #[.int .i64 0, .string ⟨#[]⟩, .slice none 0 0] 54))
  rw [World.size_alloc] at hbl
  have HB := hid hbl
  have HC := hid hbc
  clear hmz hm h hbl hbc
  go_enter Try.func22, Try.ntmps22
  go_wp2_with fail
  refine (RMay_z22 op key hi lim s _).mono ?_
  rintro e v1 ⟨rfl, hb1⟩
  have hb2 := HB.out.bel hb1
  have hb3 := HC.out.bel hb1
  have HH1 := hid (HH.out.bel (bx hB.out hb1))
  have x0 := hb2.cell 0
  have x1 := hb2.cell 1
  have x2 := hb2.cell 2
  have x3 := hb2.frozen 0
  have x4 := hb2.frozen 1
  have x5 := hb2.frozen 2
  have y0 := hb3.cell 0
  have y1 := hb3.cell 1
  have y2 := hb3.cell 2
  have y3 := hb3.cell 3
  have y4 := hb3.cell 4
  have HB2 := hid hb2
  have hz1 := hb1.size
  simp only [World.size_alloc] at hz1
  have c3 : w.heap.size + 1 < v1.heap.size := by omega
  have c4 : w.heap.size < v1.heap.size := by omega
  clear hb2 hb3
  rw [← HM.out]
  go_wp2
  refine bodyPost_ret (v := .agg #[.int .i64 mz, .string ⟨#[]⟩, .slice none 0 0]) (by simp [results, Try.results22, go_sem, x0, x1, x2, c3]) rfl ?_
  exact RPost.bel0 HH.out (by have h0 := bx hB.out hb1; (repeat (first | exact Below.refl _ _ | (refine ba ?_ _) | (refine Below.drew ?_) | (refine below_drewN ?_ _) | (refine Below.alloc ?_ (by first | omega | (simp; done) | (simp; omega)) _) | (refine Below.setCell ?_ (by first | omega | (simp; done) | (simp; omega)) _) | (refine bx ?_ (by assumption)) | (refine Below.trans ?_ (Below.mono (by assumption) (by first | omega | (simp; done) | (simp; omega)))))))

theorem may_zero {op key hi lim : Int} {n : Nat} (h : op = 2 ∨ op = 3 ∨ (op = 1 ∧ n ≤ 120) ∨ (op = 4 ∧ boundsErr key hi lim = 0)) : mayZ op key hi lim n = 0 := by
  rcases h with rfl | rfl | ⟨rfl, h⟩ | ⟨rfl, h⟩
  · unfold mayZ; rw [if_neg (by omega), if_neg (by omega), if_neg (by omega)]
  · unfold mayZ; rw [if_neg (by omega), if_neg (by omega), if_neg (by omega)]
  · unfold mayZ; rw [if_neg (by omega), if_neg (by omega), if_neg (by omega)]
  · rw [bounds_may]; exact h

set_option maxRecDepth 100000 in
set_option maxHeartbeats 1000000 in
theorem RDo_get_no (r : Nat) (v : Value) (key hi lim : Int) (s : ByteArray) (L : RL) (w : World) (h : RefIs w r v L) (hf : findZ key L < 0) :
    Calls Try.prog 22 #[.pointer (some ⟨r, 0, none⟩), .agg #[.int .i64 2, .int .u64 key, .int .u64 hi, .int .i64 lim, .string s]] w (RPost w r v L (errGet key (absL L)) (getM key (absL L)) []) := by
  have hpb : placeB key (absL L) = false := by
    cases hx : placeB key (absL L) with
    | false => rfl
    | true => have := (find_there key L).1 hx; omega
  rw [show errGet key (absL L) = 5 by simp [errGet, hpb], getM_out hpb]
  have HH := hid h
  obtain ⟨fz, hfz⟩ : ∃ fz, fz = findZ key L := ⟨_, rfl⟩
  have HF := hid hfz
  rw [← hfz] at hf
  have HM := hid (may_zero (op := 2) (key := key) (hi := hi) (lim := lim) (n := s.size) (Or.inl rfl))
  have hbl := Blk.new (w.alloc (.cells #[.int .i64 2, .int .u64 key, .int .u64 hi, .int .i64 lim, .string s] 58)) 54 #[.int .i64 0, .string ⟨#[]⟩, .slice none 0 0]
  have hbc := (Blk.new w 58 #[.int .i64 2, .int .u64 key, .int .u64 hi, .int .i64 lim, .string s]).alloc (.cells #[.int .i64 0, .string ⟨#[]⟩, .slice none 0 0] 54)
  have hB := hid (ba (ba (Below.refl w.heap.size w) (.cells #[.int .i64 2, .int .u64 key, .int .u64 hi, .int .i64 lim, .string s] 58)) (.cells #[.int .i64 0, .string ⟨#[]⟩, .slice none 0 0] 54))
  rw [World.size_alloc] at hbl
  have HB := hid hbl
  have HC := hid hbc
  clear h hpb hfz hbl hbc
  go_enter Try.func22, Try.ntmps22
  go_wp2_with fail
  refine (RMay_z22 2 key hi lim s _).mono ?_
  rintro e v1 ⟨rfl, hb1⟩
  have hb2 := HB.out.bel hb1
  have hb3 := HC.out.bel hb1
  have HH1 := hid (HH.out.bel (bx hB.out hb1))
  have x0 := hb2.cell 0
  have x1 := hb2.cell 1
  have x2 := hb2.cell 2
  have x3 := hb2.frozen 0
  have x4 := hb2.frozen 1
  have x5 := hb2.frozen 2
  have y0 := hb3.cell 0
  have y1 := hb3.cell 1
  have y2 := hb3.cell 2
  have y3 := hb3.cell 3
  have y4 := hb3.cell 4
  have HB2 := hid hb2
  have hz1 := hb1.size
  simp only [World.size_alloc] at hz1
  have c3 : w.heap.size + 1 < v1.heap.size := by omega
  have c4 : w.heap.size < v1.heap.size := by omega
  clear hb2 hb3
  rw [HM.out]
  go_wp2_with fail
  refine (Find_z r v key L _ (HH1.out.bel (by (repeat (first | exact Below.refl _ _ | (refine ba ?_ _) | (refine Below.drew ?_) | (refine below_drewN ?_ _) | (refine Below.alloc ?_ (by first | omega | (simp; done) | (simp; omega)) _) | (refine Below.setCell ?_ (by first | omega | (simp; done) | (simp; omega)) _) | (refine bx ?_ (by assumption)) | (refine Below.trans ?_ (Below.mono (by assumption) (by first | omega | (simp; done) | (simp; omega))))))))).mono ?_
  rintro e v2 ⟨rfl, rfl⟩
  rw [← HF.out]
  go_wp2
  refine bodyPost_ret (v := .agg #[.int .i64 5, .string ⟨#[]⟩, .slice none 0 0]) (by simp [results, Try.results22, go_sem, x0, x1, x2, c3]) rfl ?_
  exact RPost.bel0 HH.out (by have h0 := bx hB.out hb1; (repeat (first | exact Below.refl _ _ | (refine ba ?_ _) | (refine Below.drew ?_) | (refine below_drewN ?_ _) | (refine Below.alloc ?_ (by first | omega | (simp; done) | (simp; omega)) _) | (refine Below.setCell ?_ (by first | omega | (simp; done) | (simp; omega)) _) | (refine bx ?_ (by assumption)) | (refine Below.trans ?_ (Below.mono (by assumption) (by first | omega | (simp; done) | (simp; omega)))))))

set_option maxRecDepth 100000 in
set_option maxHeartbeats 1000000 in
theorem RDo_get_yes (r : Nat) (v : Value) (key hi lim : Int) (s : ByteArray) (L : RL) (w : World) (h : RefIs w r v L) (i : Nat) (hf : findZ key L = (i : Int)) :
    Calls Try.prog 22 #[.pointer (some ⟨r, 0, none⟩), .agg #[.int .i64 2, .int .u64 key, .int .u64 hi, .int .i64 lim, .string s]] w (RPost w r v L (errGet key (absL L)) (getM key (absL L)) []) := by
  obtain ⟨hil, hk, hs⟩ := find_value hf
  have hpb : placeB key (absL L) = true := (find_there key L).2 (by omega)
  rw [show errGet key (absL L) = 0 by simp [errGet, hpb]]
  have HH := hid h
  have HF := hid hf
  obtain ⟨S, hS⟩ : ∃ S, S = getM key (absL L) := ⟨_, rfl⟩
  rw [← hS] at hs ⊢
  rcases h.row.2 with ⟨_, h0⟩ | ⟨g, cap, cur, hv, _⟩
  · omega
  obtain ⟨n, hn⟩ : ∃ n, n = L.length := ⟨_, rfl⟩
  rw [← hn] at hv
  subst hv
  have Hn := hid hn
  have Hs := hid hs
  have i1 : (0 : Int) ≤ (i : Int) := by omega
  have i2 : (i : Int) < (n : Int) := by omega
  have i3 : ¬ (i : Int) < 0 := by omega
  have HM := hid (may_zero (op := 2) (key := key) (hi := hi) (lim := lim) (n := s.size) (Or.inl rfl))
  have hbl := Blk.new (w.alloc (.cells #[.int .i64 2, .int .u64 key, .int .u64 hi, .int .i64 lim, .string s] 58)) 54 #[.int .i64 0, .string ⟨#[]⟩, .slice none 0 0]
  have hbc := (Blk.new w 58 #[.int .i64 2, .int .u64 key, .int .u64 hi, .int .i64 lim, .string s]).alloc (.cells #[.int .i64 0, .string ⟨#[]⟩, .slice none 0 0] 54)
  have hB := hid (ba (ba (Below.refl w.heap.size w) (.cells #[.int .i64 2, .int .u64 key, .int .u64 hi, .int .i64 lim, .string s] 58)) (.cells #[.int .i64 0, .string ⟨#[]⟩, .slice none 0 0] 54))
  rw [World.size_alloc] at hbl
  have HB := hid hbl
  have HC := hid hbc
  clear h hpb hS hk hs hn hf hbl hbc
  go_enter Try.func22, Try.ntmps22
  go_wp2_with fail
  refine (RMay_z22 2 key hi lim s _).mono ?_
  rintro e v1 ⟨rfl, hb1⟩
  have hb2 := HB.out.bel hb1
  have hb3 := HC.out.bel hb1
  have HH1 := hid (HH.out.bel (bx hB.out hb1))
  have x0 := hb2.cell 0
  have x1 := hb2.cell 1
  have x2 := hb2.cell 2
  have x3 := hb2.frozen 0
  have x4 := hb2.frozen 1
  have x5 := hb2.frozen 2
  have y0 := hb3.cell 0
  have y1 := hb3.cell 1
  have y2 := hb3.cell 2
  have y3 := hb3.cell 3
  have y4 := hb3.cell 4
  have HB2 := hid hb2
  have hz1 := hb1.size
  simp only [World.size_alloc] at hz1
  have c3 : w.heap.size + 1 < v1.heap.size := by omega
  have c4 : w.heap.size < v1.heap.size := by omega
  clear hb2 hb3
  rw [HM.out]
  go_wp2_with fail
  refine (Find_z r _ key L _ (HH1.out.bel (by (repeat (first | exact Below.refl _ _ | (refine ba ?_ _) | (refine Below.drew ?_) | (refine below_drewN ?_ _) | (refine Below.alloc ?_ (by first | omega | (simp; done) | (simp; omega)) _) | (refine Below.setCell ?_ (by first | omega | (simp; done) | (simp; omega)) _) | (refine bx ?_ (by assumption)) | (refine Below.trans ?_ (Below.mono (by assumption) (by first | omega | (simp; done) | (simp; omega))))))))).mono ?_
  rintro e v2 ⟨rfl, rfl⟩
  rw [HF.out]
  have hrow := HH1.out.row
  rw [← Hn.out] at hrow
  obtain ⟨z0, z1, z2⟩ := rrow_at hrow Hn.out.symm i hil
  have hgl := HH1.out.own_lt g rfl
  rw [Hs.out] at z1
  have z3 : (v1.alloc (.cells #[.int .i64 0, .string ⟨#[]⟩, .slice none 0 0] 54)).cell? ⟨g, i * 3 + 1, none⟩ = some (.string S) := ca _ z1
  have z4 : (v1.alloc (.cells #[.int .i64 0, .string ⟨#[]⟩, .slice none 0 0] 54)).cell? ⟨r, 0, none⟩ = some (.slice (some ⟨g, 0, none⟩) n cap) := ca _ (HH1.out.obj.cell 0)
  clear hrow z0 z2
  go_wp2
  refine bodyPost_ret (v := .agg #[.int .i64 0, .string S, .slice none 0 0]) (by simp [results, Try.results22, go_sem, x0, x1, x2, c3]) rfl ?_
  exact RPost.bel0 HH.out (by have h0 := bx hB.out hb1; (repeat (first | exact Below.refl _ _ | (refine ba ?_ _) | (refine Below.drew ?_) | (refine below_drewN ?_ _) | (refine Below.alloc ?_ (by first | omega | (simp; done) | (simp; omega)) _) | (refine Below.setCell ?_ (by first | omega | (simp; done) | (simp; omega)) _) | (refine bx ?_ (by assumption)) | (refine Below.trans ?_ (Below.mono (by assumption) (by first | omega | (simp; done) | (simp; omega)))))))

set_option maxRecDepth 100000 in
set_option maxHeartbeats 1000000 in
theorem RDo_del_no (r : Nat) (v : Value) (key hi lim : Int) (s : ByteArray) (L : RL) (w : World) (h : RefIs w r v L) (hf : findZ key L < 0) :
    Calls Try.prog 22 #[.pointer (some ⟨r, 0, none⟩), .agg #[.int .i64 3, .int .u64 key, .int .u64 hi, .int .i64 lim, .string s]] w (RPost w r v L (errGet key (absL L)) ⟨#[]⟩ []) := by
  have hpb : placeB key (absL L) = false := by
    cases hx : placeB key (absL L) with
    | false => rfl
    | true => have := (find_there key L).1 hx; omega
  rw [show errGet key (absL L) = 5 by simp [errGet, hpb]]
  have HH := hid h
  obtain ⟨fz, hfz⟩ : ∃ fz, fz = findZ key L := ⟨_, rfl⟩
  have HF := hid hfz
  rw [← hfz] at hf
  have HM := hid (may_zero (op := 3) (key := key) (hi := hi) (lim := lim) (n := s.size) (Or.inr (Or.inl rfl)))
  have hbl := Blk.new (w.alloc (.cells #[.int .i64 3, .int .u64 key, .int .u64 hi, .int .i64 lim, .string s] 58)) 54 #[.int .i64 0, .string ⟨#[]⟩, .slice none 0 0]
  have hbc := (Blk.new w 58 #[.int .i64 3, .int .u64 key, .int .u64 hi, .int .i64 lim, .string s]).alloc (.cells #[.int .i64 0, .string ⟨#[]⟩, .slice none 0 0] 54)
  have hB := hid (ba (ba (Below.refl w.heap.size w) (.cells #[.int .i64 3, .int .u64 key, .int .u64 hi, .int .i64 lim, .string s] 58)) (.cells #[.int .i64 0, .string ⟨#[]⟩, .slice none 0 0] 54))
  rw [World.size_alloc] at hbl
  have HB := hid hbl
  have HC := hid hbc
  clear h hpb hfz hbl hbc
  go_enter Try.func22, Try.ntmps22
  go_wp2_with fail
  refine (RMay_z22 3 key hi lim s _).mono ?_
  rintro e v1 ⟨rfl, hb1⟩
  have hb2 := HB.out.bel hb1
  have hb3 := HC.out.bel hb1
  have HH1 := hid (HH.out.bel (bx hB.out hb1))
  have x0 := hb2.cell 0
  have x1 := hb2.cell 1
  have x2 := hb2.cell 2
  have x3 := hb2.frozen 0
  have x4 := hb2.frozen 1
  have x5 := hb2.frozen 2
  have y0 := hb3.cell 0
  have y1 := hb3.cell 1
  have y2 := hb3.cell 2
  have y3 := hb3.cell 3
  have y4 := hb3.cell 4
  have HB2 := hid hb2
  have hz1 := hb1.size
  simp only [World.size_alloc] at hz1
  have c3 : w.heap.size + 1 < v1.heap.size := by omega
  have c4 : w.heap.size < v1.heap.size := by omega
  clear hb2 hb3
  rw [HM.out]
  go_wp2_with fail
  refine (Find_z r v key L _ (HH1.out.bel (by (repeat (first | exact Below.refl _ _ | (refine ba ?_ _) | (refine Below.drew ?_) | (refine below_drewN ?_ _) | (refine Below.alloc ?_ (by first | omega | (simp; done) | (simp; omega)) _) | (refine Below.setCell ?_ (by first | omega | (simp; done) | (simp; omega)) _) | (refine bx ?_ (by assumption)) | (refine Below.trans ?_ (Below.mono (by assumption) (by first | omega | (simp; done) | (simp; omega))))))))).mono ?_
  rintro e v2 ⟨rfl, rfl⟩
  rw [← HF.out]
  go_wp2
  refine bodyPost_ret (v := .agg #[.int .i64 5, .string ⟨#[]⟩, .slice none 0 0]) (by simp [results, Try.results22, go_sem, x0, x1, x2, c3]) rfl ?_
  exact RPost.bel0 HH.out (by have h0 := bx hB.out hb1; (repeat (first | exact Below.refl _ _ | (refine ba ?_ _) | (refine Below.drew ?_) | (refine below_drewN ?_ _) | (refine Below.alloc ?_ (by first | omega | (simp; done) | (simp; omega)) _) | (refine Below.setCell ?_ (by first | omega | (simp; done) | (simp; omega)) _) | (refine bx ?_ (by assumption)) | (refine Below.trans ?_ (Below.mono (by assumption) (by first | omega | (simp; done) | (simp; omega)))))))

theorem RPost.app {w v1 w1 : World} {r : Nat} {v v' : Value} {L L' : RL} {X : Obj} (hB : Below w.heap.size w v1) (h0 : w.heap.size + 1 < v1.heap.size) (h : RefIs w r v L) (k3 : RefIs (w1.setCell ⟨r, 0, none⟩ v') r v' L') (k4 : Only (foot r v) (v1.alloc X) w1)
    (k5 : ∀ q, v'.ownBlock = some q → v.ownBlock = some q ∨ (v1.alloc X).heap.size ≤ q) :
    RPost w r v L' 0 ⟨#[]⟩ [] (.returned (.agg #[.int .i64 0, .string ⟨#[]⟩, .slice none 0 0])) ((((w1.setCell ⟨r, 0, none⟩ v').setCell ⟨w.heap.size + 1, 0, none⟩ (.int .i64 0)).setCell ⟨w.heap.size + 1, 1, none⟩ (.string ⟨#[]⟩)).setCell ⟨w.heap.size + 1, 2, none⟩ (.slice none 0 0)) := by
  have hrl := h.obj.lt
  have hs : (v1.alloc X).heap.size = v1.heap.size + 1 := World.size_alloc _ _
  refine RPost.put (f := [w.heap.size + 1]) ?_ k3 (((Only.of_below (ba hB X) _).trans k4 fun x hx => Or.inl hx).setCell (Or.inl (by simp [foot])) _) (fun q hq => ?_) (only_set3 _ _ _) ⟨rfl, Or.inl ⟨rfl, rfl⟩⟩ (by simp [Value.ownBlock])
  · intro x hx
    simp at hx
    subst hx
    refine ⟨by omega, by omega, fun he => ?_⟩
    rcases k5 _ he with h1 | h1
    · have := h.own_lt _ h1; omega
    · omega
  · rcases k5 q hq with h1 | h1
    · exact Or.inl h1
    · right; omega

set_option maxRecDepth 100000 in
set_option maxHeartbeats 1000000 in
theorem RDo_put (r : Nat) (v : Value) (key hi lim : Int) (s : ByteArray) (L : RL) (w : World) (h : RefIs w r v L) (hn : L.length + 1 ≤ 1000000) (hs : s.size ≤ 120) :
    Calls Try.prog 22 #[.pointer (some ⟨r, 0, none⟩), .agg #[.int .i64 1, .int .u64 key, .int .u64 hi, .int .i64 lim, .string s]] w (RPost w r v (L ++ [(key, s, false)]) 0 ⟨#[]⟩ []) := by
  have HH := hid h
  obtain ⟨fz, hfz⟩ : ∃ fz, fz = findZ key L := ⟨_, rfl⟩
  have HF := hid hfz
  have HM := hid (may_zero (op := 1) (key := key) (hi := hi) (lim := lim) (n := s.size) (Or.inr (Or.inr (Or.inl ⟨rfl, hs⟩))))
  have hbl := Blk.new (w.alloc (.cells #[.int .i64 1, .int .u64 key, .int .u64 hi, .int .i64 lim, .string s] 58)) 54 #[.int .i64 0, .string ⟨#[]⟩, .slice none 0 0]
  have hbc := (Blk.new w 58 #[.int .i64 1, .int .u64 key, .int .u64 hi, .int .i64 lim, .string s]).alloc (.cells #[.int .i64 0, .string ⟨#[]⟩, .slice none 0 0] 54)
  have hB := hid (ba (ba (Below.refl w.heap.size w) (.cells #[.int .i64 1, .int .u64 key, .int .u64 hi, .int .i64 lim, .string s] 58)) (.cells #[.int .i64 0, .string ⟨#[]⟩, .slice none 0 0] 54))
  rw [World.size_alloc] at hbl
  have HB := hid hbl
  have HC := hid hbc
  clear hfz hbl hbc
  go_enter Try.func22, Try.ntmps22
  go_wp2_with fail
  refine (RMay_z22 1 key hi lim s _).mono ?_
  rintro e v1 ⟨rfl, hb1⟩
  have hb2 := HB.out.bel hb1
  have hb3 := HC.out.bel hb1
  have HH1 := hid (HH.out.bel (bx hB.out hb1))
  have x0 := hb2.cell 0
  have x1 := hb2.cell 1
  have x2 := hb2.cell 2
  have x3 := hb2.frozen 0
  have x4 := hb2.frozen 1
  have x5 := hb2.frozen 2
  have y0 := hb3.cell 0
  have y1 := hb3.cell 1
  have y2 := hb3.cell 2
  have y3 := hb3.cell 3
  have y4 := hb3.cell 4
  have HB2 := hid hb2
  have hz1 := hb1.size
  simp only [World.size_alloc] at hz1
  have c3 : w.heap.size + 1 < v1.heap.size := by omega
  have c4 : w.heap.size < v1.heap.size := by omega
  clear hb2 hb3
  rw [HM.out]
  go_wp2_with fail
  refine (Find_z r v key L _ (HH1.out.bel (by (repeat (first | exact Below.refl _ _ | (refine ba ?_ _) | (refine Below.drew ?_) | (refine below_drewN ?_ _) | (refine Below.alloc ?_ (by first | omega | (simp; done) | (simp; omega)) _) | (refine Below.setCell ?_ (by first | omega | (simp; done) | (simp; omega)) _) | (refine bx ?_ (by assumption)) | (refine Below.trans ?_ (Below.mono (by assumption) (by first | omega | (simp; done) | (simp; omega))))))))).mono ?_
  rintro e v2 ⟨rfl, rfl⟩
  rw [← HF.out]
  have HX := hid (HH1.out.bel (w' := v1.alloc (.cells #[.int .i64 0, .string ⟨#[]⟩, .slice none 0 0] 54)) (ba (Below.refl _ _) _))
  obtain ⟨a', n', c', w1, hrun, k1, k2, k3, k4, k5⟩ := HX.out.append key s false hn
  have HRUN := hid hrun
  have K3 := hid k3
  have K4 := hid k4
  have K5 := hid k5
  have hrl := HH1.out.obj.lt
  have z4 : (v1.alloc (.cells #[.int .i64 0, .string ⟨#[]⟩, .slice none 0 0] 54)).cell? ⟨r, 0, none⟩ = some v := ca _ (HH1.out.obj.cell 0)
  have hfl := HH.out.foot_lt
  have n1 : w.heap.size + 1 ∉ foot r v := fun hm => by have := hfl _ hm; omega
  have n2 : v1.heap.size ∉ foot r v := fun hm => by have := hfl _ hm; omega
  have hbR := k4.blk (HB2.out.bel (ba (Below.refl _ _) (.cells #[.int .i64 0, .string ⟨#[]⟩, .slice none 0 0] 54))) n1
  have hbT := k4.blk (Blk.new v1 54 #[.int .i64 0, .string ⟨#[]⟩, .slice none 0 0]) n2
  have m0 := hbR.cell 0
  have m1 := hbR.cell 1
  have m2 := hbR.cell 2
  have m3 := hbR.frozen 0
  have m4 := hbR.frozen 1
  have m5 := hbR.frozen 2
  have m6 := hbT.cell 0
  have m7 := hbT.cell 1
  have m8 := hbT.cell 2
  have q1 : r ≠ w.heap.size + 1 := by have := h.obj.lt; omega
  have q2 : r ≠ v1.heap.size := by omega
  have q3 := q1.symm
  have q4 := q2.symm
  clear hrun k3 k4 k5 hbR hbT hfl h
  go_wp2
  go_region_law (refine step_append_runI rfl (.tmp 28) (.tmp 34) 48 48 rfl _ _ (by simp [Act.eval]) (by simp [Act.eval]) HRUN.out ?_)
  all_goals
    try go_simp
    try simp only [Act.put, List.setIfInBounds_toArray, List.set_cons_zero, List.set_cons_succ]
    go_wp2
    refine bodyPost_ret (v := .agg #[.int .i64 0, .string ⟨#[]⟩, .slice none 0 0]) (by simp [results, Try.results22, go_sem, m0, m1, m2]) rfl ?_
    exact RPost.app (bx hB.out hb1) (by omega) HH.out K3.out K4.out K5.out


set_option maxRecDepth 100000 in
set_option maxHeartbeats 1000000 in
theorem RDo_del_yes (r : Nat) (v : Value) (key hi lim : Int) (s : ByteArray) (L : RL) (w : World) (h : RefIs w r v L) (hn : L.length + 1 ≤ 1000000) (i : Nat) (hf : findZ key L = (i : Int)) :
    Calls Try.prog 22 #[.pointer (some ⟨r, 0, none⟩), .agg #[.int .i64 3, .int .u64 key, .int .u64 hi, .int .i64 lim, .string s]] w (RPost w r v (L ++ [(key, ⟨#[]⟩, true)]) (errGet key (absL L)) ⟨#[]⟩ []) := by
  have hpb : placeB key (absL L) = true := (find_there key L).2 (by omega)
  rw [show errGet key (absL L) = 0 by simp [errGet, hpb]]
  have HH := hid h
  have HF := hid hf
  have i3 : ¬ (i : Int) < 0 := by omega
  have HM := hid (may_zero (op := 3) (key := key) (hi := hi) (lim := lim) (n := s.size) (Or.inr (Or.inl rfl)))
  have hbl := Blk.new (w.alloc (.cells #[.int .i64 3, .int .u64 key, .int .u64 hi, .int .i64 lim, .string s] 58)) 54 #[.int .i64 0, .string ⟨#[]⟩, .slice none 0 0]
  have hbc := (Blk.new w 58 #[.int .i64 3, .int .u64 key, .int .u64 hi, .int .i64 lim, .string s]).alloc (.cells #[.int .i64 0, .string ⟨#[]⟩, .slice none 0 0] 54)
  have hB := hid (ba (ba (Below.refl w.heap.size w) (.cells #[.int .i64 3, .int .u64 key, .int .u64 hi, .int .i64 lim, .string s] 58)) (.cells #[.int .i64 0, .string ⟨#[]⟩, .slice none 0 0] 54))
  rw [World.size_alloc] at hbl
  have HB := hid hbl
  have HC := hid hbc
  clear hf hpb hbl hbc
  go_enter Try.func22, Try.ntmps22
  go_wp2_with fail
  refine (RMay_z22 3 key hi lim s _).mono ?_
  rintro e v1 ⟨rfl, hb1⟩
  have hb2 := HB.out.bel hb1
  have hb3 := HC.out.bel hb1
  have HH1 := hid (HH.out.bel (bx hB.out hb1))
  have x0 := hb2.cell 0
  have x1 := hb2.cell 1
  have x2 := hb2.cell 2
  have x3 := hb2.frozen 0
  have x4 := hb2.frozen 1
  have x5 := hb2.frozen 2
  have y0 := hb3.cell 0
  have y1 := hb3.cell 1
  have y2 := hb3.cell 2
  have y3 := hb3.cell 3
  have y4 := hb3.cell 4
  have HB2 := hid hb2
  have hz1 := hb1.size
  simp only [World.size_alloc] at hz1
  have c3 : w.heap.size + 1 < v1.heap.size := by omega
  have c4 : w.heap.size < v1.heap.size := by omega
  clear hb2 hb3
  rw [HM.out]
  go_wp2_with fail
  refine (Find_z r v key L _ (HH1.out.bel (by (repeat (first | exact Below.refl _ _ | (refine ba ?_ _) | (refine Below.drew ?_) | (refine below_drewN ?_ _) | (refine Below.alloc ?_ (by first | omega | (simp; done) | (simp; omega)) _) | (refine Below.setCell ?_ (by first | omega | (simp; done) | (simp; omega)) _) | (refine bx ?_ (by assumption)) | (refine Below.trans ?_ (Below.mono (by assumption) (by first | omega | (simp; done) | (simp; omega))))))))).mono ?_
  rintro e v2 ⟨rfl, rfl⟩
  rw [HF.out]
  have HX := hid (HH1.out.bel (w' := v1.alloc (.cells #[.int .i64 0, .string ⟨#[]⟩, .slice none 0 0] 54)) (ba (Below.refl _ _) _))
  obtain ⟨a', n', c', w1, hrun, k1, k2, k3, k4, k5⟩ := HX.out.append key ⟨#[]⟩ true hn
  have HRUN := hid hrun
  have K3 := hid k3
  have K4 := hid k4
  have K5 := hid k5
  have hrl := HH1.out.obj.lt
  have z4 : (v1.alloc (.cells #[.int .i64 0, .string ⟨#[]⟩, .slice none 0 0] 54)).cell? ⟨r, 0, none⟩ = some v := ca _ (HH1.out.obj.cell 0)
  have hfl := HH.out.foot_lt
  have n1 : w.heap.size + 1 ∉ foot r v := fun hm => by have := hfl _ hm; omega
  have n2 : v1.heap.size ∉ foot r v := fun hm => by have := hfl _ hm; omega
  have hbR := k4.blk (HB2.out.bel (ba (Below.refl _ _) (.cells #[.int .i64 0, .string ⟨#[]⟩, .slice none 0 0] 54))) n1
  have hbT := k4.blk (Blk.new v1 54 #[.int .i64 0, .string ⟨#[]⟩, .slice none 0 0]) n2
  have m0 := hbR.cell 0
  have m1 := hbR.cell 1
  have m2 := hbR.cell 2
  have m3 := hbR.frozen 0
  have m4 := hbR.frozen 1
  have m5 := hbR.frozen 2
  have m6 := hbT.cell 0
  have m7 := hbT.cell 1
  have m8 := hbT.cell 2
  have q1 : r ≠ w.heap.size + 1 := by have := h.obj.lt; omega
  have q2 : r ≠ v1.heap.size := by omega
  have q3 := q1.symm
  have q4 := q2.symm
  clear hrun k3 k4 k5 hbR hbT hfl h
  go_wp2
  go_region_law (refine step_append_runI rfl (.tmp 61) (.tmp 65) 48 48 rfl _ _ (by simp [Act.eval]) (by simp [Act.eval]) HRUN.out ?_)
  all_goals
    try go_simp
    try simp only [Act.put, List.setIfInBounds_toArray, List.set_cons_zero, List.set_cons_succ]
    go_wp2
    refine bodyPost_ret (v := .agg #[.int .i64 0, .string ⟨#[]⟩, .slice none 0 0]) (by simp [results, Try.results22, go_sem, m0, m1, m2]) rfl ?_
    exact RPost.app (bx hB.out hb1) (by omega) HH.out K3.out K4.out K5.out


end Go.Proofs.Ytdhnacajgmjmlaa
