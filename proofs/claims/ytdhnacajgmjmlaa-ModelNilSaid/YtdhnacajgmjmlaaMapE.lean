/- The map's put, get, del, scan, and does. -/
import Derived.Test.YtdhnacajgmjmlaaRefD
namespace Go.Proofs.Ytdhnacajgmjmlaa
open Go.RowKit
set_option linter.unusedVariables false

theorem MapPost.of_below {w w' : World} {m : Nat} {v res : Value} {ps : PairL} (h : MapIs w m v ps) (hb : Below w.heap.size w w') : MapPost w m v ps res (.returned res) w' :=
  ⟨v, rfl, h.bel hb, Only.of_below hb _, fun k hk => Or.inl hk⟩
def putZ (k : Int) (s : ByteArray) (ps : PairL) : PairL := if 120 < s.size then ps else putM k s ps
def putE (s : ByteArray) : Int := if 120 < s.size then 10 else 0
theorem Put_z (m : Nat) (v : Value) (key : Int) (s : ByteArray) (ps : PairL) (w : World) (h : MapIs w m v ps) (hf : ps.length + 1 ≤ 1000000) :
    Calls Try.prog 29 #[.pointer (some ⟨m, 0, none⟩), .int .u64 key, .string s] w (MapPost w m v (putZ key s ps) (.int .i64 (putE s))) := by
  by_cases hs : 120 < s.size
  · rw [show putZ key s ps = ps from if_pos hs, show putE s = 10 from if_pos hs]
    refine (Put_long m key s w hs).mono ?_
    rintro e w' ⟨rfl, rfl⟩
    exact MapPost.of_below h (Below.refl _ _)
  · rw [show putZ key s ps = putM key s ps from if_neg hs, show putE s = 0 from if_neg hs]
    cases hb : placeB key ps with
    | false => exact Put_new m v key s ps w h hf (by omega) hb
    | true =>
      have hlt := placeB_lt hb
      rcases h.row.2 with ⟨rfl, h0⟩ | ⟨g, cap, cur, rfl, _⟩
      · omega
      · exact Put_old m g ps.length cap key s ps w h rfl (by omega) hb
theorem Delete_z (m : Nat) (v : Value) (key : Int) (ps : PairL) (w : World) (h : MapIs w m v ps) :
    Calls Try.prog 30 #[.pointer (some ⟨m, 0, none⟩), .int .u64 key] w (MapPost w m v (delM key ps) (.int .i64 (errGet key ps))) := by
  cases hb : placeB key ps with
  | false =>
    rw [show errGet key ps = 5 by simp [errGet, hb], show delM key ps = ps by simp [delM, hb]]
    refine (Delete_none m v key ps w h hb).mono ?_
    rintro e w' ⟨rfl, hB⟩
    exact MapPost.of_below h hB
  | true =>
    rw [show errGet key ps = 0 by simp [errGet, hb]]
    have hlt := placeB_lt hb
    rcases h.row.2 with ⟨rfl, h0⟩ | ⟨g, cap, cur, rfl, _⟩
    · omega
    · exact Delete_some m g ps.length cap key ps w h rfl hb

/-- what a call on a map leaves, and its response -/
def RespPost (w : World) (m : Nat) (v : Value) (ps' : PairL) (c : Int) (s : ByteArray) (qs : PairL) (e : Ending) (w' : World) : Prop :=
  ∃ v' pv, e = .returned (.agg #[.int .i64 c, .string s, pv]) ∧ MapIs w' m v' ps' ∧ Only (foot m v) w w' ∧ (∀ k, v'.ownBlock = some k → v.ownBlock = some k ∨ w.heap.size ≤ k) ∧ w'.ownsRow w.heap.size 52 2 pv qs.length (pc qs) ∧ (∀ k, pv.ownBlock = some k → k ∉ foot m v')

abbrev callV (op key hi lim : Int) (s : ByteArray) : Value := .agg #[.int .i64 op, .int .u64 key, .int .u64 hi, .int .i64 lim, .string s]

theorem RespPost.put {w w2 w' w'' : World} {m b : Nat} {v v' pv : Value} {ps' qs : PairL} {c : Int} {s : ByteArray} (hB : Below w.heap.size w w2) (hb : w.heap.size ≤ b) (hb2 : b < w2.heap.size) (hfl : ∀ k, k ∈ foot m v → k < w.heap.size)
    (hm : MapIs w' m v' ps') (ho : Only (foot m v) w2 w') (hown : ∀ k, v'.ownBlock = some k → v.ownBlock = some k ∨ w2.heap.size ≤ k) (hO : Only [b] w' w'')
    (hpv : w''.ownsRow w.heap.size 52 2 pv qs.length (pc qs)) (hpf : ∀ k, pv.ownBlock = some k → k ∉ foot m v') :
    RespPost w m v ps' c s qs (.returned (.agg #[.int .i64 c, .string s, pv])) w'' := by
  have h1 : m ≠ b := fun e => by have := hfl m (by simp [foot]); omega
  have h2 : ∀ k, v'.ownBlock = some k → k ≠ b := fun k hk e => by
    rcases hown k hk with h | h
    · have := hfl k (by simp [foot, h]); omega
    · omega
  refine ⟨v', pv, rfl, hm.only hO (by simpa using h1) (fun k hk => by simpa using h2 k hk), ?_, fun k hk => ?_, hpv, hpf⟩
  · exact ((Only.of_below hB _).trans ho fun x hx => Or.inl hx).trans hO fun x hx => by simp at hx; subst hx; exact Or.inr hb
  · rcases hown k hk with h | h
    · exact Or.inl h
    · exact Or.inr (Nat.le_trans hB.size h)
theorem MapPost.blk {w w' : World} {m b : Nat} {v res : Value} {ps' : PairL} {e : Ending} {t : TypeId} {cs : Array Value} (h : MapPost w m v ps' res e w') (hb : Blk w b t cs) (hn : b ∉ foot m v) : Blk w' b t cs := by
  obtain ⟨v', _, _, ho, _⟩ := h
  exact ho.blk hb hn
theorem only_set3 {w : World} {b : Nat} (x y z : Value) : Only [b] w (((w.setCell ⟨b, 0, none⟩ x).setCell ⟨b, 1, none⟩ y).setCell ⟨b, 2, none⟩ z) :=
  ((Only.refl _ w).setCell (Or.inl (by simp)) x).setCell (Or.inl (by simp)) y |>.setCell (Or.inl (by simp)) z

set_option maxRecDepth 100000 in
set_option maxHeartbeats 1000000 in
theorem put_z (m : Nat) (v : Value) (op key hi lim : Int) (s : ByteArray) (ps : PairL) (w : World) (h : MapIs w m v ps) (hf : ps.length + 1 ≤ 1000000) :
    Calls Try.prog 99 #[.pointer (some ⟨m, 0, none⟩), .agg #[.int .i64 op, .int .u64 key, .int .u64 hi, .int .i64 lim, .string s]] w (RespPost w m v (putZ key s ps) (putE s) ⟨#[]⟩ []) := by
  have hml := h.foot_lt
  have HF := hid hml
  have hB := hid (ba (ba (Below.refl w.heap.size w) (.cells #[.int .i64 op, .int .u64 key, .int .u64 hi, .int .i64 lim, .string s] 58)) (.cells #[.int .i64 0, .string ⟨#[]⟩, .slice none 0 0] 54))
  have hbl := Blk.new (w.alloc (.cells #[.int .i64 op, .int .u64 key, .int .u64 hi, .int .i64 lim, .string s] 58)) 54 #[.int .i64 0, .string ⟨#[]⟩, .slice none 0 0]
  rw [World.size_alloc] at hbl
  have hn : w.heap.size + 1 ∉ foot m v := fun hm => by have := hml _ hm; omega
  have HH := hid (h.bel hB.out)
  have HB := hid hbl
  clear h hml hbl
  go_enter Try.func99, Try.ntmps99
  go_wp2_with fail
  refine (Put_z m v key s ps _ HH.out hf).mono ?_
  intro e w1 hp
  have hb1 := hp.blk HB.out hn
  obtain ⟨v', rfl, hm, ho, hown⟩ := hp
  have x0 := hb1.cell 0
  have x1 := hb1.cell 1
  have x2 := hb1.cell 2
  have x3 := hb1.frozen 0
  have x4 := hb1.frozen 1
  have x5 := hb1.frozen 2
  have HM := hid hm
  have HO := hid ho
  clear hm ho hb1
  go_wp2
  refine bodyPost_ret (v := .agg #[.int .i64 (putE s), .string ⟨#[]⟩, .slice none 0 0]) ?_ rfl ?_
  · simp [results, Try.results99, go_sem, x0, x1, x2]
  · exact RespPost.put hB.out (by omega) (by simp) HF.out HM.out HO.out hown (only_set3 _ _ _) ⟨rfl, Or.inl ⟨rfl, rfl⟩⟩ (by simp [Value.ownBlock])

set_option maxRecDepth 100000 in
set_option maxHeartbeats 1000000 in
theorem del_z (m : Nat) (v : Value) (op key hi lim : Int) (s : ByteArray) (ps : PairL) (w : World) (h : MapIs w m v ps) :
    Calls Try.prog 101 #[.pointer (some ⟨m, 0, none⟩), .agg #[.int .i64 op, .int .u64 key, .int .u64 hi, .int .i64 lim, .string s]] w (RespPost w m v (delM key ps) (errGet key ps) ⟨#[]⟩ []) := by
  have hml := h.foot_lt
  have HF := hid hml
  have hB := hid (ba (ba (Below.refl w.heap.size w) (.cells #[.int .i64 op, .int .u64 key, .int .u64 hi, .int .i64 lim, .string s] 58)) (.cells #[.int .i64 0, .string ⟨#[]⟩, .slice none 0 0] 54))
  have hbl := Blk.new (w.alloc (.cells #[.int .i64 op, .int .u64 key, .int .u64 hi, .int .i64 lim, .string s] 58)) 54 #[.int .i64 0, .string ⟨#[]⟩, .slice none 0 0]
  rw [World.size_alloc] at hbl
  have hn : w.heap.size + 1 ∉ foot m v := fun hm => by have := hml _ hm; omega
  have HH := hid (h.bel hB.out)
  have HB := hid hbl
  clear h hml hbl
  go_enter Try.func101, Try.ntmps101
  go_wp2_with fail
  refine (Delete_z m v key ps _ HH.out).mono ?_
  intro e w1 hp
  have hb1 := hp.blk HB.out hn
  obtain ⟨v', rfl, hm, ho, hown⟩ := hp
  have x0 := hb1.cell 0
  have x1 := hb1.cell 1
  have x2 := hb1.cell 2
  have x3 := hb1.frozen 0
  have x4 := hb1.frozen 1
  have x5 := hb1.frozen 2
  have HM := hid hm
  have HO := hid ho
  clear hm ho hb1
  go_wp2
  refine bodyPost_ret (v := .agg #[.int .i64 (errGet key ps), .string ⟨#[]⟩, .slice none 0 0]) ?_ rfl ?_
  · simp [results, Try.results101, go_sem, x0, x1, x2]
  · exact RespPost.put hB.out (by omega) (by simp) HF.out HM.out HO.out hown (only_set3 _ _ _) ⟨rfl, Or.inl ⟨rfl, rfl⟩⟩ (by simp [Value.ownBlock])

theorem row_up {w : World} {base base' : Nat} {e : TypeId} {size : Nat} {v : Value} {n : Nat} {xs : List Value} (h : w.ownsRow base e size v n xs) (hb : ∀ k, v.ownBlock = some k → base' ≤ k) : w.ownsRow base' e size v n xs := by
  refine ⟨h.1, ?_⟩
  rcases h.2 with h | ⟨g, cap, cur, h1, h2, h3⟩
  · exact Or.inl h
  · exact Or.inr ⟨g, cap, cur, h1, hb g (by rw [h1]; rfl), h3⟩

set_option maxRecDepth 100000 in
set_option maxHeartbeats 1000000 in
theorem get_z (m : Nat) (v : Value) (op key hi lim : Int) (s : ByteArray) (ps : PairL) (w : World) (h : MapIs w m v ps) :
    Calls Try.prog 100 #[.pointer (some ⟨m, 0, none⟩), .agg #[.int .i64 op, .int .u64 key, .int .u64 hi, .int .i64 lim, .string s]] w (RespPost w m v ps (errGet key ps) (getM key ps) []) := by
  have hml := h.foot_lt
  have HF := hid hml
  have hB := hid (ba (ba (Below.refl w.heap.size w) (.cells #[.int .i64 op, .int .u64 key, .int .u64 hi, .int .i64 lim, .string s] 58)) (.cells #[.int .i64 0, .string ⟨#[]⟩, .slice none 0 0] 54))
  have hbl := Blk.new (w.alloc (.cells #[.int .i64 op, .int .u64 key, .int .u64 hi, .int .i64 lim, .string s] 58)) 54 #[.int .i64 0, .string ⟨#[]⟩, .slice none 0 0]
  rw [World.size_alloc] at hbl
  have hn : w.heap.size + 1 ∉ foot m v := fun hm => by have := hml _ hm; omega
  have HH := hid (h.bel hB.out)
  have HB := hid hbl
  clear h hml hbl
  go_enter Try.func100, Try.ntmps100
  go_wp2_with fail
  refine (Get_z m v key ps _ HH.out).mono ?_
  rintro e w1 ⟨rfl, hbe⟩
  have hb1 := HB.out.bel hbe
  have x0 := hb1.cell 0
  have x1 := hb1.cell 1
  have x2 := hb1.cell 2
  have x3 := hb1.frozen 0
  have x4 := hb1.frozen 1
  have x5 := hb1.frozen 2
  have HM := hid (HH.out.bel hbe)
  have HO := hid (Only.of_below hbe (foot m v))
  clear hbe hb1
  go_wp2
  refine bodyPost_ret (v := .agg #[.int .i64 (errGet key ps), .string (getM key ps), .slice none 0 0]) ?_ rfl ?_
  · simp [results, Try.results100, go_sem, x0, x1, x2]
  · exact RespPost.put hB.out (by omega) (by simp) HF.out HM.out HO.out (fun k hk => Or.inl hk) (only_set3 _ _ _) ⟨rfl, Or.inl ⟨rfl, rfl⟩⟩ (by simp [Value.ownBlock])

set_option maxRecDepth 100000 in
set_option maxHeartbeats 1000000 in
theorem scan_z (m : Nat) (v : Value) (op key hi lim : Int) (s : ByteArray) (ps : PairL) (w : World) (h : MapIs w m v ps) (hbd : boundsErr key hi lim = 0) :
    Calls Try.prog 102 #[.pointer (some ⟨m, 0, none⟩), .agg #[.int .i64 op, .int .u64 key, .int .u64 hi, .int .i64 lim, .string s]] w (RespPost w m v ps 0 ⟨#[]⟩ (scanL key hi lim ps)) := by
  have hml := h.foot_lt
  have HF := hid hml
  have hB := hid (ba (ba (Below.refl w.heap.size w) (.cells #[.int .i64 op, .int .u64 key, .int .u64 hi, .int .i64 lim, .string s] 58)) (.cells #[.int .i64 0, .string ⟨#[]⟩, .slice none 0 0] 54))
  have hbl := Blk.new (w.alloc (.cells #[.int .i64 op, .int .u64 key, .int .u64 hi, .int .i64 lim, .string s] 58)) 54 #[.int .i64 0, .string ⟨#[]⟩, .slice none 0 0]
  rw [World.size_alloc] at hbl
  have hn : w.heap.size + 1 ∉ foot m v := fun hm => by have := hml _ hm; omega
  have HH := hid (h.bel hB.out)
  have HB := hid hbl
  clear h hml hbl
  go_enter Try.func102, Try.ntmps102
  go_wp2_with fail
  refine (Scan_z m v ps key hi lim _ HH.out hbd).mono ?_
  rintro e w1 ⟨pv, rfl, hrow, hbe⟩
  have hb1 := HB.out.bel hbe
  have x0 := hb1.cell 0
  have x1 := hb1.cell 1
  have x2 := hb1.cell 2
  have x3 := hb1.frozen 0
  have x4 := hb1.frozen 1
  have x5 := hb1.frozen 2
  have HM := hid (HH.out.bel hbe)
  have HO := hid (Only.of_below hbe (foot m v))
  have hp : ∀ k, pv.ownBlock = some k → w.heap.size + 2 ≤ k := fun k hk => by have := (row_lt hrow k hk).1; simpa using this
  have HP := hid hp
  have hrow' := row_zero hrow
  obtain ⟨a, n, c, rfl⟩ := row_slice hrow
  have HR := hid hrow'
  clear hbe hb1 hrow hp hrow'
  go_wp2
  refine bodyPost_ret (v := .agg #[.int .i64 0, .string ⟨#[]⟩, .slice a n c]) ?_ rfl ?_
  · simp [results, Try.results102, go_sem, x0, x1, x2]
  · refine RespPost.put hB.out (by omega) (by simp) HF.out HM.out HO.out (fun k hk => Or.inl hk) (only_set3 _ _ _) (row_up ((only_set3 _ _ _).own HR.out (fun k hk hm => by have := HP.out k hk; simp at hm; omega)) (fun k hk => by have := HP.out k hk; omega)) (fun k hk hm => by have := HP.out k hk; have := HF.out k hm; omega)

end Go.Proofs.Ytdhnacajgmjmlaa
