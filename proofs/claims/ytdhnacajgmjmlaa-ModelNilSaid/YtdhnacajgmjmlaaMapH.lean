/- The map's Do: delete, scan. -/
import Derived.Test.YtdhnacajgmjmlaaMapG
namespace Go.Proofs.Ytdhnacajgmjmlaa
open Go.RowKit
set_option linter.unusedVariables false
set_option linter.unusedSimpArgs false

set_option maxRecDepth 100000 in
set_option maxHeartbeats 1000000 in
theorem Do_del (m : Nat) (v : Value) (key hi lim : Int) (s : ByteArray) (ps : PairL) (w : World) (h : MapIs w m v ps) :
    Calls Try.prog 38 #[.pointer (some ⟨m, 0, none⟩), .agg #[.int .i64 3, .int .u64 key, .int .u64 hi, .int .i64 lim, .string s]] w (RespPost w m v (delM key ps) (errGet key ps) ⟨#[]⟩ []) := by
  have HH := hid h
  have HM := hid (may_zero (op := 3) (key := key) (hi := hi) (lim := lim) (n := s.size) (Or.inr (Or.inl rfl)))
  have hfl := h.foot_lt
  have n1 : w.heap.size + 1 ∉ foot m v := fun hm => by have := hfl _ hm; omega
  have N1 := hid n1
  have hbl := Blk.new (w.alloc (.cells #[.int .i64 3, .int .u64 key, .int .u64 hi, .int .i64 lim, .string s] 58)) 54 #[.int .i64 0, .string ⟨#[]⟩, .slice none 0 0]
  have hbc := (Blk.new w 58 #[.int .i64 3, .int .u64 key, .int .u64 hi, .int .i64 lim, .string s]).alloc (.cells #[.int .i64 0, .string ⟨#[]⟩, .slice none 0 0] 54)
  have hB := hid (ba (ba (Below.refl w.heap.size w) (.cells #[.int .i64 3, .int .u64 key, .int .u64 hi, .int .i64 lim, .string s] 58)) (.cells #[.int .i64 0, .string ⟨#[]⟩, .slice none 0 0] 54))
  rw [World.size_alloc] at hbl
  have HB := hid hbl
  have HC := hid hbc
  clear h n1 hfl hbl hbc
  go_enter Try.func38, Try.ntmps38
  go_wp2_with fail
  refine (MMay_z 3 key hi lim s _).mono ?_
  rintro e v1 ⟨rfl, hb1⟩
  have hb2 := HB.out.bel hb1
  have hb3 := HC.out.bel hb1
  have HH1 := hid (HH.out.bel (bx hB.out hb1))
  have x0 := hb2.cell 0
  have x1 := hb2.cell 1
  have x2 := hb2.cell 2
  have x3 := hb2.frozen 0
  have x4 := hb2.frozen 1
  have x5 := hb2.frozen 2
  have y0 := hb3.cell 0
  have y1 := hb3.cell 1
  have y2 := hb3.cell 2
  have y3 := hb3.cell 3
  have y4 := hb3.cell 4
  have HB2 := hid hb2
  have HB3 := hid hb3
  have hz1 := hb1.size
  simp only [World.size_alloc] at hz1
  have c3 : w.heap.size + 1 < v1.heap.size := by omega
  have c4 : w.heap.size < v1.heap.size := by omega
  clear hb2 hb3
  rw [HM.out]
  go_wp2
  go_region_with (first
    | (go_at_call 66; refine (does_z _).mono ?_; rintro e v2 ⟨rfl, hmap, hb5⟩; have hlk : (Instr.lookup 132 (.map (some v1.heap.size)) (.int .i64 3) false).run Try.prog v2 = .ok (.func (.func 101) #[] #[]) v2 := run_look_i64 (P := Try.prog) v2 132 56 _ Try.underlying132 Try.underlying56 _ _ _ hmap 3 2 _ rfl; have g1 := (HB3.out.drew.bel hb5).cell 0; have g2 := (HB3.out.drew.bel hb5).cell 1; have g3 := (HB3.out.drew.bel hb5).cell 2; have g4 := (HB3.out.drew.bel hb5).cell 3; have g5 := (HB3.out.drew.bel hb5).cell 4; have HB6 := hid (bx hB.out (bx hb1 (bx (bdrew (Below.refl _ _)) hb5))); clear hmap)
    | (go_at_call 101; refine (del_z m v 3 key hi lim s ps _ (HH1.out.bel (bx (bdrew (Below.refl _ _)) hb5))).mono ?_; intro e w1 hp; have hbR := hp.blk (HB2.out.drew.bel hb5) N1.out; obtain ⟨v', pv, rfl, hm', ho', hown', hrow', hpf'⟩ := hp; obtain ⟨pa, pn, rfl⟩ := row_form hrow'; have m0 := hbR.cell 0; have m1 := hbR.cell 1; have m2 := hbR.cell 2; have m3 := hbR.frozen 0; have m4 := hbR.frozen 1; have m5 := hbR.frozen 2; have HPP : Hid (RespPost v2 m v (delM key ps) (errGet key ps) ⟨#[]⟩ [] (.returned (.agg #[.int .i64 (errGet key ps), .string ⟨#[]⟩, .slice pa 0 pn])) w1) := ⟨_, _, rfl, hm', ho', hown', hrow', hpf'⟩; have hz5 := hb5.size; clear hbR hm' ho' hown' hrow' hpf'))
  all_goals
    try go_simp
    try simp only [Act.put, List.setIfInBounds_toArray, List.set_cons_zero, List.set_cons_succ]
    go_wp2
    refine bodyPost_ret (v := .agg #[.int .i64 (errGet key ps), .string ⟨#[]⟩, .slice pa 0 pn]) (by simp [results, Try.results38, go_sem, m0, m1, m2]) rfl ?_
    exact RespPost.stored HH.out HB6.out (Nat.le_succ _) (by have := hz5; simp at this; omega) HPP.out

set_option maxRecDepth 100000 in
set_option maxHeartbeats 1000000 in
theorem Do_scan (m : Nat) (v : Value) (key hi lim : Int) (s : ByteArray) (ps : PairL) (w : World) (h : MapIs w m v ps) (hbd : boundsErr key hi lim = 0) :
    Calls Try.prog 38 #[.pointer (some ⟨m, 0, none⟩), .agg #[.int .i64 4, .int .u64 key, .int .u64 hi, .int .i64 lim, .string s]] w (RespPost w m v ps 0 ⟨#[]⟩ (scanL key hi lim ps)) := by
  have HH := hid h
  have HBD := hid hbd
  have HM := hid (may_zero (op := 4) (key := key) (hi := hi) (lim := lim) (n := s.size) (Or.inr (Or.inr (Or.inr ⟨rfl, hbd⟩))))
  have hfl := h.foot_lt
  have n1 : w.heap.size + 1 ∉ foot m v := fun hm => by have := hfl _ hm; omega
  have N1 := hid n1
  have hbl := Blk.new (w.alloc (.cells #[.int .i64 4, .int .u64 key, .int .u64 hi, .int .i64 lim, .string s] 58)) 54 #[.int .i64 0, .string ⟨#[]⟩, .slice none 0 0]
  have hbc := (Blk.new w 58 #[.int .i64 4, .int .u64 key, .int .u64 hi, .int .i64 lim, .string s]).alloc (.cells #[.int .i64 0, .string ⟨#[]⟩, .slice none 0 0] 54)
  have hB := hid (ba (ba (Below.refl w.heap.size w) (.cells #[.int .i64 4, .int .u64 key, .int .u64 hi, .int .i64 lim, .string s] 58)) (.cells #[.int .i64 0, .string ⟨#[]⟩, .slice none 0 0] 54))
  rw [World.size_alloc] at hbl
  have HB := hid hbl
  have HC := hid hbc
  clear h n1 hfl hbd hbl hbc
  go_enter Try.func38, Try.ntmps38
  go_wp2_with fail
  refine (MMay_z 4 key hi lim s _).mono ?_
  rintro e v1 ⟨rfl, hb1⟩
  have hb2 := HB.out.bel hb1
  have hb3 := HC.out.bel hb1
  have HH1 := hid (HH.out.bel (bx hB.out hb1))
  have x0 := hb2.cell 0
  have x1 := hb2.cell 1
  have x2 := hb2.cell 2
  have x3 := hb2.frozen 0
  have x4 := hb2.frozen 1
  have x5 := hb2.frozen 2
  have y0 := hb3.cell 0
  have y1 := hb3.cell 1
  have y2 := hb3.cell 2
  have y3 := hb3.cell 3
  have y4 := hb3.cell 4
  have HB2 := hid hb2
  have HB3 := hid hb3
  have hz1 := hb1.size
  simp only [World.size_alloc] at hz1
  have c3 : w.heap.size + 1 < v1.heap.size := by omega
  have c4 : w.heap.size < v1.heap.size := by omega
  clear hb2 hb3
  rw [HM.out]
  go_wp2
  go_region_with (first
    | (go_at_call 66; refine (does_z _).mono ?_; rintro e v2 ⟨rfl, hmap, hb5⟩; have hlk : (Instr.lookup 132 (.map (some v1.heap.size)) (.int .i64 4) false).run Try.prog v2 = .ok (.func (.func 102) #[] #[]) v2 := run_look_i64 (P := Try.prog) v2 132 56 _ Try.underlying132 Try.underlying56 _ _ _ hmap 4 3 _ rfl; have g1 := (HB3.out.drew.bel hb5).cell 0; have g2 := (HB3.out.drew.bel hb5).cell 1; have g3 := (HB3.out.drew.bel hb5).cell 2; have g4 := (HB3.out.drew.bel hb5).cell 3; have g5 := (HB3.out.drew.bel hb5).cell 4; have HB6 := hid (bx hB.out (bx hb1 (bx (bdrew (Below.refl _ _)) hb5))); clear hmap)
    | (go_at_call 102; refine (scan_z m v 4 key hi lim s ps _ (HH1.out.bel (bx (bdrew (Below.refl _ _)) hb5)) HBD.out).mono ?_; intro e w1 hp; have hbR := hp.blk (HB2.out.drew.bel hb5) N1.out; obtain ⟨v', pv, rfl, hm', ho', hown', hrow', hpf'⟩ := hp; obtain ⟨pa, pn, rfl⟩ := row_form hrow'; have m0 := hbR.cell 0; have m1 := hbR.cell 1; have m2 := hbR.cell 2; have m3 := hbR.frozen 0; have m4 := hbR.frozen 1; have m5 := hbR.frozen 2; have HPP : Hid (RespPost v2 m v ps 0 ⟨#[]⟩ (scanL key hi lim ps) (.returned (.agg #[.int .i64 0, .string ⟨#[]⟩, .slice pa (List.length (scanL key hi lim ps)) pn])) w1) := ⟨_, _, rfl, hm', ho', hown', hrow', hpf'⟩; have hz5 := hb5.size; clear hbR hm' ho' hown' hrow' hpf'))
  all_goals
    try go_simp
    try simp only [Act.put, List.setIfInBounds_toArray, List.set_cons_zero, List.set_cons_succ]
    go_wp2
    refine bodyPost_ret (v := .agg #[.int .i64 0, .string ⟨#[]⟩, .slice pa (List.length (scanL key hi lim ps)) pn]) (by simp [results, Try.results38, go_sem, m0, m1, m2]) rfl ?_
    exact RespPost.stored HH.out HB6.out (Nat.le_succ _) (by have := hz5; simp at this; omega) HPP.out

end Go.Proofs.Ytdhnacajgmjmlaa
