/- The map's Do. -/
import Derived.Test.YtdhnacajgmjmlaaMapF
import Derived.Test.YtdhnacajgmjmlaaRefE
namespace Go.Proofs.Ytdhnacajgmjmlaa
open Go.RowKit
set_option linter.unusedVariables false
set_option linter.unusedSimpArgs false

theorem RespPost.bel {w w' : World} {m : Nat} {v pv : Value} {ps qs : PairL} {c : Int} {s : ByteArray} (h : MapIs w m v ps) (hB : Below w.heap.size w w') (hpv : w'.ownsRow w.heap.size 52 2 pv qs.length (pc qs)) :
    RespPost w m v ps c s qs (.returned (.agg #[.int .i64 c, .string s, pv])) w' :=
  ⟨v, pv, rfl, h.bel hB, Only.of_below hB _, fun k hk => Or.inl hk, hpv, fun k hk hm => by have := (row_lt hpv k hk).1; have := h.foot_lt k hm; omega⟩
theorem RespPost.bel0 {w w' : World} {m : Nat} {v : Value} {ps : PairL} {c : Int} {s : ByteArray} (h : MapIs w m v ps) (hB : Below w.heap.size w w') :
    RespPost w m v ps c s [] (.returned (.agg #[.int .i64 c, .string s, .slice none 0 0])) w' := RespPost.bel h hB ⟨rfl, Or.inl ⟨rfl, rfl⟩⟩
theorem RespPost.blk {w w' : World} {m b : Nat} {v : Value} {ps' qs : PairL} {c : Int} {s : ByteArray} {e : Ending} {t : TypeId} {cs : Array Value} (h : RespPost w m v ps' c s qs e w') (hb : Blk w b t cs) (hn : b ∉ foot m v) : Blk w' b t cs := by
  obtain ⟨v', _, _, _, ho, _⟩ := h
  exact ho.blk hb hn
theorem bcell {W w1 : World} (hb : Below W.heap.size W w1) : (∀ b o, b < W.heap.size → w1.cell? ⟨b, o, none⟩ = W.cell? ⟨b, o, none⟩) ∧ (∀ b o, b < W.heap.size → w1.frozen? ⟨b, o, none⟩ = W.frozen? ⟨b, o, none⟩) :=
  ⟨fun b o h => hb.cell (p := ⟨b, o, none⟩) h, fun b o h => hb.frozen (p := ⟨b, o, none⟩) h⟩
/-- the response stored to the call's own cell -/
theorem RespPost.stored {w W w1 : World} {m b : Nat} {v : Value} {ps ps' qs : PairL} {c : Int} {s : ByteArray} {pv : Value} (h : MapIs w m v ps) (hB : Below w.heap.size w W) (hb : w.heap.size ≤ b) (hb2 : b < W.heap.size)
    (hr : RespPost W m v ps' c s qs (.returned (.agg #[.int .i64 c, .string s, pv])) w1) :
    RespPost w m v ps' c s qs (.returned (.agg #[.int .i64 c, .string s, pv])) (((w1.setCell ⟨b, 0, none⟩ (.int .i64 c)).setCell ⟨b, 1, none⟩ (.string s)).setCell ⟨b, 2, none⟩ pv) := by
  obtain ⟨v', pv', he, hm, ho, hown, hp, hpf⟩ := hr
  obtain rfl : pv = pv' := by simpa using he
  refine RespPost.put hB hb hb2 h.foot_lt hm ho hown (only_set3 _ _ _) (row_up ((only_set3 _ _ _).own (row_zero hp) (fun k hk hx => ?_)) (fun k hk => ?_)) hpf
  · have := (row_lt hp k hk).1; simp at hx; omega
  · have := (row_lt hp k hk).1; have := hB.size; omega

set_option maxRecDepth 100000 in
set_option maxHeartbeats 1000000 in
theorem Do_nil (op key hi lim : Int) (s : ByteArray) (w : World) :
    Calls Try.prog 38 #[.pointer none, .agg #[.int .i64 op, .int .u64 key, .int .u64 hi, .int .i64 lim, .string s]] w fun e w' => e = .returned (.agg #[.int .i64 1, .string ⟨#[]⟩, .slice none 0 0]) ∧ Below w.heap.size w w' := by
  go_enter Try.func38, Try.ntmps38
  go_wp2
  refine bodyPost_ret (v := .agg #[.int .i64 1, .string ⟨#[]⟩, .slice none 0 0]) (by simp [results, Try.results38, go_sem, World.size_alloc]) rfl ?_
  exact ⟨rfl, by (repeat (first | exact Below.refl _ _ | (refine ba ?_ _) | (refine Below.drew ?_) | (refine below_drewN ?_ _) | (refine Below.alloc ?_ (by first | omega | (simp; done) | (simp; omega)) _) | (refine Below.setCell ?_ (by first | omega | (simp; done) | (simp; omega)) _) | (refine bx ?_ (by assumption)) | (refine Below.trans ?_ (Below.mono (by assumption) (by first | omega | (simp; done) | (simp; omega))))))⟩

set_option maxRecDepth 100000 in
set_option maxHeartbeats 1000000 in
theorem Do_bad (m : Nat) (v : Value) (op key hi lim : Int) (s : ByteArray) (ps : PairL) (w : World) (h : MapIs w m v ps) (hm : mayZ op key hi lim s.size ≠ 0) :
    Calls Try.prog 38 #[.pointer (some ⟨m, 0, none⟩), .agg #[.int .i64 op, .int .u64 key, .int .u64 hi, .int .i64 lim, .string s]] w (RespPost w m v ps (mayZ op key hi lim s.size) ⟨#[]⟩ []) := by
  have HH := hid h
  obtain ⟨mz, hmz⟩ : ∃ mz, mz = mayZ op key hi lim s.size := ⟨_, rfl⟩
  have HM := hid hmz
  rw [← hmz] at hm ⊢
  have hb : (mz != 0) = true := by simpa using hm
  have hbl := Blk.new (w.alloc (.cells #[.int .i64 op, .int .u64 key, .int .u64 hi, .int .i64 lim, .string s] 58)) 54 #[.int .i64 0, .string ⟨#[]⟩, .slice none 0 0]
  have hbc := (Blk.new w 58 #[.int .i64 op, .int .u64 key, .int .u64 hi, .int .i64 lim, .string s]).alloc (.cells #[.int .i64 0, .string ⟨#[]⟩, .slice none 0 0] 54)
  have hB := hid (ba (ba (Below.refl w.heap.size w) (.cells #[.int .i64 op, .int .u64 key, .int .u64 hi, .int .i64 lim, .string s] 58)) (.cells #[.int .i64 0, .string ⟨#[]⟩, .slice none 0 0] 54))
  rw [World.size_alloc] at hbl
  have HB := hid hbl
  have HC := hid hbc
  clear hmz hm h hbl hbc
  go_enter Try.func38, Try.ntmps38
  go_wp2_with fail
  refine (MMay_z op key hi lim s _).mono ?_
  rintro e v1 ⟨rfl, hb1⟩
  have hb2 := HB.out.bel hb1
  have hb3 := HC.out.bel hb1
  have HH1 := hid (HH.out.bel (bx hB.out hb1))
  have x0 := hb2.cell 0
  have x1 := hb2.cell 1
  have x2 := hb2.cell 2
  have x3 := hb2.frozen 0
  have x4 := hb2.frozen 1
  have x5 := hb2.frozen 2
  have y0 := hb3.cell 0
  have y1 := hb3.cell 1
  have y2 := hb3.cell 2
  have y3 := hb3.cell 3
  have y4 := hb3.cell 4
  have HB2 := hid hb2
  have HB3 := hid hb3
  have hz1 := hb1.size
  simp only [World.size_alloc] at hz1
  have c3 : w.heap.size + 1 < v1.heap.size := by omega
  have c4 : w.heap.size < v1.heap.size := by omega
  clear hb2 hb3
  rw [← HM.out]
  go_wp2
  refine bodyPost_ret (v := .agg #[.int .i64 mz, .string ⟨#[]⟩, .slice none 0 0]) (by simp [results, Try.results38, go_sem, x0, x1, x2]) rfl ?_
  exact RespPost.bel0 HH.out (by have h0 := bx hB.out hb1; (repeat (first | exact Below.refl _ _ | (refine ba ?_ _) | (refine Below.drew ?_) | (refine below_drewN ?_ _) | (refine Below.alloc ?_ (by first | omega | (simp; done) | (simp; omega)) _) | (refine Below.setCell ?_ (by first | omega | (simp; done) | (simp; omega)) _) | (refine bx ?_ (by assumption)) | (refine Below.trans ?_ (Below.mono (by assumption) (by first | omega | (simp; done) | (simp; omega)))))))

set_option maxRecDepth 100000 in
set_option maxHeartbeats 1000000 in
theorem Do_put (m : Nat) (v : Value) (key hi lim : Int) (s : ByteArray) (ps : PairL) (w : World) (h : MapIs w m v ps) (hn : ps.length + 1 ≤ 1000000) (hs : s.size ≤ 120) :
    Calls Try.prog 38 #[.pointer (some ⟨m, 0, none⟩), .agg #[.int .i64 1, .int .u64 key, .int .u64 hi, .int .i64 lim, .string s]] w (RespPost w m v (putZ key s ps) (putE s) ⟨#[]⟩ []) := by
  have HH := hid h
  have HM := hid (may_zero (op := 1) (key := key) (hi := hi) (lim := lim) (n := s.size) (Or.inr (Or.inr (Or.inl ⟨rfl, hs⟩))))
  have hfl := h.foot_lt
  have n1 : w.heap.size + 1 ∉ foot m v := fun hm => by have := hfl _ hm; omega
  have N1 := hid n1
  have hbl := Blk.new (w.alloc (.cells #[.int .i64 1, .int .u64 key, .int .u64 hi, .int .i64 lim, .string s] 58)) 54 #[.int .i64 0, .string ⟨#[]⟩, .slice none 0 0]
  have hbc := (Blk.new w 58 #[.int .i64 1, .int .u64 key, .int .u64 hi, .int .i64 lim, .string s]).alloc (.cells #[.int .i64 0, .string ⟨#[]⟩, .slice none 0 0] 54)
  have hB := hid (ba (ba (Below.refl w.heap.size w) (.cells #[.int .i64 1, .int .u64 key, .int .u64 hi, .int .i64 lim, .string s] 58)) (.cells #[.int .i64 0, .string ⟨#[]⟩, .slice none 0 0] 54))
  rw [World.size_alloc] at hbl
  have HB := hid hbl
  have HC := hid hbc
  clear h n1 hfl hbl hbc
  go_enter Try.func38, Try.ntmps38
  go_wp2_with fail
  refine (MMay_z 1 key hi lim s _).mono ?_
  rintro e v1 ⟨rfl, hb1⟩
  have hb2 := HB.out.bel hb1
  have hb3 := HC.out.bel hb1
  have HH1 := hid (HH.out.bel (bx hB.out hb1))
  have x0 := hb2.cell 0
  have x1 := hb2.cell 1
  have x2 := hb2.cell 2
  have x3 := hb2.frozen 0
  have x4 := hb2.frozen 1
  have x5 := hb2.frozen 2
  have y0 := hb3.cell 0
  have y1 := hb3.cell 1
  have y2 := hb3.cell 2
  have y3 := hb3.cell 3
  have y4 := hb3.cell 4
  have HB2 := hid hb2
  have HB3 := hid hb3
  have hz1 := hb1.size
  simp only [World.size_alloc] at hz1
  have c3 : w.heap.size + 1 < v1.heap.size := by omega
  have c4 : w.heap.size < v1.heap.size := by omega
  clear hb2 hb3
  rw [HM.out]
  go_wp2
  go_region_with (first
    | (go_at_call 66; refine (does_z _).mono ?_; rintro e v2 ⟨rfl, hmap, hb5⟩; have hlk : (Instr.lookup 132 (.map (some v1.heap.size)) (.int .i64 1) false).run Try.prog v2 = .ok (.func (.func 99) #[] #[]) v2 := run_look_i64 (P := Try.prog) v2 132 56 _ Try.underlying132 Try.underlying56 _ _ _ hmap 1 0 _ rfl; have g1 := (HB3.out.drew.bel hb5).cell 0; have g2 := (HB3.out.drew.bel hb5).cell 1; have g3 := (HB3.out.drew.bel hb5).cell 2; have g4 := (HB3.out.drew.bel hb5).cell 3; have g5 := (HB3.out.drew.bel hb5).cell 4; have HB6 := hid (bx hB.out (bx hb1 (bx (bdrew (Below.refl _ _)) hb5))); clear hmap)
    | (go_at_call 99; refine (put_z m v 1 key hi lim s ps _ (HH1.out.bel (bx (bdrew (Below.refl _ _)) hb5)) hn).mono ?_; intro e w1 hp; have hbR := hp.blk (HB2.out.drew.bel hb5) N1.out; obtain ⟨v', pv, rfl, hm', ho', hown', hrow', hpf'⟩ := hp; obtain ⟨pa, pn, rfl⟩ := row_form hrow'; have m0 := hbR.cell 0; have m1 := hbR.cell 1; have m2 := hbR.cell 2; have m3 := hbR.frozen 0; have m4 := hbR.frozen 1; have m5 := hbR.frozen 2; have HPP : Hid (RespPost v2 m v (putZ key s ps) (putE s) ⟨#[]⟩ [] (.returned (.agg #[.int .i64 (putE s), .string ⟨#[]⟩, .slice pa 0 pn])) w1) := ⟨_, _, rfl, hm', ho', hown', hrow', hpf'⟩; have hz5 := hb5.size; clear hbR hm' ho' hown' hrow' hpf'))
  all_goals
    try go_simp
    try simp only [Act.put, List.setIfInBounds_toArray, List.set_cons_zero, List.set_cons_succ]
    go_wp2
    refine bodyPost_ret (v := .agg #[.int .i64 (putE s), .string ⟨#[]⟩, .slice pa 0 pn]) (by simp [results, Try.results38, go_sem, m0, m1, m2]) rfl ?_
    exact RespPost.stored HH.out HB6.out (Nat.le_succ _) (by have := hz5; simp at this; omega) HPP.out

set_option maxRecDepth 100000 in
set_option maxHeartbeats 1000000 in
theorem Do_get (m : Nat) (v : Value) (key hi lim : Int) (s : ByteArray) (ps : PairL) (w : World) (h : MapIs w m v ps) :
    Calls Try.prog 38 #[.pointer (some ⟨m, 0, none⟩), .agg #[.int .i64 2, .int .u64 key, .int .u64 hi, .int .i64 lim, .string s]] w (RespPost w m v ps (errGet key ps) (getM key ps) []) := by
  have HH := hid h
  have HM := hid (may_zero (op := 2) (key := key) (hi := hi) (lim := lim) (n := s.size) (Or.inl rfl))
  have hfl := h.foot_lt
  have n1 : w.heap.size + 1 ∉ foot m v := fun hm => by have := hfl _ hm; omega
  have N1 := hid n1
  have hbl := Blk.new (w.alloc (.cells #[.int .i64 2, .int .u64 key, .int .u64 hi, .int .i64 lim, .string s] 58)) 54 #[.int .i64 0, .string ⟨#[]⟩, .slice none 0 0]
  have hbc := (Blk.new w 58 #[.int .i64 2, .int .u64 key, .int .u64 hi, .int .i64 lim, .string s]).alloc (.cells #[.int .i64 0, .string ⟨#[]⟩, .slice none 0 0] 54)
  have hB := hid (ba (ba (Below.refl w.heap.size w) (.cells #[.int .i64 2, .int .u64 key, .int .u64 hi, .int .i64 lim, .string s] 58)) (.cells #[.int .i64 0, .string ⟨#[]⟩, .slice none 0 0] 54))
  rw [World.size_alloc] at hbl
  have HB := hid hbl
  have HC := hid hbc
  clear h n1 hfl hbl hbc
  go_enter Try.func38, Try.ntmps38
  go_wp2_with fail
  refine (MMay_z 2 key hi lim s _).mono ?_
  rintro e v1 ⟨rfl, hb1⟩
  have hb2 := HB.out.bel hb1
  have hb3 := HC.out.bel hb1
  have HH1 := hid (HH.out.bel (bx hB.out hb1))
  have x0 := hb2.cell 0
  have x1 := hb2.cell 1
  have x2 := hb2.cell 2
  have x3 := hb2.frozen 0
  have x4 := hb2.frozen 1
  have x5 := hb2.frozen 2
  have y0 := hb3.cell 0
  have y1 := hb3.cell 1
  have y2 := hb3.cell 2
  have y3 := hb3.cell 3
  have y4 := hb3.cell 4
  have HB2 := hid hb2
  have HB3 := hid hb3
  have hz1 := hb1.size
  simp only [World.size_alloc] at hz1
  have c3 : w.heap.size + 1 < v1.heap.size := by omega
  have c4 : w.heap.size < v1.heap.size := by omega
  clear hb2 hb3
  rw [HM.out]
  go_wp2
  go_region_with (first
    | (go_at_call 66; refine (does_z _).mono ?_; rintro e v2 ⟨rfl, hmap, hb5⟩; have hlk : (Instr.lookup 132 (.map (some v1.heap.size)) (.int .i64 2) false).run Try.prog v2 = .ok (.func (.func 100) #[] #[]) v2 := run_look_i64 (P := Try.prog) v2 132 56 _ Try.underlying132 Try.underlying56 _ _ _ hmap 2 1 _ rfl; have g1 := (HB3.out.drew.bel hb5).cell 0; have g2 := (HB3.out.drew.bel hb5).cell 1; have g3 := (HB3.out.drew.bel hb5).cell 2; have g4 := (HB3.out.drew.bel hb5).cell 3; have g5 := (HB3.out.drew.bel hb5).cell 4; have HB6 := hid (bx hB.out (bx hb1 (bx (bdrew (Below.refl _ _)) hb5))); clear hmap)
    | (go_at_call 100; refine (get_z m v 2 key hi lim s ps _ (HH1.out.bel (bx (bdrew (Below.refl _ _)) hb5))).mono ?_; intro e w1 hp; have hbR := hp.blk (HB2.out.drew.bel hb5) N1.out; obtain ⟨v', pv, rfl, hm', ho', hown', hrow', hpf'⟩ := hp; obtain ⟨pa, pn, rfl⟩ := row_form hrow'; have m0 := hbR.cell 0; have m1 := hbR.cell 1; have m2 := hbR.cell 2; have m3 := hbR.frozen 0; have m4 := hbR.frozen 1; have m5 := hbR.frozen 2; have HPP : Hid (RespPost v2 m v ps (errGet key ps) (getM key ps) [] (.returned (.agg #[.int .i64 (errGet key ps), .string (getM key ps), .slice pa 0 pn])) w1) := ⟨_, _, rfl, hm', ho', hown', hrow', hpf'⟩; have hz5 := hb5.size; clear hbR hm' ho' hown' hrow' hpf'))
  all_goals
    try go_simp
    try simp only [Act.put, List.setIfInBounds_toArray, List.set_cons_zero, List.set_cons_succ]
    go_wp2
    refine bodyPost_ret (v := .agg #[.int .i64 (errGet key ps), .string (getM key ps), .slice pa 0 pn]) (by simp [results, Try.results38, go_sem, m0, m1, m2]) rfl ?_
    exact RespPost.stored HH.out HB6.out (Nat.le_succ _) (by have := hz5; simp at this; omega) HPP.out

end Go.Proofs.Ytdhnacajgmjmlaa
