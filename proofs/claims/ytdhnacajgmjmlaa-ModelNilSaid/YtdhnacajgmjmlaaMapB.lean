/- Contracts of the map's methods: Get, Delete, Len, Pairs, Copy, Same. -/
import Derived.Test.YtdhnacajgmjmlaaMapA
namespace Go.Proofs.Ytdhnacajgmjmlaa
open Go.RowKit
set_option linter.unusedVariables false

theorem row_zero {w : World} {base : Nat} {e : TypeId} {size : Nat} {v : Value} {n : Nat} {xs : List Value} (h : w.ownsRow base e size v n xs) : w.ownsRow 0 e size v n xs := by
  refine ⟨h.1, ?_⟩
  rcases h.2 with h | ⟨g, cap, cur, h1, h2, h3⟩
  · exact Or.inl h
  · exact Or.inr ⟨g, cap, cur, h1, Nat.zero_le _, h3⟩
theorem row_lt {w : World} {base : Nat} {e : TypeId} {size : Nat} {v : Value} {n : Nat} {xs : List Value} (h : w.ownsRow base e size v n xs) : ∀ k, v.ownBlock = some k → base ≤ k ∧ k < w.heap.size := h.lt
theorem row_alloc {w : World} {base : Nat} {e : TypeId} {size : Nat} {v : Value} {n : Nat} {xs : List Value} (h : w.ownsRow base e size v n xs) (o : Obj) : (w.alloc o).ownsRow base e size v n xs := h.alloc o

def errGet (k : Int) (ps : PairL) : Int := if placeB k ps then 0 else 5
theorem getM_in {k : Int} {ps : PairL} (h : placeB k ps = true) : getM k ps = (ps[placeI k ps]'(placeB_lt h)).2 := by
  have hlt := placeB_lt h
  rw [placeB_in hlt] at h
  unfold getM
  rw [List.getElem?_eq_getElem hlt]
  simp only [h, if_true]
theorem getM_out {k : Int} {ps : PairL} (h : placeB k ps = false) : getM k ps = ⟨#[]⟩ := by
  unfold getM
  by_cases hlt : placeI k ps < ps.length
  · rw [placeB_in hlt] at h
    rw [List.getElem?_eq_getElem hlt]
    simp [h]
  · rw [List.getElem?_eq_none (by omega)]

set_option maxRecDepth 100000 in
set_option maxHeartbeats 1000000 in
theorem Get_nil (key : Int) (w : World) : Calls Try.prog 28 #[.pointer none, .int .u64 key] w fun e w' => e = .returned (.tuple #[.string ⟨#[]⟩, .int .i64 1]) ∧ w = w' := by
  go_enter Try.func28, Try.ntmps28
  go_wp2
  go_ret2
  exact ⟨rfl, rfl⟩
set_option maxRecDepth 100000 in
set_option maxHeartbeats 1000000 in
theorem Put_nil (key : Int) (s : ByteArray) (w : World) : Calls Try.prog 29 #[.pointer none, .int .u64 key, .string s] w fun e w' => e = .returned (.int .i64 1) ∧ w = w' := by
  go_enter Try.func29, Try.ntmps29
  go_wp2
  go_ret
  exact ⟨rfl, rfl⟩
set_option maxRecDepth 100000 in
set_option maxHeartbeats 1000000 in
theorem Delete_nil (key : Int) (w : World) : Calls Try.prog 30 #[.pointer none, .int .u64 key] w fun e w' => e = .returned (.int .i64 1) ∧ w = w' := by
  go_enter Try.func30, Try.ntmps30
  go_wp2
  go_ret
  exact ⟨rfl, rfl⟩
set_option maxRecDepth 100000 in
set_option maxHeartbeats 1000000 in
theorem Len_nil (w : World) : Calls Try.prog 24 #[.pointer none] w fun e w' => e = .returned (.int .i64 0) ∧ w = w' := by
  go_enter Try.func24, Try.ntmps24
  go_wp2
  go_ret
  exact ⟨rfl, rfl⟩
set_option maxRecDepth 100000 in
set_option maxHeartbeats 1000000 in
theorem Pairs_nil (w : World) : Calls Try.prog 27 #[.pointer none] w fun e w' => e = .returned (.slice none 0 0) ∧ w = w' := by
  go_enter Try.func27, Try.ntmps27
  go_wp2
  go_ret
  exact ⟨rfl, rfl⟩
set_option maxRecDepth 100000 in
set_option maxHeartbeats 1000000 in
theorem Copy_nil (w : World) : Calls Try.prog 42 #[.pointer none] w fun e w' => e = .returned (.pointer none) ∧ w = w' := by
  go_enter Try.func42, Try.ntmps42
  go_wp2
  go_ret
  exact ⟨rfl, rfl⟩

set_option maxRecDepth 100000 in
set_option maxHeartbeats 2000000 in
theorem Get_z (m : Nat) (v : Value) (key : Int) (ps : PairL) (w : World) (h : MapIs w m v ps) :
    Calls Try.prog 28 #[.pointer (some ⟨m, 0, none⟩), .int .u64 key] w fun e w' => e = .returned (.tuple #[.string (getM key ps), .int .i64 (errGet key ps)]) ∧ Below w.heap.size w w' := by
  cases hb : placeB key ps with
  | false =>
    have hg := getM_out hb
    have he : errGet key ps = 5 := by simp [errGet, hb]
    rw [hg, he]
    clear hg he
    go_enter Try.func28, Try.ntmps28
    go_wp2_with fail
    refine (place_z m v key ps w h).mono ?_
    rintro e v1 ⟨rfl, hb1⟩
    rw [hb]
    clear hb h
    go_wp2
    go_ret2
    exact ⟨rfl, by (repeat (first | exact Below.refl _ _ | (refine ba ?_ _) | (refine Below.drew ?_) | (refine below_drewN ?_ _) | (refine Below.alloc ?_ (by first | omega | (simp; done) | (simp; omega)) _) | (refine Below.setCell ?_ (by first | omega | (simp; done) | (simp; omega)) _) | (refine bx ?_ (by assumption)) | (refine Below.trans ?_ (Below.mono (by assumption) (by first | omega | (simp; done) | (simp; omega))))))⟩
  | true =>
    have hg := getM_in hb
    have he : errGet key ps = 0 := by simp [errGet, hb]
    have hlt := placeB_lt hb
    rw [he]
    clear he
    have HG := hid hg
    clear hg
    go_enter Try.func28, Try.ntmps28
    go_wp2_with fail
    refine (place_z m v key ps w h).mono ?_
    rintro e v1 ⟨rfl, hb1⟩
    rw [hb]
    have hm1 := h.bel hb1
    have hs := row_slice hm1.row
    obtain ⟨n, hn⟩ : ∃ n, n = ps.length := ⟨_, rfl⟩
    have hrow := hm1.row
    rw [← hn] at hrow
    rcases hrow.2 with ⟨rfl, h0⟩ | ⟨g, cap, cur, rfl, _⟩
    · omega
    obtain ⟨P, hP⟩ : ∃ P, P = placeI key ps := ⟨_, rfl⟩
    have hPl : P < ps.length := by omega
    rw [← hP]
    have x0 : v1.cell? ⟨m, 0, none⟩ = some (.slice (some ⟨g, 0, none⟩) n cap) := hm1.obj.cell 0
    have x2 := (hrow.cellAt (P * 2 + 1) (by omega)).trans (pc_at ps P hPl).2
    have i1 : (0 : Int) ≤ (P : Int) := by omega
    have i2 : (P : Int) < (n : Int) := by omega
    have HGG : Hid (getM key ps = (ps[P]'hPl).2) := by have := HG.out; subst hP; exact this
    clear hb h hm1 hrow hs HG hP hlt hn
    go_wp2
    go_ret2
    exact ⟨by rw [HGG.out]; rfl, by (repeat (first | exact Below.refl _ _ | (refine ba ?_ _) | (refine Below.drew ?_) | (refine below_drewN ?_ _) | (refine Below.alloc ?_ (by first | omega | (simp; done) | (simp; omega)) _) | (refine Below.setCell ?_ (by first | omega | (simp; done) | (simp; omega)) _) | (refine bx ?_ (by assumption)) | (refine Below.trans ?_ (Below.mono (by assumption) (by first | omega | (simp; done) | (simp; omega))))))⟩

set_option maxRecDepth 100000 in
set_option maxHeartbeats 2000000 in
theorem Delete_none (m : Nat) (v : Value) (key : Int) (ps : PairL) (w : World) (h : MapIs w m v ps) (hb : placeB key ps = false) :
    Calls Try.prog 30 #[.pointer (some ⟨m, 0, none⟩), .int .u64 key] w fun e w' => e = .returned (.int .i64 5) ∧ Below w.heap.size w w' := by
  go_enter Try.func30, Try.ntmps30
  go_wp2_with fail
  refine (place_z m v key ps w h).mono ?_
  rintro e v1 ⟨rfl, hb1⟩
  rw [hb]
  clear hb h
  go_wp2
  go_ret
  exact ⟨rfl, by (repeat (first | exact Below.refl _ _ | (refine ba ?_ _) | (refine Below.drew ?_) | (refine below_drewN ?_ _) | (refine Below.alloc ?_ (by first | omega | (simp; done) | (simp; omega)) _) | (refine Below.setCell ?_ (by first | omega | (simp; done) | (simp; omega)) _) | (refine bx ?_ (by assumption)) | (refine Below.trans ?_ (Below.mono (by assumption) (by first | omega | (simp; done) | (simp; omega))))))⟩

theorem Delete_put (m g n cap : Nat) (ps : PairL) (P : Nat) (key : Int) (w : World) (h : MapIs w m (.slice (some ⟨g, 0, none⟩) n cap) ps) (hl : ps.length = n) (hP : P < n) :
    Calls Try.prog 63 #[.slice (some ⟨g, 0, none⟩) n cap, .int .i64 P, .int .i64 ((P : Int) + 1)] w fun e w' => ∃ a n' c, e = .returned (.slice a n' c) ∧ w'.cell? ⟨m, 0, none⟩ = some (.slice (some ⟨g, 0, none⟩) n cap) ∧ w'.frozen? ⟨m, 0, none⟩ = false ∧
      PutDone m (.slice (some ⟨g, 0, none⟩) n cap) (.slice a n' c) (n - 1) ((pc ps).take (P * 2) ++ (pc ps).drop (P * 2 + 2)) w w' := by
  have hrow := h.row
  rw [hl] at hrow
  refine (Delete_one g n cap P (pc ps) w hrow hP (by have := h.few; omega) (pc_one ps)).mono ?_
  rintro e w' ⟨v', rfl, hr, hg, ho⟩
  have hob := h.obj.grown hg (fun e => h.ne_ e.symm)
  obtain ⟨a, n', c, rfl⟩ := row_slice hr
  refine ⟨a, n', c, rfl, hob.cell 0, hob.frozen 0, hob, hr, Only.of_grown (f := foot m _) hg fun k hk => by simp only [foot, List.mem_cons, Option.mem_toList]; exact Or.inr hk, ?_, ?_⟩
  · intro k hk
    rcases ho with ho | ⟨g, ho, hge⟩
    · exact Or.inl (ho ▸ hk)
    · right; rw [ho] at hk; have : g = k := by simpa using hk
      omega
  · intro he
    rcases ho with ho | ⟨g, ho, hge⟩
    · exact h.ne_ (ho ▸ he)
    · rw [ho] at he; have : g = m := by simpa using he
      have := h.obj.lt; omega

set_option maxRecDepth 100000 in
set_option maxHeartbeats 2000000 in
theorem Delete_some (m g n cap : Nat) (key : Int) (ps : PairL) (w : World) (h : MapIs w m (.slice (some ⟨g, 0, none⟩) n cap) ps) (hl : ps.length = n) (hb : placeB key ps = true) :
    Calls Try.prog 30 #[.pointer (some ⟨m, 0, none⟩), .int .u64 key] w (MapPost w m (.slice (some ⟨g, 0, none⟩) n cap) (delM key ps) (.int .i64 0)) := by
  have hlt := placeB_lt hb
  have hdm := hid (show delM key ps = ps.take (placeI key ps) ++ ps.drop (placeI key ps + 1) by simp [delM, hb])
  have hH := hid h
  have hfew := h.few
  go_enter Try.func30, Try.ntmps30
  go_wp2_with fail
  refine (place_z m _ key ps _ h).mono ?_
  rintro e v1 ⟨rfl, hb1⟩
  rw [hb]
  have hm2 := h.bel hb1
  obtain ⟨P, hP⟩ : ∃ P, P = placeI key ps := ⟨_, rfl⟩
  rw [← hP]
  have HP := hid hP
  have hPn : P < n := by omega
  have x0 : v1.cell? ⟨m, 0, none⟩ = some (.slice (some ⟨g, 0, none⟩) n cap) := hm2.obj.cell 0
  have i3 : IntKind.i64.wrap ((P : Int) + 1) = (P : Int) + 1 := IntWalk.i64_in _ (by omega)
  have HM2 := hid hm2
  have HL := hid hl
  clear hm2 h hb hP hlt hl
  go_wp2_with fail
  refine (Delete_put m g n cap ps P key v1 HM2.out HL.out hPn).mono ?_
  rintro e v2 ⟨a', n', c', rfl, k1, k2, hd⟩
  go_wp2
  go_ret
  have hlen : (delM key ps).length = n - 1 := by rw [hdm.out, ← HP.out]; have := HL.out; simp; omega
  refine ⟨.slice a' n' c', rfl, ⟨hd.obj.set_ 0 _, ?_, delM_rises hH.out.rises, by rw [hlen]; have := HL.out; omega⟩, Only.setCell ((Only.of_below hb1 _).trans hd.only fun x hx => Or.inl hx) (Or.inl (by simp [foot])) _, fun k hk => ?_⟩
  · rw [hlen, hdm.out, ← HP.out]
    have hc : pc (ps.take P ++ ps.drop (P + 1)) = (pc ps).take (P * 2) ++ (pc ps).drop (P * 2 + 2) := by
      rw [show P * 2 + 2 = (P + 1) * 2 by omega]
      simp [pc_append, pc_take, pc_drop]
    rw [hc]
    exact ownsRow_setCell_other (a := ⟨m, 0, none⟩) hd.row hd.far _
  · rcases hd.own k hk with h3 | h3
    · exact Or.inl h3
    · exact Or.inr (Nat.le_trans hb1.size h3)

set_option maxRecDepth 100000 in
set_option maxHeartbeats 1000000 in
theorem Len_z (m : Nat) (v : Value) (ps : PairL) (w : World) (h : MapIs w m v ps) :
    Calls Try.prog 24 #[.pointer (some ⟨m, 0, none⟩)] w fun e w' => e = .returned (.int .i64 ps.length) ∧ w = w' := by
  rcases h.row.2 with ⟨rfl, h0⟩ | ⟨g, cap, cur, rfl, _⟩
  · have x0 : w.cell? ⟨m, 0, none⟩ = some (.slice none 0 0) := h.obj.cell 0
    rw [h0]
    clear h h0
    go_enter Try.func24, Try.ntmps24
    go_wp2
    go_ret
    exact ⟨rfl, rfl⟩
  · have x0 : w.cell? ⟨m, 0, none⟩ = some (.slice (some ⟨g, 0, none⟩) ps.length cap) := h.obj.cell 0
    clear h
    go_enter Try.func24, Try.ntmps24
    go_wp2
    go_ret
    exact ⟨rfl, rfl⟩

set_option maxRecDepth 100000 in
set_option maxHeartbeats 1000000 in
theorem Pairs_some (m : Nat) (v : Value) (ps : PairL) (w : World) (h : MapIs w m v ps) :
    Calls Try.prog 27 #[.pointer (some ⟨m, 0, none⟩)] w (FreshRow w 52 2 ps.length (pc ps)) := by
  have x0 : w.cell? ⟨m, 0, none⟩ = some v := h.obj.cell 0
  have HH := hid h
  clear h
  go_enter Try.func27, Try.ntmps27
  go_wp2_with fail
  refine (Clone_row v ps.length (pc ps) w HH.out.row HH.out.few (pc_one ps)).mono ?_
  rintro e v1 ⟨v', rfl, hr, hb1⟩
  go_wp2
  go_ret
  exact ⟨v', rfl, hr, hb1⟩

/-- a map, or none -/
def MapAny (w : World) (p : Value) (ps : PairL) : Prop := (p = .pointer none ∧ ps = []) ∨ ∃ m v, p = .pointer (some ⟨m, 0, none⟩) ∧ MapIs w m v ps
theorem MapAny.bel {w w' : World} {p : Value} {ps : PairL} (h : MapAny w p ps) (hb : Below w.heap.size w w') : MapAny w' p ps := by
  rcases h with h | ⟨m, v, rfl, h⟩
  · exact Or.inl h
  · exact Or.inr ⟨m, v, rfl, h.bel hb⟩
theorem MapAny.few {w : World} {p : Value} {ps : PairL} (h : MapAny w p ps) : ps.length ≤ 1000000 := by
  rcases h with ⟨_, rfl⟩ | ⟨m, v, rfl, h⟩
  · simp
  · exact h.few
theorem MapAny.of {w : World} {m : Nat} {v : Value} {ps : PairL} (h : MapIs w m v ps) : MapAny w (.pointer (some ⟨m, 0, none⟩)) ps := Or.inr ⟨m, v, rfl, h⟩
theorem MapAny.nil (w : World) : MapAny w (.pointer none) [] := Or.inl ⟨rfl, rfl⟩
theorem Pairs_any (p : Value) (ps : PairL) (w : World) (h : MapAny w p ps) : Calls Try.prog 27 #[p] w (FreshRow w 52 2 ps.length (pc ps)) := by
  rcases h with ⟨rfl, rfl⟩ | ⟨m, v, rfl, h⟩
  · refine (Pairs_nil w).mono ?_
    rintro e w' ⟨rfl, rfl⟩
    exact ⟨_, rfl, ⟨rfl, Or.inl ⟨rfl, rfl⟩⟩, Below.refl _ _⟩
  · exact Pairs_some m v ps w h

set_option maxRecDepth 100000 in
set_option maxHeartbeats 1000000 in
theorem Copy_z (m : Nat) (v : Value) (ps : PairL) (w : World) (h : MapIs w m v ps) :
    Calls Try.prog 42 #[.pointer (some ⟨m, 0, none⟩)] w fun e w' => ∃ c v', e = .returned (.pointer (some ⟨c, 0, none⟩)) ∧ MapIs w' c v' ps ∧ Below w.heap.size w w' ∧ ∀ k, k ∈ foot c v' → w.heap.size ≤ k := by
  have HH := hid h
  go_enter Try.func42, Try.ntmps42
  go_wp2_with fail
  refine (Pairs_some m v ps w h).mono ?_
  rintro e v1 ⟨v', rfl, hr, hb1⟩
  obtain ⟨a, n', c, rfl⟩ := row_slice hr
  clear h
  go_wp2
  go_ret
  have hf := fun k hk => (row_lt hr k hk).1
  refine ⟨_, _, rfl, ⟨Blk.new v1 _ _, (row_alloc (row_zero hr) _), HH.out.rises, HH.out.few⟩, ba hb1 _, ?_⟩
  intro k hk
  simp only [foot, List.mem_cons, Option.mem_toList] at hk
  rcases hk with rfl | hk
  · exact hb1.size
  · exact hf k hk

set_option maxRecDepth 100000 in
set_option maxHeartbeats 1000000 in
theorem Same_any (p q : Value) (ps qs : PairL) (w : World) (h : MapAny w p ps) (h2 : MapAny w q qs) :
    Calls Try.prog 44 #[p, q] w fun e w' => e = .returned (.bool (pairsEq ps qs)) ∧ Below w.heap.size w w' := by
  go_enter Try.func44, Try.ntmps44
  go_wp2_with fail
  refine (Pairs_any p ps w h).mono ?_
  rintro e v1 ⟨x, rfl, hx, hb1⟩
  go_wp2_with fail
  refine (Pairs_any q qs v1 (h2.bel hb1)).mono ?_
  rintro e v2 ⟨y, rfl, hy, hb2⟩
  have hx2 : v2.ownsRow 0 52 2 x ps.length (pc ps) := (Only.of_below hb2 []).own (row_zero hx) (by simp)
  have hy2 := row_zero hy
  have h3 := h.few
  have h4 := h2.few
  clear h h2
  go_wp2_with fail
  refine (Equal_len x y ps qs v2 hx2 hy2 h3 h4).mono ?_
  rintro e v3 ⟨rfl, hb3⟩
  clear hx hy hx2 hy2
  go_wp2
  go_ret
  exact ⟨rfl, by (repeat (first | exact Below.refl _ _ | (refine ba ?_ _) | (refine Below.drew ?_) | (refine below_drewN ?_ _) | (refine Below.alloc ?_ (by first | omega | (simp; done) | (simp; omega)) _) | (refine Below.setCell ?_ (by first | omega | (simp; done) | (simp; omega)) _) | (refine bx ?_ (by assumption)) | (refine Below.trans ?_ (Below.mono (by assumption) (by first | omega | (simp; done) | (simp; omega))))))⟩

end Go.Proofs.Ytdhnacajgmjmlaa
