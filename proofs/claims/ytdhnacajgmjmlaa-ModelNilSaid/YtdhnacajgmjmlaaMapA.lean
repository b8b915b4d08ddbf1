/- Contracts of the map's methods: Put, Get, Delete, Len, Pairs. -/
import Derived.Test.YtdhnacajgmjmlaaPlace
namespace Go.Proofs.Ytdhnacajgmjmlaa
open Go.RowKit
set_option linter.unusedVariables false

def putM (k : Int) (s : ByteArray) (ps : PairL) : PairL := ps.take (placeI k ps) ++ [(k, s)] ++ ps.drop (if placeB k ps then placeI k ps + 1 else placeI k ps)
def delM (k : Int) (ps : PairL) : PairL := if placeB k ps then ps.take (placeI k ps) ++ ps.drop (placeI k ps + 1) else ps
def getM (k : Int) (ps : PairL) : ByteArray := match ps[placeI k ps]? with | some p => if p.1 == k then p.2 else ⟨#[]⟩ | none => ⟨#[]⟩

def foot (m : Nat) (v : Value) : List Nat := m :: v.ownBlock.toList
/-- what a call on a map leaves -/
def MapPost (w : World) (m : Nat) (v : Value) (ps' : PairL) (res : Value) (e : Ending) (w' : World) : Prop :=
  ∃ v', e = .returned res ∧ MapIs w' m v' ps' ∧ Only (foot m v) w w' ∧ ∀ k, v'.ownBlock = some k → v.ownBlock = some k ∨ w.heap.size ≤ k

theorem Rises.iff {ps : PairL} : Rises ps ↔ ps.Pairwise fun a b => a.1 < b.1 := by
  rw [List.pairwise_iff_getElem]
  exact ⟨fun h i j hi hj hij => h i j hij hj, fun h i j hij hj => h i j (by omega) hj hij⟩
theorem take_lt {k : Int} {ps : PairL} : ∀ p ∈ ps.take (placeI k ps), p.1 < k := by
  intro p hp
  obtain ⟨j, hj, rfl⟩ := List.mem_iff_getElem.1 hp
  have hl : j < ps.length := by simp at hj; omega
  rw [List.getElem_take]
  exact placeI_lt j hl (by simp at hj; omega)
theorem drop_ge {k : Int} {ps : PairL} (hr : Rises ps) : ∀ p ∈ ps.drop (placeI k ps), k ≤ p.1 := by
  intro p hp
  obtain ⟨j, hj, rfl⟩ := List.mem_iff_getElem.1 hp
  have hl : placeI k ps + j < ps.length := by simp at hj; omega
  rw [List.getElem_drop]
  have h0 := placeI_ge (k := k) (ps := ps) (by omega)
  by_cases hj0 : j = 0
  · subst hj0; exact h0
  · have := hr (placeI k ps) (placeI k ps + j) (by omega) hl; omega
theorem drop_gt {k : Int} {ps : PairL} (hr : Rises ps) : ∀ p ∈ ps.drop (if placeB k ps then placeI k ps + 1 else placeI k ps), k < p.1 := by
  intro p hp
  cases hb : placeB k ps with
  | true =>
    rw [hb] at hp
    have hlt : placeI k ps < ps.length := by
      by_cases h : placeI k ps < ps.length
      · exact h
      · rw [placeB_out h] at hb; cases hb
    rw [placeB_in hlt] at hb
    have he : ps[placeI k ps].1 = k := by simpa using hb
    obtain ⟨j, hj, rfl⟩ := List.mem_iff_getElem.1 hp
    have hl : placeI k ps + 1 + j < ps.length := by simp at hj; omega
    simp only [if_pos]
    rw [List.getElem_drop]
    have := hr (placeI k ps) (placeI k ps + 1 + j) (by omega) hl
    omega
  | false =>
    rw [hb] at hp
    simp only [Bool.false_eq_true, if_false] at hp
    have h1 := drop_ge hr p hp
    by_cases hlt : placeI k ps < ps.length
    · rw [placeB_in hlt] at hb
      have hne : ps[placeI k ps].1 ≠ k := by simpa using hb
      obtain ⟨j, hj, rfl⟩ := List.mem_iff_getElem.1 hp
      have hl : placeI k ps + j < ps.length := by simp at hj; omega
      rw [List.getElem_drop] at h1 ⊢
      have h0 := placeI_ge hlt
      by_cases hj0 : j = 0
      · subst hj0; simp only [Nat.add_zero] at h1 ⊢; omega
      · have := hr (placeI k ps) (placeI k ps + j) (by omega) hl; omega
    · rw [List.drop_eq_nil_of_le (by omega)] at hp; cases hp
theorem putM_rises {k : Int} {s : ByteArray} {ps : PairL} (hr : Rises ps) : Rises (putM k s ps) := by
  rw [Rises.iff] at hr ⊢
  unfold putM
  rw [List.append_assoc, List.pairwise_append]
  refine ⟨hr.sublist (List.take_sublist _ _), ?_, ?_⟩
  · rw [List.singleton_append, List.pairwise_cons]
    exact ⟨fun p hp => drop_gt (Rises.iff.2 hr) p hp, hr.sublist (List.drop_sublist _ _)⟩
  · intro p hp q hq
    have h1 := take_lt p hp
    rw [List.singleton_append, List.mem_cons] at hq
    rcases hq with rfl | hq
    · exact h1
    · have := drop_gt (Rises.iff.2 hr) q hq; omega
theorem delM_rises {k : Int} {ps : PairL} (hr : Rises ps) : Rises (delM k ps) := by
  unfold delM
  split
  · rw [Rises.iff] at hr ⊢
    have h1 := hr.sublist (List.take_sublist (placeI k ps) ps)
    rw [List.pairwise_append]
    refine ⟨h1, hr.sublist (List.drop_sublist _ _), fun p hp q hq => ?_⟩
    have h2 := take_lt p hp
    rename_i hb
    have h3 := drop_gt (k := k) (Rises.iff.2 hr) q (by rw [hb]; exact hq)
    omega
  · exact hr
theorem putM_length (k : Int) (s : ByteArray) (ps : PairL) : (putM k s ps).length ≤ ps.length + 1 := by
  unfold putM
  have := placeI_le k ps
  simp; split <;> omega
theorem delM_length (k : Int) (ps : PairL) : (delM k ps).length ≤ ps.length := by
  unfold delM; split
  · simp; omega
  · omega

theorem pc_set (ps : PairL) (i : Nat) (h : i < ps.length) (k : Int) (s : ByteArray) : ((pc ps).set (i * 2) (.int .u64 k)).set (i * 2 + 1) (.string s) = pc (ps.take i ++ [(k, s)] ++ ps.drop (i + 1)) := by
  induction ps generalizing i with
  | nil => simp at h
  | cons p ps ih =>
    cases i with
    | zero => simp [pc_cons]
    | succ i =>
      have := ih i (by simpa using h)
      rw [show (i + 1) * 2 = i * 2 + 1 + 1 by omega, pc_cons, List.set_cons_succ, List.set_cons_succ, List.set_cons_succ, List.set_cons_succ, this]
      simp [pc_cons]
theorem putM_old {k : Int} {s : ByteArray} {ps : PairL} (hb : placeB k ps = true) : putM k s ps = ps.take (placeI k ps) ++ [(k, s)] ++ ps.drop (placeI k ps + 1) := by simp [putM, hb]
theorem putM_new {k : Int} {s : ByteArray} {ps : PairL} (hb : placeB k ps = false) : putM k s ps = ps.take (placeI k ps) ++ [(k, s)] ++ ps.drop (placeI k ps) := by simp [putM, hb]
theorem placeB_lt {k : Int} {ps : PairL} (hb : placeB k ps = true) : placeI k ps < ps.length := by
  by_cases hx : placeI k ps < ps.length
  · exact hx
  · rw [placeB_out hx] at hb; cases hb

theorem MapIs.own_lt {w : World} {m : Nat} {v : Value} {ps : PairL} (h : MapIs w m v ps) : ∀ k, v.ownBlock = some k → k < w.heap.size := fun k hk => (h.row.lt k hk).2
theorem MapIs.foot_lt {w : World} {m : Nat} {v : Value} {ps : PairL} (h : MapIs w m v ps) : ∀ k, k ∈ foot m v → k < w.heap.size := by
  intro k hk
  simp only [foot, List.mem_cons, Option.mem_toList] at hk
  rcases hk with rfl | hk
  · exact h.obj.lt
  · exact h.own_lt k hk
theorem MapIs.fresh {w : World} {m : Nat} {v : Value} {ps : PairL} (h : MapIs w m v ps) : w.heap.size ∉ foot m v := fun hk => Nat.lt_irrefl _ (h.foot_lt _ hk)

set_option maxRecDepth 100000 in
set_option maxHeartbeats 1000000 in
theorem Put_long (m : Nat) (key : Int) (s : ByteArray) (w : World) (hs : 120 < s.size) :
    Calls Try.prog 29 #[.pointer (some ⟨m, 0, none⟩), .int .u64 key, .string s] w fun e w' => e = .returned (.int .i64 10) ∧ w = w' := by
  go_enter Try.func29, Try.ntmps29
  go_wp2
  go_ret
  exact ⟨rfl, rfl⟩

set_option maxRecDepth 100000 in
set_option maxHeartbeats 2000000 in
theorem Put_old (m g n cap : Nat) (key : Int) (s : ByteArray) (ps : PairL) (w : World) (h : MapIs w m (.slice (some ⟨g, 0, none⟩) n cap) ps) (hl : ps.length = n) (hs : s.size ≤ 120) (hb : placeB key ps = true) :
    Calls Try.prog 29 #[.pointer (some ⟨m, 0, none⟩), .int .u64 key, .string s] w (MapPost w m (.slice (some ⟨g, 0, none⟩) n cap) (putM key s ps) (.int .i64 0)) := by
  have hlt := placeB_lt hb
  have hpm := hid (putM_old (s := s) hb)
  have hB0 : Below w.heap.size w (w.alloc (.cells #[.int .u64 key, .string s] 52)) := ba (Below.refl _ _) _
  have hm1 := h.bel hB0
  have hH := hid h
  go_enter Try.func29, Try.ntmps29
  go_wp2_with fail
  refine (place_z m _ key ps _ hm1).mono ?_
  rintro e v1 ⟨rfl, hb1⟩
  rw [hb]
  have hm2 := hm1.bel hb1
  have hrow := hm2.row
  rw [hl] at hrow
  obtain ⟨P, hP⟩ : ∃ P, P = placeI key ps := ⟨_, rfl⟩
  rw [← hP]
  have HP := hid hP
  have hPn : P < n := by omega
  have hPl : P < ps.length := by omega
  have x0 := hm2.obj.cell 0
  have x1 := (hrow.cellAt (P * 2) (by omega)).trans (pc_at ps P hPl).1
  have x2 := (hrow.cellAt (P * 2 + 1) (by omega)).trans (pc_at ps P hPl).2
  have x3 := hrow.frozenAt (P * 2)
  have x4 := hrow.frozenAt (P * 2 + 1)
  have x5 := ck (show (w.alloc (.cells #[.int .u64 key, .string s] 52)).cell? ⟨w.heap.size, 0, none⟩ = some (.int .u64 key) by simp) hb1
  have x6 := ck (show (w.alloc (.cells #[.int .u64 key, .string s] 52)).cell? ⟨w.heap.size, 1, none⟩ = some (.string s) by simp) hb1
  have i1 : (0 : Int) ≤ (P : Int) := by omega
  have i2 : (P : Int) < (n : Int) := by omega
  have HR := hid hrow
  have HM2 := hid hm2
  clear hm1 hrow hm2 h hb hP hlt
  go_wp2
  go_region
  go_wp2
  go_ret
  have hne : m ≠ g := fun e => (HM2.out.ne_) (by rw [e]; rfl)
  have r1 := World.ownsRow.stored (w := v1.drew) HR.out (P * 2) (.int .u64 key)
  have r2 := World.ownsRow.stored r1.1 (P * 2 + 1) (.string s)
  have hlen : (putM key s ps).length = n := by rw [hpm.out, ← HP.out]; simp; omega
  refine ⟨_, rfl, ⟨(HM2.out.obj.drew.far (p := ⟨g, P * 2, none⟩) hne _).far (p := ⟨g, P * 2 + 1, none⟩) hne _, ?_, putM_rises hH.out.rises, by rw [hlen, ← hl]; exact hH.out.few⟩, ?_, fun k hk => Or.inl hk⟩
  · rw [hlen, hpm.out, ← HP.out, ← pc_set ps P hPl]; exact r2.1
  · refine Only.setCell (Only.setCell (Only.drew (Only.of_below (bx hB0 hb1) _)) (Or.inl ?_) _) (Or.inl ?_) _ <;> simp [foot, Value.ownBlock]

theorem Blk.cells2 {w : World} {b : Nat} {t : TypeId} {x y : Value} (h : Blk w b t #[x, y]) : w.cell? ⟨b, 0, none⟩ = some x ∧ w.cell? ⟨b, 1, none⟩ = some y := ⟨h.cell 0, h.cell 1⟩

theorem bdrew {B : Nat} {a b : World} (h : Below B a b) : Below B a b.drew := ⟨h.os, h.tape, h.output, h.size, h.block⟩
theorem row_slice {w : World} {base : Nat} {e : TypeId} {size : Nat} {v : Value} {n : Nat} {xs : List Value} (h : w.ownsRow base e size v n xs) : ∃ a n c, v = .slice a n c := by
  rcases h.2 with ⟨rfl, _⟩ | ⟨g, cap, cur, rfl, _⟩
  · exact ⟨_, _, _, rfl⟩
  · exact ⟨_, _, _, rfl⟩
/-- what Insert leaves of a map's row, ahead of the store to its object -/
structure PutDone (m : Nat) (v v' : Value) (n : Nat) (cs : List Value) (w w' : World) : Prop where
  obj : Blk w' m 100 #[v]
  row : w'.ownsRow 0 52 2 v' n cs
  only : Only (foot m v) w w'
  own : ∀ k, v'.ownBlock = some k → v.ownBlock = some k ∨ w.heap.size ≤ k
  far : v'.ownBlock ≠ some m
theorem Insert_put (m : Nat) (v : Value) (ps : PairL) (P : Nat) (key : Int) (s : ByteArray) (w : World) (w0 : World) (h : MapIs w m v ps) (hP : P ≤ ps.length) (hn : ps.length ≤ 1000000)
    (hw : w0 = (w.alloc (.cells #[.int .u64 key, .string s] 52)).drew) :
    Calls Try.prog 62 #[v, .int .i64 P, .slice (some ⟨w.heap.size, 0, none⟩) 1 1] w0 fun e w' => ∃ a n c, e = .returned (.slice a n c) ∧ w'.cell? ⟨m, 0, none⟩ = some v ∧ w'.frozen? ⟨m, 0, none⟩ = false ∧ PutDone m v (.slice a n c) (ps.length + 1) ((pc ps).take (P * 2) ++ [.int .u64 key, .string s] ++ (pc ps).drop (P * 2)) w w' := by
  subst hw
  have hB : Below w.heap.size w (w.alloc (.cells #[.int .u64 key, .string s] 52)).drew := bdrew (ba (Below.refl _ _) _)
  have h1 := h.bel hB
  have hne : v.ownBlock ≠ some w.heap.size := by
    intro he
    rcases h.row.2 with ⟨rfl, _⟩ | ⟨g, cap, cur, rfl, _, hg, _⟩
    · simp [Value.ownBlock] at he
    · have : g = w.heap.size := by simpa [Value.ownBlock] using he
      have := Blk.lt (t := 52) hg; omega
  refine (Insert_pair v ps.length P (pc ps) w.heap.size (.int .u64 key) (.string s) _ h1.row hP hn (Blk.new w _ _).drew hne rfl rfl (pc_one ps)).mono ?_
  rintro e w' ⟨v', rfl, hr, hg, ho⟩
  have hob := h1.obj.grown hg (fun e => h.ne_ e.symm)
  obtain ⟨a, n, c, rfl⟩ := row_slice hr
  refine ⟨a, n, c, rfl, hob.cell 0, hob.frozen 0, hob, hr, (Only.of_below hB _).trans (Only.of_grown (f := foot m v) hg fun k hk => by simp [foot, hk]) (fun x hx => Or.inl hx), ?_, ?_⟩
  · intro k hk
    rcases ho with ho | ⟨g, ho, hge⟩
    · exact Or.inl (ho ▸ hk)
    · right; rw [ho] at hk; have : g = k := by simpa using hk
      have := hB.size; omega
  · intro he
    rcases ho with ho | ⟨g, ho, hge⟩
    · exact h.ne_ (ho ▸ he)
    · rw [ho] at he; have : g = m := by simpa using he
      have := h1.obj.lt; omega
theorem PutDone.put {m : Nat} {v v' : Value} {ps : PairL} {P : Nat} {key : Int} {s : ByteArray} {w wa w1 w2 : World} (h : PutDone m v v' (ps.length + 1) ((pc ps).take (P * 2) ++ [.int .u64 key, .string s] ++ (pc ps).drop (P * 2)) w1 w2)
    (h1 : Below w.heap.size w wa) (h2 : Below wa.heap.size wa w1) (hp : putM key s ps = ps.take (placeI key ps) ++ [(key, s)] ++ ps.drop (placeI key ps)) (hP : P = placeI key ps) (hm : MapIs w m v ps) (hf : ps.length + 1 ≤ 1000000) :
    MapPost w m v (putM key s ps) (.int .i64 0) (.returned (.int .i64 0)) (w2.setCell ⟨m, 0, none⟩ v') := by
  have hb := bx h1 h2
  have hlen : (putM key s ps).length = ps.length + 1 := by rw [hp, ← hP]; have := placeI_le key ps; simp; omega
  refine ⟨v', rfl, ⟨h.obj.set_ 0 v', ?_, putM_rises hm.rises, by rw [hlen]; exact hf⟩, ?_, fun k hk => ?_⟩
  · rw [hlen, hp, ← hP]
    have hc : pc (ps.take P ++ [(key, s)] ++ ps.drop P) = (pc ps).take (P * 2) ++ [.int .u64 key, .string s] ++ (pc ps).drop (P * 2) := by
      simp [pc_append, pc_take, pc_drop, pc_cons]
    rw [hc]
    exact ownsRow_setCell_other (a := ⟨m, 0, none⟩) h.row h.far v'
  · exact Only.setCell ((Only.of_below hb _).trans h.only fun x hx => Or.inl hx) (Or.inl (by simp [foot])) _
  · rcases h.own k hk with h3 | h3
    · exact Or.inl h3
    · exact Or.inr (Nat.le_trans hb.size h3)

set_option maxRecDepth 100000 in
set_option maxHeartbeats 2000000 in
theorem Put_new (m : Nat) (v : Value) (key : Int) (s : ByteArray) (ps : PairL) (w : World) (h : MapIs w m v ps) (hf : ps.length + 1 ≤ 1000000) (hs : s.size ≤ 120) (hb : placeB key ps = false) :
    Calls Try.prog 29 #[.pointer (some ⟨m, 0, none⟩), .int .u64 key, .string s] w (MapPost w m v (putM key s ps) (.int .i64 0)) := by
  have hpm := hid (putM_new (s := s) hb)
  have hB0 : Below w.heap.size w (w.alloc (.cells #[.int .u64 key, .string s] 52)) := ba (Below.refl _ _) _
  have hm1 := h.bel hB0
  have hH := hid h
  go_enter Try.func29, Try.ntmps29
  go_wp2_with fail
  refine (place_z m _ key ps _ hm1).mono ?_
  rintro e v1 ⟨rfl, hb1⟩
  rw [hb]
  have hm2 := hm1.bel hb1
  obtain ⟨P, hP⟩ : ∃ P, P = placeI key ps := ⟨_, rfl⟩
  rw [← hP]
  have HP := hid hP
  have hPn : P ≤ ps.length := by rw [hP]; exact placeI_le _ _
  have x0 : v1.cell? ⟨m, 0, none⟩ = some v := hm2.obj.cell 0
  have x1 := hm2.obj.frozen 0
  have x5 := ck (show (w.alloc (.cells #[.int .u64 key, .string s] 52)).cell? ⟨w.heap.size, 0, none⟩ = some (.int .u64 key) by simp) hb1
  have x6 := ck (show (w.alloc (.cells #[.int .u64 key, .string s] 52)).cell? ⟨w.heap.size, 1, none⟩ = some (.string s) by simp) hb1
  have c2 : m ≠ v1.heap.size := Nat.ne_of_lt hm2.obj.lt
  have c3 : w.heap.size < v1.heap.size := by have := hb1.size; simp at this; omega
  have c4 : w.heap.size ∉ foot m v := h.fresh
  have x9 : (v1.alloc (.cells #[.int .u64 key, .string s] 52)).cell? ⟨m, 0, none⟩ = some v := ca _ x0
  have HM2 := hid hm2
  clear hm1 hm2 h hb hP
  go_wp2
  go_region_with ((go_at_call 62; refine (Insert_put m v ps P key s v1 _ HM2.out hPn (by omega) rfl).mono ?_; rintro e v2 ⟨a', n', c', rfl, k1, k2, hd⟩; have k3 := (hd.only.cell (p := ⟨w.heap.size, 0, none⟩) c3 c4).trans x5; have k4 := (hd.only.cell (p := ⟨w.heap.size, 1, none⟩) c3 c4).trans x6))
  all_goals go_wp2
  all_goals go_ret
  all_goals exact hd.put hB0 hb1 hpm.out HP.out hH.out hf

end Go.Proofs.Ytdhnacajgmjmlaa
