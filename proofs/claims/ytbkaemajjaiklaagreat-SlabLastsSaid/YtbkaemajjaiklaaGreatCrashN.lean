/- pmem.Copy: rows cloned. -/
import Derived.Maps.AppendAt
import Derived.Test.YtbkaemajjaiklaaGreatCloneW
import Derived.Test.YtbkaemajjaiklaaGreatPmW
import Derived.Test.YtbkaemajjaiklaaGreatOwnRow
import Derived.Test.YtbkaemajjaiklaaGreatRefM
import Derived.Deep.RegionHeld3
import Derived.Test.YtbkaemajjaiklaaGreatRefN
import Derived.Test.YtbkaemajjaiklaaGreatRefW
import Derived.BigQuiet
import Derived.Test.YtbkaemajjaiklaaGreatLastN
import Derived.Test.YtbkaemajjaiklaaGreatAppM
import Derived.Test.YtbkaemajjaiklaaGreatChunk
import Derived.Deep.Onto
import Derived.Test.YtbkaemajjaiklaaGreatRefV
import Derived.OrdersIn
import Derived.TacticsIn
import Derived.StillTailTactics
import Derived.MapKept

namespace Go.Proofs.YtbkaemajjaiklaaGreat
open Go.RowKit
set_option linter.unusedVariables false
set_option linter.unusedSimpArgs false

attribute [local go_sem ↓ high] append_shut2
attribute [local go_sem] appM2_run

@[go_sem] theorem eqNilPuts (a : Option Addr) (n c : Nat) (w : World) : (binOp .eql 140 (.slice a n c) (.slice none 0 0)).run Tryz.prog w = .ok (.bool a.isNone) w := by
  simp [binOp, run_equal_slice_nil w 140 184 a n c Tryz.underlying140]
theorem infoPut : (Tryz.prog.info? 184).map (fun i => (i.zero, i.size, i.bytes)) = some (some (.agg #[.int .u64 0, .int .u64 0]), 2, 16) := by kernel_rfl
theorem empty_row (w : World) (e : TypeId) (size : Nat) : (w.alloc (.cells #[] e)).ownsRow w.heap.size e size (.slice (some ⟨w.heap.size, 0, none⟩) 0 0) 0 [] := by
  have := World.ownsRow_lit (base := w.heap.size) (e := e) (size := size) w #[] 0 (Nat.le_refl _) (Nat.zero_le _) (by simp)
  simpa using this
set_option maxRecDepth 100000 in
set_option maxHeartbeats 1000000 in
theorem CloneW_at (b cap : Nat) (ws : List Int) (w : World) (h : WordsAt w b ws) (hn : 0 < ws.length) (hl : ws.length ≤ 131072) :
    Calls Tryz.prog 78 #[.slice (some ⟨b, 0, none⟩) ws.length cap] w fun e w' => ∃ g c, e = .returned (.slice (some ⟨g, 0, none⟩) ws.length c) ∧ WordsAt w' g ws ∧ w.heap.size ≤ g ∧ Below w.heap.size w w' := by
  obtain ⟨i0, hi, hz0, hz1, hz2⟩ := info_parts infoU64
  obtain ⟨W, hW⟩ : ∃ W, W = w.alloc (.cells #[] 23) := ⟨_, rfl⟩
  have hb : Below w.heap.size w W := by rw [hW]; exact ba (Below.refl _ _) _
  have hE : W.ownsRow w.heap.size 23 1 (.slice (some ⟨w.heap.size, 0, none⟩) 0 0) 0 [] := by rw [hW]; exact empty_row w _ _
  have hx : NewsAt W (.slice (some ⟨b, 0, none⟩) ws.length cap) ws.length (ws.map (Value.int .u64)) := Or.inr ⟨b, 0, cap, rfl, fun j u hj => by
    rw [List.getElem?_map] at hj
    obtain ⟨x, hx, rfl⟩ := Option.map_eq_some_iff.1 hj
    rw [Nat.zero_add]
    exact (hb.cell (p := ⟨b, j, none⟩) h.lt).trans (h.cell hx)⟩
  obtain ⟨v', w', q⟩ := run_app (P := Tryz.prog) W w.heap.size 128 128 23 i0 (.int .u64 0) 1 8 Tryz.underlying128 hi hz0 hz1 hz2 rfl (by decide) (.slice (some ⟨w.heap.size, 0, none⟩) 0 0) 0 [] hE _ ws.length _ hx (by simp) (by
    intro u hu
    obtain ⟨y, _, rfl⟩ := List.mem_map.1 hu
    rfl) (by unfold maxLen; omega) (by omega) hb.size
  have hrun := q.run
  have hown := q.own
  rw [Nat.zero_add, List.nil_append] at hown
  have ho : Only [w.heap.size] W w' := Only.of_grown q.grown (fun k hk => by
    have : w.heap.size = k := by simpa [Value.ownBlock] using hk
    simp [this])
  have hfin : ∃ g c, v' = .slice (some ⟨g, 0, none⟩) ws.length c ∧ WordsAt w' g ws ∧ w.heap.size ≤ g ∧ Below w.heap.size w w' := by
    rcases hown.2 with ⟨_, h0⟩ | ⟨g, c, cur, e1, e2, e3, e4, e5, e6, e7⟩
    · omega
    · refine ⟨g, c, e1, ⟨cur, e3, fun i x hi => ?_⟩, e2, (ho.below (fun y hy => by rw [List.mem_singleton.1 hy]; exact Nat.le_refl _) hb.size |> hb.trans)⟩
      have hl' := (List.getElem?_eq_some_iff.1 hi).1
      rw [← Array.getElem?_toList]
      have : (cur.toList.take (ws.length * 1))[i]? = some (.int .u64 x) := by rw [e7, List.getElem?_map, hi]; rfl
      rw [List.getElem?_take, if_pos (by omega)] at this
      exact this
  obtain ⟨n, hn'⟩ : ∃ n, n = ws.length := ⟨_, rfl⟩
  rw [← hn'] at hrun hfin ⊢
  obtain ⟨g, c, rfl, hf⟩ := hfin
  have HF := hid hf
  have HW := hid hW
  rw [hW] at hrun
  clear hf hW hb hE hx q hown ho h hn hl hn'
  go_enter Tryz.func78, Tryz.ntmps78
  go_wp2
  go_ret
  exact ⟨g, c, rfl, HF.out⟩
theorem putC2_len (ps : List (Nat × Int)) : (putC2 ps).length = ps.length * 2 := by
  unfold putC2
  induction ps with
  | nil => rfl
  | cons p ps ih => rw [List.flatMap_cons, List.length_append, ih]; simp; omega
set_option maxRecDepth 100000 in
set_option maxHeartbeats 1000000 in
theorem CloneP_at (L : LineA) (w : World) (h : RowP w L) (hn : L.ps ≠ []) (hl : L.ps.length ≤ 1000000000) :
    Calls Tryz.prog 107 #[.slice (some ⟨L.g, L.o, none⟩) L.ps.length L.cap] w fun e w' => ∃ g c, e = .returned (.slice (some ⟨g, 0, none⟩) L.ps.length c) ∧ RowP w' { L with g := g, o := 0, cap := c } ∧ w.heap.size ≤ g ∧ Below w.heap.size w w' := by
  obtain ⟨i0, hi, hz0, hz1, hz2⟩ := info_parts infoPut
  obtain ⟨cur, hb0, hb1, hb2, hb3⟩ := h
  obtain ⟨W, hW⟩ : ∃ W, W = w.alloc (.cells #[] 184) := ⟨_, rfl⟩
  have hb : Below w.heap.size w W := by rw [hW]; exact ba (Below.refl _ _) _
  have hE : W.ownsRow w.heap.size 184 2 (.slice (some ⟨w.heap.size, 0, none⟩) 0 0) 0 [] := by rw [hW]; exact empty_row w _ _
  have hx : NewsAt W (.slice (some ⟨L.g, L.o, none⟩) L.ps.length L.cap) L.ps.length (putC2 L.ps) := Or.inr ⟨L.g, L.o, L.cap, rfl, fun j u hj => by
    have hjl := (List.getElem?_eq_some_iff.1 hj).1
    rw [putC2_len] at hjl
    refine (hb.cell (p := ⟨L.g, L.o + j, none⟩) hb0.lt).trans ?_
    rw [hb0.cell, ← Array.getElem?_toList]
    rw [← hb3, List.getElem?_take, if_pos (by omega), List.getElem?_drop] at hj
    exact hj⟩
  obtain ⟨v', w', q⟩ := run_app (P := Tryz.prog) W w.heap.size 140 140 184 i0 _ 2 16 Tryz.underlying140 hi hz0 hz1 hz2 rfl (by decide) (.slice (some ⟨w.heap.size, 0, none⟩) 0 0) 0 [] hE _ L.ps.length _ hx (putC2_len _) (by
    intro u hu
    obtain ⟨y, _, hy⟩ := List.mem_flatMap.1 hu
    simp at hy
    rcases hy with rfl | rfl <;> rfl) (by unfold maxLen; omega) (by omega) hb.size
  have hrun := q.run
  have hown := q.own
  rw [Nat.zero_add, List.nil_append] at hown
  have ho : Only [w.heap.size] W w' := Only.of_grown q.grown (fun k hk => by
    have : w.heap.size = k := by simpa [Value.ownBlock] using hk
    simp [this])
  have hp : 0 < L.ps.length := List.length_pos_iff.2 hn
  have hfin : ∃ g c, v' = .slice (some ⟨g, 0, none⟩) L.ps.length c ∧ RowP w' { L with g := g, o := 0, cap := c } ∧ w.heap.size ≤ g ∧ Below w.heap.size w w' := by
    rcases hown.2 with ⟨_, h0⟩ | ⟨g, c, cur', e1, e2, e3, e4, e5, e6, e7⟩
    · omega
    · exact ⟨g, c, e1, ⟨cur', e3, e4, by show 0 + c * 2 ≤ _; omega, by show (cur'.toList.drop 0).take _ = _; rw [List.drop_zero]; exact e7⟩, e2, (ho.below (fun y hy => by rw [List.mem_singleton.1 hy]; exact Nat.le_refl _) hb.size |> hb.trans)⟩
  obtain ⟨n, hn'⟩ : ∃ n, n = L.ps.length := ⟨_, rfl⟩
  rw [← hn'] at hrun hfin ⊢
  obtain ⟨g, c, rfl, hf⟩ := hfin
  have HF := hid hf
  rw [hW] at hrun
  clear hf hW hb hE hx q hown ho hn hl hn' hb0 hb1 hb2 hb3 hp
  go_enter Tryz.func107, Tryz.ntmps107
  go_wp2
  go_ret
  exact ⟨g, c, rfl, HF.out⟩

end Go.Proofs.YtbkaemajjaiklaaGreat

/- pmem.Copy: lines in new memory. -/
namespace Go.Proofs.YtbkaemajjaiklaaGreat
open Go.RowKit
set_option linter.unusedVariables false
set_option linter.unusedSimpArgs false

/-- which line an entry is of -/
def lineF (ls : List LineA) (e : MapEntry) : Option LineA := ls.find? fun L => decide (L.born = e.born)
theorem lineF_of : ∀ {ls : List LineA}, ls.Pairwise (fun a b => a.born ≠ b.born) → ∀ {L : LineA}, L ∈ ls → lineF ls (lineE L) = some L
  | [], _, L, h => by cases h
  | x :: ls, hp, L, h => by
    have hp' := List.pairwise_cons.1 hp
    unfold lineF
    rcases List.mem_cons.1 h with rfl | h1
    · rw [List.find?_cons_of_pos (by simp [lineE])]
    · rw [List.find?_cons_of_neg (by show ¬ decide (x.born = L.born) = true; simpa using hp'.1 L h1)]
      exact lineF_of hp'.2 h1
theorem lineF_all {ls : List LineA} (hp : ls.Pairwise (fun a b => a.born ≠ b.born)) : (ls.map lineE).filterMap (lineF ls) = ls := by
  have key : ∀ (xs : List LineA), (∀ L ∈ xs, lineF ls (lineE L) = some L) → (xs.map lineE).filterMap (lineF ls) = xs := by
    intro xs
    induction xs with
    | nil => intro _; rfl
    | cons x xs ih =>
      intro h
      rw [List.map_cons, List.filterMap_cons, h x (List.mem_cons_self ..), ih (fun L hL => h L (List.mem_cons_of_mem _ hL))]
  exact key ls (fun L hL => lineF_of hp hL)
theorem adr_inj : ∀ {ls : List LineA}, ls.Pairwise (fun a b => a.adr ≠ b.adr) → ∀ {L L' : LineA}, L ∈ ls → L' ∈ ls → L.adr = L'.adr → L = L'
  | [], _, _, _, h, _, _ => by cases h
  | x :: ls, hp, L, L', h, h', e => by
    have hp' := List.pairwise_cons.1 hp
    rcases List.mem_cons.1 h with h1 | h1
    · rcases List.mem_cons.1 h' with h2 | h2
      · rw [h1, h2]
      · rw [h1] at e; exact absurd e (hp'.1 L' h2)
    · rcases List.mem_cons.1 h' with h2 | h2
      · rw [h2] at e; exact absurd e.symm (hp'.1 L h1)
      · exact adr_inj hp'.2 h1 h2 e
theorem lineF_mem {ls : List LineA} {e : MapEntry} {L : LineA} (h : lineF ls e = some L) : L ∈ ls ∧ L.born = e.born := by
  unfold lineF at h
  exact ⟨List.mem_of_find?_eq_some h, by simpa using List.find?_some h⟩
/-- those met are others than one not seen -/
theorem met_other {ls : List LineA} {es : List MapEntry} {seen : Array Nat} {met : List LineA} (hp : met.Perm (gotM (lineF ls) es seen)) {L : LineA} (hs : seen.contains L.born = false) : ∀ L' ∈ met, L' ∈ ls ∧ L' ≠ L := by
  intro L' hL'
  have hm := hp.mem_iff.1 hL'
  unfold gotM at hm
  obtain ⟨e, he, hf⟩ := List.mem_filterMap.1 hm
  obtain ⟨h1, h2⟩ := lineF_mem hf
  refine ⟨h1, fun e' => ?_⟩
  have := (List.mem_filter.1 he).2
  rw [← h2, e', hs] at this
  cases this
/-- while lines are laid anew -/
structure OwnI (w : World) (met ls' : List LineA) (ck : Nat) (W : World) : Prop where
  map : W.heap[w.heap.size]? = some (.map (ls'.map lineE).toArray ck)
  ab : ls'.map absL = met.map absL
  rows : ∀ L ∈ ls', RowP W L
  born : ls'.Pairwise fun a b => a.born ≠ b.born
  old : ∀ L ∈ ls', L.born < ck
  lo : ∀ L ∈ ls', w.heap.size + 2 ≤ L.g
  gs : (ls'.map (·.g)).Nodup
  bel : Below w.heap.size w W
theorem OwnI.only {w : World} {met ls' : List LineA} {ck : Nat} {W W' : World} {f : List Nat} (h : OwnI w met ls' ck W) (ho : Only f W W') (h1 : w.heap.size ∉ f) (h2 : ∀ L ∈ ls', L.g ∉ f) (h3 : ∀ k ∈ f, w.heap.size ≤ k) : OwnI w met ls' ck W' :=
  ⟨(ho.block _ (Array.getElem?_eq_some_iff.1 h.map).1 h1).trans h.map, h.ab, fun L hL => (h.rows L hL).only ho (h2 L hL), h.born, h.old, h.lo, h.gs, h.bel.trans (ho.below h3 h.bel.size)⟩

set_option maxRecDepth 100000 in
set_option maxHeartbeats 2000000 in
theorem own_z (m : Nat) (B : MB) (M : MemS) (hlen : ∀ L ∈ M.lines, L.ps.length ≤ 1000000000) (w : World) (h : MemIs w m B M) :
    Calls Tryz.prog 79 #[.map (some B.lb)] w fun e w' => e = .returned (.map (some w.heap.size)) ∧ ∃ met ls' ck', OwnI w met ls' ck' w' ∧ met.Perm M.lines := by
  have hmm : ∀ W, (Instr.makeMap 129 none).run Tryz.prog W = .ok (.map (some W.heap.size)) (W.alloc (.map #[] 0)) := fun _ => rfl
  have z378 := line_zero
  have a378 := line_isAgg
  obtain ⟨N, hN⟩ : ∃ N, N = 66 := ⟨_, rfl⟩
  have s378 : ∀ w, (sizeOf 143).run Tryz.prog w = .ok N w := by rw [hN]; exact line_sizeOf
  have n378 : lineZ.size = N := lineZ_size.trans hN.symm
  have HN := hid hN
  have HLEN := hid hlen
  have H := hid h
  clear h hN hlen
  obtain ⟨es, hes⟩ : ∃ es, es = (M.lines.map lineE).toArray := ⟨_, rfl⟩
  obtain ⟨ck, hck⟩ : ∃ ck, ck = M.clock := ⟨_, rfl⟩
  have hmap : (w.alloc (.map #[] 0)).heap[B.lb]? = some (.map es ck) := by
    rw [Below.heap_alloc w _ _ (H.out.foot_lt _ (by simp [footM])), hes, hck]; exact H.out.map
  have hrg := run_range_map (P := Tryz.prog) (w.alloc (.map #[] 0)) 129 24 143 B.lb es ck Tryz.underlying129 hmap
  have HES := hid hes
  have HCK := hid hck
  clear hes hck
  go_enter Tryz.func79, Tryz.ntmps79
  go_wp2
  obtain ⟨mb, hmb⟩ : ∃ mb, mb = w.heap.size := ⟨_, rfl⟩
  obtain ⟨r, hr⟩ : ∃ r, r = w.heap.size + 1 := ⟨_, rfl⟩
  obtain ⟨W2, hW2⟩ : ∃ W2, W2 = (w.alloc (.map #[] 0)).alloc (.mapIter (some B.lb) ck #[] ck) := ⟨_, rfl⟩
  have hsz : (w.alloc (.map #[] 0)).heap.size = w.heap.size + 1 := Array.size_push ..
  have O12 : Only [] w W2 := by rw [hW2]; exact ((Only.refl _ _).alloc _).alloc _
  have I2 := hid (show W2.heap[r]? = some (.mapIter (some B.lb) ck #[] ck) by rw [hW2, hr, ← hsz]; exact heap_alloc_new _ _)
  have K2 := hid (show W2.heap[B.lb]? = some (.map es ck) by
    rw [hW2]
    exact (Below.heap_alloc _ _ _ (by rw [hsz]; have := H.out.foot_lt B.lb (by simp [footM]); omega)).trans hmap)
  have J2 : Hid (OwnI w [] [] 0 W2) := by
    refine ⟨?_, rfl, fun L hL => (by cases hL), List.Pairwise.nil, fun L hL => (by cases hL), fun L hL => (by cases hL), List.nodup_nil, O12.below (fun x hx => by cases hx) (Nat.le_refl _)⟩
    rw [hW2]
    exact (Below.heap_alloc _ _ _ (by rw [hsz]; omega)).trans (heap_alloc_new _ _)
  have FB : Hid (∀ k ∈ footM m B M, k < w.heap.size) := fun k hk => H.out.foot_lt k hk
  have OLD : Hid (∀ x ∈ es.toList, x.born < ck) := fun x hx => by
    rw [HES.out] at hx
    simp only [List.mem_map] at hx
    obtain ⟨L, hL, rfl⟩ := hx
    rw [HCK.out]; exact H.out.old L hL
  have ND : Hid ((es.toList.map (·.born)).Nodup) := by
    rw [HES.out]
    show ((M.lines.map lineE).map (·.born)).Nodup
    rw [List.map_map]
    exact List.pairwise_map.2 H.out.born
  have hszW : r + 1 ≤ W2.heap.size := by have := O12.size; rw [hW2, hr]; simp
  have HR := hid (⟨hr, hmb, hszW⟩ : _ ∧ _ ∧ _)
  rw [← hr, ← hmb, ← hW2]
  clear hsz hW2 hr hrg O12 hmap hmb hszW
  go_loopw [] (fun wr => ∃ (seen : Array Nat) (met ls' : List LineA) (c' : Nat), Hid (wr.heap[r]? = some (.mapIter (some B.lb) ck seen ck)) ∧ Hid (wr.heap[B.lb]? = some (.map es ck)) ∧ Hid (OwnI w met ls' c' wr) ∧ Hid (met.Perm (gotM (lineF M.lines) es.toList seen)) ∧ Hid (W2.heap.size ≤ wr.heap.size)) (fun wr => (leftOf es (wr.iterSeen r)).size)
  case atStart => exact ⟨#[], [], [], 0, I2, K2, J2, (by rw [gotM_none] : ([] : List LineA).Perm (gotM (lineF M.lines) es.toList #[])), Nat.le_refl _⟩
  case round =>
    obtain ⟨seen, met, ls', c', hI, hK, hJ, hP, hZ⟩ := hrel
    rcases run_next_at (P := Tryz.prog) wr 0 r B.lb ck ck seen es ck hI.out hK.out OLD.out (Nat.le_refl _) with ⟨h0, hrun⟩ | ⟨e, he, w1, hw1, hrun⟩
    · have H0 := hid h0
      clear h0
      go_wp2
      go_ret
      have hall := gotM_all (lineF M.lines) es seen H0.out
      have hp2 := hP.out
      rw [hall, HES.out] at hp2
      have hp3 : met.Perm M.lines := by
        rw [show ((M.lines.map lineE).toArray).toList = M.lines.map lineE from rfl, lineF_all H.out.born] at hp2
        exact hp2
      exact ⟨by rw [HR.out.2.1]; rfl, met, ls', c', hJ.out, hp3⟩
    · obtain ⟨L, hL, rfl⟩ : ∃ L ∈ M.lines, e = lineE L := by
        have := (mem_left he).1
        rw [HES.out] at this
        simp only [List.mem_map] at this
        obtain ⟨L, hL, rfl⟩ := this
        exact ⟨L, hL, rfl⟩
      have hsh := hid (left_shrinks es seen (lineE L) he)
      have HNS : Hid (seen.contains L.born = false) := (mem_left he).2
      have hit := hid hI.out
      have hpush := hid (gotM_push (lineF M.lines) ND.out (mem_left he).1 (mem_left he).2)
      obtain ⟨W3, hW3⟩ : ∃ W3, W3 = w1.putObj r (.mapIter (some B.lb) ck (seen.push (lineE L).born) ck) := ⟨_, rfl⟩
      replace hrun : (Instr.next (.pointer (some ⟨r, 0, none⟩)) false 0).run Tryz.prog wr = .ok (.tuple #[.bool true, (lineE L).key, (lineE L).val]) W3 := by rw [hW3]; exact hrun
      have hon1 : Only [r] wr w1 := by rcases hw1 with rfl | rfl; exact Only.refl _ _; exact (Only.refl _ _).drew
      have hon : Only [r] wr W3 := by rw [hW3]; exact Only.putObj hon1 (Or.inl (by simp)) _
      have hI3 : Hid (W3.heap[r]? = some (.mapIter (some B.lb) ck (seen.push L.born) ck)) := by
        rw [hW3]
        exact putObj_at (w := w1) (o := .mapIter (some B.lb) ck seen ck) (by rcases hw1 with rfl | rfl <;> exact hI.out)
      have hrlb : B.lb ≠ r := by have := FB.out B.lb (by simp [footM]); have := HR.out.1; omega
      have hK3 : Hid (W3.heap[B.lb]? = some (.map es ck)) := (hon.block _ (Array.getElem?_eq_some_iff.1 hK.out).1 (by simpa using hrlb)).trans hK.out
      have hJ3 : Hid (OwnI w met ls' c' W3) := hJ.out.only hon (by have := HR.out; simp; omega) (fun L' hL' hm => by have h1 := hJ.out.lo L' hL'; have h2 := HR.out.1; rw [List.mem_singleton.1 hm] at h1; omega) (fun k hk => by rw [List.mem_singleton.1 hk]; have := HR.out.1; omega)
      have hZ3 : Hid (W2.heap.size ≤ W3.heap.size) := Nat.le_trans hZ.out hon.size
      have hent := run_entry_at (P := Tryz.prog) W3 r B.lb ck seen es ck (lineE L) hI3.out hK3.out (mem_left he).1 ND.out
      have HLM := hid hL
      simp only [lineE] at hrun hent
      clear hw1 hW3 hon hon1 hI hK hJ he hL hrlb
      have okL := H.out.ok L HLM.out
      have hst : (storeCells ⟨W3.heap.size, 0, none⟩ (lineC L).toList 0).run Tryz.prog (W3.alloc (.cells lineZ 143)) = .ok () (W3.alloc (.cells (lineC L) 143)) :=
        run_storeCells_new (P := Tryz.prog) W3 143 lineZ (lineC L) (by rw [line_size, lineC_size okL]) (by rw [lineC_size okL]; rfl) (lineC_one L)
      have n2 : (lineC L).size = N := (lineC_size okL).trans HN.out.symm
      obtain ⟨X, hX⟩ : ∃ X, X = W3.heap.size := ⟨_, rfl⟩
      obtain ⟨W4, hW4⟩ : ∃ W4, W4 = W3.alloc (.cells (lineC L) 143) := ⟨_, rfl⟩
      have O34 : Only [] W3 W4 := by rw [hW4]; exact (Only.refl _ _).alloc _
      have B4 : Blk W4 X 143 (lineC L) := by rw [hW4, hX]; exact Blk.new _ _ _
      have y0 : W4.cell? ⟨X, 0, none⟩ = some (.slice (some ⟨L.g, L.o, none⟩) L.ps.length L.cap) := B4.cell 0
      have y0' : (W3.alloc (.cells (lineC L) 143)).cell? ⟨W3.heap.size, 0, none⟩ = some (.slice (some ⟨L.g, L.o, none⟩) L.ps.length L.cap) := by rw [← hW4, ← hX]; exact y0
      clear y0
      have RP : RowP W4 L := by
        have r0 := H.out.rows L HLM.out
        have b0 : Below w.heap.size w W4 := hJ3.out.bel.trans (O34.below (fun x hx => by cases hx) hJ3.out.bel.size)
        exact r0.only (Only.of_below b0 []) (by simp)
      have CL := hid (CloneP_at L W4 RP okL.some_ (HLEN.out L HLM.out))
      have HX := hid (⟨hX, O34, B4, okL⟩ : _ ∧ _ ∧ _ ∧ _)
      have HW4 := hid hW4
      clear RP O34 B4 okL hX
      go_wp2_with fail
      rw [show W3.alloc (.cells (lineC L) 143) = W4 from HW4.out.symm]
      refine CL.out.mono ?_
      rintro e w5 ⟨g, gc, rfl, c1, c2, c3⟩
      obtain ⟨L', hL'⟩ : ∃ L' : LineA, L' = { L with g := g, o := 0, cap := gc, born := c' } := ⟨_, rfl⟩
      have e6 : (lineC L).setIfInBounds 0 (.slice (some ⟨g, 0, none⟩) L.ps.length gc) = lineC L' := by
        rw [hL']; simp [lineC]
      have h5s := HX.out.2.1.size
      have hX4 : X < W4.heap.size := HX.out.2.2.1.lt
      have B5 : Blk w5 X 143 (lineC L) := (Only.of_below c3 []).blk HX.out.2.2.1 (by simp)
      have y5 : w5.cell? ⟨X, 0, none⟩ = some (.slice (some ⟨L.g, L.o, none⟩) L.ps.length L.cap) := B5.cell 0
      have y5f := B5.frozen 0
      obtain ⟨W6, hW6⟩ : ∃ W6, W6 = w5.setCell ⟨X, 0, none⟩ (.slice (some ⟨g, 0, none⟩) L.ps.length gc) := ⟨_, rfl⟩
      have B6 : Blk W6 X 143 (lineC L') := by rw [hW6, ← e6]; exact B5.set_ 0 _
      have O56 : Only [X] w5 W6 := by rw [hW6]; exact (Only.refl _ _).setCell (Or.inl (by simp)) _
      have O36 : Only [X] W3 W6 := (((HX.out.2.1.trans (Only.of_below c3 []) (fun y hy => by cases hy)).mono (fun y hy => by cases hy) : Only [X] W3 w5)).trans O56 (fun y hy => Or.inl hy)
      have hX3 : W3.heap.size ≤ X := by rw [HX.out.1]; exact Nat.le_refl _
      have hrX : r < X := by have := HR.out; have := hZ3.out; omega
      have hJ6 := hJ3.out.only O36 (by have := HR.out; simp; omega) (fun L1 h1 hm => by
        obtain ⟨cur, hb, _⟩ := hJ3.out.rows L1 h1
        have := hb.lt
        rw [List.mem_singleton.1 hm] at this; omega) (fun k hk => by rw [List.mem_singleton.1 hk]; have := HR.out; omega)
      have hno : ∀ L1 ∈ ls', L1.adr ≠ L.adr := fun L1 h1 e => by
        have hm : absL L1 ∈ met.map absL := by rw [← hJ3.out.ab]; exact List.mem_map.2 ⟨L1, h1, rfl⟩
        obtain ⟨L2, h2, e2⟩ := List.mem_map.1 hm
        obtain ⟨h3, h4⟩ := met_other hP.out HNS.out L2 h2
        have e3 : L2.adr = L1.adr := congrArg LP.adr e2
        exact h4 (adr_inj H.out.keys h3 HLM.out (e3.trans e))
      have n2' : (lineC L').size = N := by rw [← e6, Array.size_setIfInBounds]; exact n2
      have hld : (loadCellsFrom ⟨X, 0, none⟩ 0 N #[]).run Tryz.prog W6 = .ok (lineC L') W6 := loadCells_blk B6 n2'
      have hup : (Instr.mapUpdate 129 (.map (some mb)) (.int .u64 (L.adr : Int)) (.agg (lineC L'))).run Tryz.prog W6 = .ok () (W6.putObj mb (.map ((ls' ++ [L']).map lineE).toArray (c' + 1))) := by
        have hmp : W6.heap[mb]? = some (.map (ls'.map lineE).toArray c') := by rw [HR.out.2.1]; exact hJ6.map
        have := run_updU_new (P := Tryz.prog) W6 129 24 143 Tryz.underlying129 Tryz.underlying24 mb _ _ hmp (L.adr : Int) (.agg (lineC L')) (findU_none fun e he => by
          obtain ⟨L1, h1, rfl⟩ := List.mem_map.1 (by simpa using he)
          exact ⟨L1.adr, rfl, fun hc => hno L1 h1 (by omega)⟩)
        rw [this]
        congr 3
        rw [List.push_toArray, List.map_append, List.map_cons, List.map_nil]
        congr 2
        simp only [lineE, hL']
      obtain ⟨W7, hW7⟩ : ∃ W7, W7 = W6.putObj mb (.map ((ls' ++ [L']).map lineE).toArray (c' + 1)) := ⟨_, rfl⟩
      have O67 : Only [mb] W6 W7 := by rw [hW7]; exact Only.putObj (Only.refl _ _) (Or.inl (by simp)) _
      have hg4 : W4.heap.size ≤ g := c2
      have hJ7 : Hid (OwnI w (met ++ [L]) (ls' ++ [L']) (c' + 1) W7) := by
        have hgl' : L'.g = g := by rw [hL']
        refine ⟨?_, ?_, fun L1 h1 => ?_, ?_, fun L1 h1 => ?_, fun L1 h1 => ?_, ?_, hJ6.bel.trans (O67.below (fun k hk => by rw [List.mem_singleton.1 hk]; have := HR.out; omega) hJ6.bel.size)⟩
        · rw [hW7, HR.out.2.1]
          exact putObj_at (w := W6) hJ6.map
        · rw [List.map_append, List.map_append, hJ6.ab]
          simp [absL, hL']
        · rcases List.mem_append.1 h1 with h2 | h2
          · exact (hJ6.rows L1 h2).only O67 (fun hm => by have h3 := hJ6.lo L1 h2; rw [List.mem_singleton.1 hm] at h3; have := HR.out; omega)
          · rw [List.mem_singleton.1 h2]
            have r5 : RowP w5 L' := by rw [hL']; exact c1
            refine (r5.only O56 (fun hm => ?_)).only O67 (fun hm => ?_)
            · rw [hgl'] at hm
              have := List.mem_singleton.1 hm
              omega
            · rw [hgl'] at hm
              have := List.mem_singleton.1 hm
              have := HR.out
              have := hJ3.out.bel.size
              omega
        · rw [List.pairwise_append]
          refine ⟨hJ6.born, List.pairwise_singleton _ _, fun L1 h1 L2 h2 => ?_⟩
          rw [List.mem_singleton.1 h2, hL']
          have := hJ6.old L1 h1
          show L1.born ≠ c'
          omega
        · rcases List.mem_append.1 h1 with h2 | h2
          · have := hJ6.old L1 h2; omega
          · rw [List.mem_singleton.1 h2, hL']; show c' < c' + 1; omega
        · rcases List.mem_append.1 h1 with h2 | h2
          · exact hJ6.lo L1 h2
          · rw [List.mem_singleton.1 h2, hgl']
            have := HR.out
            omega
        · rw [List.map_append, List.nodup_append]
          refine ⟨hJ6.gs, by simp, fun k hk k' hk' => ?_⟩
          obtain ⟨L1, h1, rfl⟩ := List.mem_map.1 hk
          simp at hk'
          rw [hk', hgl']
          obtain ⟨cur, hb, _⟩ := hJ3.out.rows L1 h1
          have := hb.lt
          omega
      have hI7 : Hid (W7.heap[r]? = some (.mapIter (some B.lb) ck (seen.push L.born) ck)) := by
        have a1 := O36.block r (Array.getElem?_eq_some_iff.1 hI3.out).1 (by simp; omega)
        have a2 := O67.block r (by have := (Array.getElem?_eq_some_iff.1 hI3.out).1; have := O36.size; omega) (by have := HR.out; simp; omega)
        exact (a2.trans a1).trans hI3.out
      have hblb := FB.out B.lb (by simp [footM])
      have hK7 : Hid (W7.heap[B.lb]? = some (.map es ck)) := by
        have a1 := O36.block B.lb (Array.getElem?_eq_some_iff.1 hK3.out).1 (by have := HR.out; simp; omega)
        have a2 := O67.block B.lb (by have := (Array.getElem?_eq_some_iff.1 hK3.out).1; have := O36.size; omega) (by have := HR.out; simp; omega)
        exact (a2.trans a1).trans hK3.out
      have hP7 : Hid ((met ++ [L]).Perm (gotM (lineF M.lines) es.toList (seen.push L.born))) := by
        have h1 := hpush.out
        rw [lineF_of H.out.born HLM.out] at h1
        exact (hP.out.append_right [L]).trans h1.symm
      have hZ7 : Hid (W2.heap.size ≤ W7.heap.size) := Nat.le_trans hZ3.out (Nat.le_trans O36.size O67.size)
      have hW6' := hid hW6
      have hW7' := hid (show W7 = W6.putObj mb (.map (List.map lineE ls' ++ [lineE L']).toArray (c' + 1)) by rw [hW7, List.map_append]; rfl)
      have hXe := hid HX.out.1
      clear hJ6 hno e6 B5 B6 O56 O36 O67 hX3 hX4 hrX h5s hg4 c1 c2 c3 hW6 hW7 hblb hst hrun hent hL'
      rw [← hXe.out]
      go_upto_region 6 with fail
      rw [← hW6'.out]
      go_wp2
      rw [← hW7'.out]
      have HSH := hid hsh
      have hm7 : (leftOf es (W7.iterSeen r)).size < (leftOf es (wr.iterSeen r)).size := by
        have h1 : W7.iterSeen r = seen.push L.born := by unfold World.iterSeen; rw [hI7.out]
        have h2 : wr.iterSeen r = seen := by unfold World.iterSeen; rw [hit.out]
        rw [h1, h2]
        exact HSH.out.out
      clear HSH
      go_roundw
      · exact ⟨seen.push L.born, met ++ [L], ls' ++ [L'], c' + 1, hI7, hK7, hJ7, hP7, hZ7⟩
      · exact hm7

end Go.Proofs.YtbkaemajjaiklaaGreat

/- (*Mem).Copy: a memory laid anew: the same words, the same lines, all in new blocks. -/
namespace Go.Proofs.YtbkaemajjaiklaaGreat
open Go.RowKit
set_option linter.unusedVariables false
set_option linter.unusedSimpArgs false

/-- what holds at whatever world while a memory is copied: k: no later block lies below; Q: what has been made so far -/
structure CpS (k : Nat) (w : World) (m : Nat) (B : MB) (M : MemS) (Q : World → Prop) (X : World) : Prop where
  mem : MemIs X m B M
  bel : Below w.heap.size w X
  up : k ≤ X.heap.size
  q : Q X
  st : ∀ Y Y', Q Y → Below Y.heap.size Y Y' → Q Y'
theorem below_drew (X : World) : Below X.heap.size X X.drew := (Only.refl [] X).drew.below (fun _ h => by cases h) (Nat.le_refl _)
theorem CpS.step {k : Nat} {w : World} {m : Nat} {B : MB} {M : MemS} {Q R : World → Prop} {X X' : World} (h : CpS k w m B M Q X) (hb : Below X.heap.size X X') (hR : R X') (hs : ∀ Y Y', R Y → Below Y.heap.size Y Y' → R Y') :
    CpS X'.heap.size w m B M (fun Y => Q Y ∧ R Y) X' :=
  ⟨h.mem.only (Only.of_below hb []) (by simp), h.bel.trans (hb.mono h.bel.size), Nat.le_refl _, ⟨h.st X X' h.q hb, hR⟩, fun Y Y' hq hb => ⟨h.st Y Y' hq.1 hb, hs Y Y' hq.2 hb⟩⟩
theorem CpS.dr {k : Nat} {w : World} {m : Nat} {B : MB} {M : MemS} {Q : World → Prop} {X : World} (h : CpS k w m B M Q X) : CpS k w m B M Q X.drew :=
  ⟨h.mem.only ((Only.refl [] X).drew) (by simp), h.bel.trans ((below_drew X).mono h.bel.size), h.up, h.st _ _ h.q (below_drew X), h.st⟩
theorem CpS.al {k : Nat} {w : World} {m : Nat} {B : MB} {M : MemS} {Q : World → Prop} {X : World} (h : CpS k w m B M Q X) (o : Obj) : CpS k w m B M Q (X.alloc o) :=
  have hb : Below X.heap.size X (X.alloc o) := ba (Below.refl _ _) _
  ⟨h.mem.only (Only.of_below hb []) (by simp), h.bel.trans (hb.mono h.bel.size), Nat.le_trans h.up hb.size, h.st _ _ h.q hb, h.st⟩
theorem CpS.cells {k : Nat} {w : World} {m : Nat} {B : MB} {M : MemS} {Q : World → Prop} {X : World} (h : CpS k w m B M Q X) {n : Nat} (hn : n = M.view.length) :
    X.cell? ⟨m, 0, none⟩ = some (.slice (some ⟨B.vb, 0, none⟩) n B.vc) ∧ X.cell? ⟨m, 1, none⟩ = some (.slice (some ⟨B.ib, 0, none⟩) n B.ic) ∧ X.cell? ⟨m, 2, none⟩ = some (.map (some B.lb)) ∧
    X.cell? ⟨m, 3, none⟩ = some (.int .u64 M.st.a) ∧ X.cell? ⟨m, 4, none⟩ = some (.int .u64 M.st.b) ∧ X.cell? ⟨m, 5, none⟩ = some (.int .u64 M.st.c) ∧ X.cell? ⟨m, 6, none⟩ = some (.int .u64 M.st.d) := by
  subst hn
  exact ⟨h.mem.blk.cell 0, h.mem.blk.cell 1, h.mem.blk.cell 2, h.mem.blk.cell 3, h.mem.blk.cell 4, h.mem.blk.cell 5, h.mem.blk.cell 6⟩
/-- words in a block within bounds -/
structure WrdQ (lo hi g : Nat) (xs : List Int) (X : World) : Prop where
  at_ : WordsAt X g xs
  lo : lo ≤ g
  hi : g < hi
theorem WrdQ.st {lo hi g : Nat} {xs : List Int} (Y Y' : World) (h : WrdQ lo hi g xs Y) (hb : Below Y.heap.size Y Y') : WrdQ lo hi g xs Y' :=
  ⟨h.at_.only (Only.of_below hb []) (by simp), h.lo, h.hi⟩
/-- the lines laid anew within bounds -/
structure OwnQ (lo hi lb : Nat) (ls' : List LineA) (ck : Nat) (M : MemS) (X : World) : Prop where
  map : X.heap[lb]? = some (.map (ls'.map lineE).toArray ck)
  ab : (ls'.map absL).Perm (M.lines.map absL)
  rows : ∀ L ∈ ls', RowP X L
  born : ls'.Pairwise fun a b => a.born ≠ b.born
  old : ∀ L ∈ ls', L.born < ck
  gs : (lb :: ls'.map (·.g)).Nodup
  lo : ∀ x ∈ lb :: ls'.map (·.g), lo ≤ x ∧ x < hi
theorem OwnQ.st {lo hi lb : Nat} {ls' : List LineA} {ck : Nat} {M : MemS} (Y Y' : World) (h : OwnQ lo hi lb ls' ck M Y) (hb : Below Y.heap.size Y Y') : OwnQ lo hi lb ls' ck M Y' :=
  ⟨(hb.block _ (Array.getElem?_eq_some_iff.1 h.map).1).trans h.map, h.ab, fun L hL => (h.rows L hL).only (Only.of_below hb []) (by simp), h.born, h.old, h.gs, h.lo⟩

theorem copyW_z {k : Nat} {w : World} {m : Nat} {B : MB} {M : MemS} (b cap : Nat) (xs : List Int) (n : Nat) (hx : ∀ X, MemIs X m B M → WordsAt X b xs) (h0 : 0 < xs.length) (h1 : xs.length ≤ 131072) (hn : n = xs.length) (Q : World → Prop) (X : World) (h : CpS k w m B M Q X) :
    Calls Tryz.prog 78 #[.slice (some ⟨b, 0, none⟩) n cap] X fun e w' => ∃ g c k', e = .returned (.slice (some ⟨g, 0, none⟩) n c) ∧ k ≤ k' ∧ CpS k' w m B M (fun Y => Q Y ∧ WrdQ k k' g xs Y) w' := by
  subst hn
  refine (CloneW_at b cap xs X (hx X h.mem) h0 h1).mono ?_
  rintro e w' ⟨g, c, rfl, p1, p2, p3⟩
  have hlt := p1.lt
  exact ⟨g, c, w'.heap.size, rfl, Nat.le_trans h.up p3.size, h.step p3 ⟨p1, Nat.le_trans h.up p2, hlt⟩ WrdQ.st⟩
theorem copyO_z {k : Nat} {w : World} {m : Nat} {B : MB} {M : MemS} (hlen : ∀ L ∈ M.lines, L.ps.length ≤ 1000000000) (Q : World → Prop) (X : World) (h : CpS k w m B M Q X) :
    Calls Tryz.prog 79 #[.map (some B.lb)] X fun e w' => ∃ lb ls' ck k', e = .returned (.map (some lb)) ∧ k ≤ k' ∧ CpS k' w m B M (fun Y => Q Y ∧ OwnQ k k' lb ls' ck M Y) w' := by
  refine (own_z m B M hlen X h.mem).mono ?_
  rintro e w' ⟨rfl, met, ls', ck, ho, hp⟩
  have hlb := (Array.getElem?_eq_some_iff.1 ho.map).1
  refine ⟨X.heap.size, ls', ck, w'.heap.size, rfl, Nat.le_trans h.up ho.bel.size, h.step ho.bel ⟨ho.map, ?_, ho.rows, ho.born, ho.old, ?_, ?_⟩ OwnQ.st⟩
  · rw [ho.ab]; exact hp.map absL
  · refine List.nodup_cons.2 ⟨fun hm => ?_, ho.gs⟩
    obtain ⟨L, hL, e⟩ := List.mem_map.1 hm
    have := ho.lo L hL
    omega
  · intro x hx
    rcases List.mem_cons.1 hx with rfl | hx
    · exact ⟨h.up, hlb⟩
    · obtain ⟨L, hL, rfl⟩ := List.mem_map.1 hx
      have h1 := ho.lo L hL
      obtain ⟨cur, hb, _⟩ := ho.rows L hL
      have := hb.lt
      have := h.up
      exact ⟨by omega, by omega⟩

/-- what Copy gives -/
structure CopyR (w : World) (M : MemS) (m' : Nat) (B' : MB) (M' : MemS) (W : World) : Prop where
  mem : MemIs W m' B' M'
  view : M'.view = M.view
  image : M'.image = M.image
  ab : (M'.lines.map absL).Perm (M.lines.map absL)
  lo : ∀ x ∈ footM m' B' M', w.heap.size ≤ x
  bel : Below w.heap.size w W

theorem copy_fin {w X : World} {m : Nat} {B : MB} {M : MemS} {g1 c1 g2 c2 lb ck l1 h1 l2 h2 l3 h3 : Nat} {ls' : List LineA} (hm : MemIs X m B M) (hb : Below w.heap.size w X)
    (q1 : WrdQ l1 h1 g1 M.view X) (q2 : WrdQ l2 h2 g2 M.image X) (q3 : OwnQ l3 h3 lb ls' ck M X) (a1 : w.heap.size ≤ l1) (a2 : w.heap.size ≤ l2) (a3 : w.heap.size ≤ l3)
    (d12 : h1 ≤ l2 ∨ h2 ≤ l1) (d13 : h1 ≤ l3 ∨ h3 ≤ l1) (d23 : h2 ≤ l3 ∨ h3 ≤ l2) :
    CopyR w M X.heap.size ⟨g1, c1, g2, c2, lb⟩ ⟨M.view, M.image, ls', ck, M.st⟩ (X.alloc (.cells (memC ⟨g1, c1, g2, c2, lb⟩ M.view.length M.st) 133)) := by
  have hal : Below X.heap.size X (X.alloc (.cells (memC ⟨g1, c1, g2, c2, lb⟩ M.view.length M.st) 133)) := ba (Below.refl _ _) _
  have q1' := WrdQ.st _ _ q1 hal
  have q2' := WrdQ.st _ _ q2 hal
  have q3' := OwnQ.st _ _ q3 hal
  have e1 := q1.at_.lt
  have e2 := q2.at_.lt
  have e3 : ∀ x ∈ lb :: ls'.map (·.g), x < X.heap.size := by
    intro x hx
    rcases List.mem_cons.1 hx with rfl | hx
    · exact (Array.getElem?_eq_some_iff.1 q3.map).1
    · obtain ⟨L, hL, rfl⟩ := List.mem_map.1 hx
      obtain ⟨cur, hb, _⟩ := q3.rows L hL
      exact hb.lt
  have f1 := q1.lo
  have f1' := q1.hi
  have f2 := q2.lo
  have f2' := q2.hi
  have hbs := hb.size
  have src : ∀ L ∈ ls', ∃ L0 ∈ M.lines, absL L0 = absL L := fun L hL => by
    have := q3.ab.mem_iff.1 (List.mem_map.2 ⟨L, hL, rfl⟩)
    obtain ⟨L0, h0, e⟩ := List.mem_map.1 this
    exact ⟨L0, h0, e⟩
  refine ⟨⟨Blk.new _ _ _, hm.pos, hm.big, hm.len, q1'.at_, q2'.at_, q3'.map, q3'.rows, ?_, ?_, q3.born, q3.old, ?_⟩, rfl, rfl, q3.ab, ?_, hb.trans (hal.mono hbs)⟩
  · intro L hL
    obtain ⟨L0, h0, e⟩ := src L hL
    have ok := hm.ok L0 h0
    obtain ⟨ea, ep, ek⟩ : L0.adr = L.adr ∧ L0.ps = L.ps ∧ L0.ks = L.ks := by
      injection e with x1 x2 x3; exact ⟨x1, x2, x3⟩
    exact ⟨ea ▸ ok.adr, ep ▸ ok.some_, fun p hp => by rw [← ea]; exact ok.puts p (ep ▸ hp), ek ▸ ok.marks, fun x hx => by rw [← ep]; exact ok.most x (ek ▸ hx)⟩
  · have k1 : (M.lines.map absL).Pairwise (fun a b => a.adr ≠ b.adr) := List.pairwise_map.2 hm.keys
    have k2 := (q3.ab.symm.pairwise_iff (R := fun (a b : LP) => a.adr ≠ b.adr) (fun h => h.symm)).1 k1
    rw [List.pairwise_map] at k2
    exact k2
  · show (X.heap.size :: g1 :: g2 :: lb :: ls'.map (·.g)).Nodup
    refine List.nodup_cons.2 ⟨fun hx => ?_, List.nodup_cons.2 ⟨fun hx => ?_, List.nodup_cons.2 ⟨fun hx => ?_, q3.gs⟩⟩⟩
    · rcases List.mem_cons.1 hx with e | hx
      · omega
      · rcases List.mem_cons.1 hx with e | hx
        · omega
        · have := e3 _ hx; omega
    · rcases List.mem_cons.1 hx with e | hx
      · omega
      · have := q3.lo _ hx; omega
    · have := q3.lo _ hx; omega
  · intro x hx
    have hx' : x ∈ X.heap.size :: g1 :: g2 :: lb :: ls'.map (·.g) := hx
    rcases List.mem_cons.1 hx' with rfl | hx
    · exact hbs
    · rcases List.mem_cons.1 hx with rfl | hx
      · omega
      · rcases List.mem_cons.1 hx with rfl | hx
        · omega
        · have := q3.lo _ hx; omega

set_option maxRecDepth 100000 in
set_option maxHeartbeats 2000000 in
theorem Copy_z (m : Nat) (B : MB) (M : MemS) (hlen : ∀ L ∈ M.lines, L.ps.length ≤ 1000000000) (w : World) (h : MemIs w m B M) :
    Calls Tryz.prog 28 #[.pointer (some ⟨m, 0, none⟩)] w fun e w' => ∃ m' B' M', e = .returned (.pointer (some ⟨m', 0, none⟩)) ∧ CopyR w M m' B' M' w' := by
  have HT := hid (there_z m B M.view.length M.st h.pos w h.blk)
  obtain ⟨n, hn⟩ : ∃ n, n = M.view.length := ⟨_, rfl⟩
  have HM : Hid (CpS w.heap.size w m B M (fun _ => True) w) := ⟨h, Below.refl _ _, Nat.le_refl _, trivial, fun _ _ _ _ => trivial⟩
  have CV := hid (fun k Q X (hh : CpS k w m B M Q X) => copyW_z B.vb B.vc M.view n (fun X h => h.view) h.pos h.big hn Q X hh)
  have CI := hid (fun k Q X (hh : CpS k w m B M Q X) => copyW_z B.ib B.ic M.image n (fun X h => h.image) (by rw [h.len]; exact h.pos) (by rw [h.len]; exact h.big) (hn.trans h.len.symm) Q X hh)
  have CO := hid (fun k Q X (hh : CpS k w m B M Q X) => copyO_z hlen Q X hh)
  have HN := hid hn
  have H := hid h
  clear h hn hlen
  go_enter Tryz.func28, Tryz.ntmps28
  go_wp2_with fail
  refine HT.out.mono ?_
  rintro e w1 ⟨rfl, rfl⟩
  go_upto_region 3 with fail
  obtain ⟨y0, y1, y2, y3, y4, y5, y6⟩ := HM.out.cells HN.out
  go_region_held3 (fun w' => w'.cell? ⟨m, 0, none⟩ = some (.slice (some ⟨B.vb, 0, none⟩) n B.vc) ∧ w'.cell? ⟨m, 1, none⟩ = some (.slice (some ⟨B.ib, 0, none⟩) n B.ic) ∧ w'.cell? ⟨m, 2, none⟩ = some (.map (some B.lb)) ∧ w'.cell? ⟨m, 3, none⟩ = some (.int .u64 M.st.a) ∧ w'.cell? ⟨m, 4, none⟩ = some (.int .u64 M.st.b) ∧ w'.cell? ⟨m, 5, none⟩ = some (.int .u64 M.st.c) ∧ w'.cell? ⟨m, 6, none⟩ = some (.int .u64 M.st.d))
    (first | (with_reducible exact HM.out.cells HN.out) | (with_reducible exact HM.out.dr.cells HN.out) | (with_reducible exact HM.out.dr.dr.cells HN.out) | (with_reducible exact (HM.out.al _).cells HN.out) | (with_reducible exact (HM.out.dr.al _).cells HN.out) | (with_reducible exact (HM.out.al _).dr.cells HN.out) | (with_reducible exact (HM.out.dr.dr.al _).cells HN.out))
    (first
    | (go_at_call 79; refine (CO.out _ _ _ (by first | exact HM.out | exact HM.out.dr | exact HM.out.dr.dr)).mono ?_; rintro e w1 ⟨lb, ls', ck, k1, rfl, hk, hm⟩; have KO := hid hk; clear HM hk; have HM := hid hm; clear hm)
    | (go_at_call 78; refine (CV.out _ _ _ (by first | exact HM.out | exact HM.out.dr | exact HM.out.dr.dr)).mono ?_; rintro e w1 ⟨g1, c1, k1, rfl, hk, hm⟩; have KV := hid hk; clear HM hk; have HM := hid hm; clear hm)
    | (go_at_call 78; refine (CI.out _ _ _ (by first | exact HM.out | exact HM.out.dr | exact HM.out.dr.dr)).mono ?_; rintro e w1 ⟨g2, c2, k1, rfl, hk, hm⟩; have KI := hid hk; clear HM hk; have HM := hid hm; clear hm))
  all_goals
    go_wp2
    go_ret
    obtain ⟨⟨⟨_, qa⟩, qb⟩, qc⟩ := HM.out.q
    have ko := KO.out
    have kv := KV.out
    have ki := KI.out
    have hf := copy_fin (c1 := c1) (c2 := c2) (g1 := g1) (g2 := g2) (lb := lb) HM.out.mem HM.out.bel (by assumption) (by assumption) (by assumption) (by omega) (by omega) (by omega) (by omega) (by omega) (by omega)
    rw [← HN.out] at hf
    exact ⟨_, _, _, rfl, hf⟩

end Go.Proofs.YtbkaemajjaiklaaGreat

/- The document's Fits: an image's blocks may be the world's. -/
namespace Go.Proofs.YtbkaemajjaiklaaGreat
open Go.RowKit
set_option linter.unusedVariables false
set_option linter.unusedSimpArgs false

theorem WorldIs.rowF {w : World} {N g : Nat} {size : Int} {cs : List Int} {ls : List (Int × Int)} {vC vL : Value} (h : WorldIs w N g size cs ls vC vL) :
    ∃ bo cap, vL = .slice bo ls.length cap ∧ ∀ i x, ls[i]? = some x → ∃ b, bo = some ⟨b, 0, none⟩ ∧ w.cell? ⟨b, i * 2, none⟩ = some (.int .u64 x.1) ∧ w.cell? ⟨b, i * 2 + 1, none⟩ = some (.int .i64 x.2) := by
  rcases h.blkAt with ⟨rfl, rfl⟩ | ⟨b, cap, rfl, hat⟩
  · exact ⟨none, 0, rfl, fun i x hx => by cases hx⟩
  · exact ⟨some ⟨b, 0, none⟩, cap, rfl, fun i x hx => ⟨b, rfl, hat i x hx⟩⟩
theorem belNF (w : World) (n : Nat) : Below w.heap.size w (w.drewN n) := ⟨rfl, rfl, rfl, Nat.le_refl _, fun _ _ => rfl⟩
/-- what is asked of an image -/
structure FitP (n : Nat) (cs : List Int) (ls : List (Int × Int)) (bs : List Int) : Prop where
  len : bs.length = 1024 * (n + 1)
  ok : ∀ i, 1 ≤ i → i ≤ n → headOK bs i = true
  one : ∀ p ∈ refL bs n, isGet ls p.1 = 2 ∨ isGet ls p.1 = 3 ∨ isGet ls p.1 = 4
  two : ∀ p ∈ ls, p.2 = 2 → isGet (refL bs n) p.1 = 2
  cls : ∀ i, i < n → (refC bs n).getD i 0 = 0 ∨ (refC bs n).getD i 0 = cs.getD i 0

set_option maxRecDepth 100000 in
set_option maxHeartbeats 2000000 in
theorem Fits_r (N g n : Nat) (cs : List Int) (ls : List (Int × Int)) (vC vL : Value) (p : Option Addr) (cap : Nat) (bs : List Int) (w : World) (hn : 1 ≤ n ∧ n ≤ 64) (hw : WorldIs w N g (bs.length : Int) cs ls vC vL) (hcs : cs.length = n) (hl : ls.length ≤ 100000) (hb : BytesIn w p cap bs) (hf : FitP n cs ls bs) :
    Calls Tryz.prog 30 #[.pointer (some ⟨g, 0, none⟩), .slice p bs.length cap] w fun e w' => e = .returned (.bool true) ∧ Below w.heap.size w w' := by
  obtain ⟨gc, gcc, hvC, hgC⟩ : ∃ b cap, vC = .slice (some ⟨b, 0, none⟩) n cap ∧ ∀ i c, cs[i]? = some c → w.cell? ⟨b, i, none⟩ = some (.int .i64 c) := by
    rcases hw.clsAt' with ⟨h1, h2⟩ | h1
    · exfalso; rw [h2] at hcs; simp at hcs; omega
    · rw [hcs] at h1; exact h1
  subst hvC
  have RO := hid (ROf_r p cap bs n hn hf.len w hb)
  obtain ⟨L, hL⟩ : ∃ L, L = bs.length := ⟨_, rfl⟩
  rw [← hL] at RO hw ⊢
  have HW := hid (⟨hw, hcs, hl, hf, hn⟩ : _ ∧ _ ∧ _ ∧ _ ∧ _)
  clear hw hcs hl hb hf hn hL
  go_enter Tryz.func30, Tryz.ntmps30
  go_wp2_with fail
  refine RO.out.mono ?_
  rintro e w1 hq
  obtain ⟨o, oC, oL, rfl, ho⟩ := hq.yes HW.out.2.2.2.1.ok
  have hw1 := HW.out.1.bel hq.bel
  have HB := hid hq.bel
  have a0 : w1.cell? ⟨o, 0, none⟩ = some (.int .i64 (L : Int)) := ho.blk.cell 0
  have b0 : w1.cell? ⟨g, 0, none⟩ = some (.int .i64 (L : Int)) := hw1.blk.cell 0
  have e0 : ((L : Int) != (L : Int)) = false := by simp
  obtain ⟨lo, lc, rfl, hoL⟩ := ho.rowF
  obtain ⟨wo, wc, rfl, hwL⟩ := hw1.rowF
  obtain ⟨ol, hol⟩ : ∃ ol, ol = (refL bs n).length := ⟨_, rfl⟩
  obtain ⟨wl, hwl⟩ : ∃ wl, wl = ls.length := ⟨_, rfl⟩
  have a2 : w1.cell? ⟨o, 2, none⟩ = some (.slice lo ol lc) := by rw [hol]; exact ho.blk.cell 2
  have b2 : w1.cell? ⟨g, 2, none⟩ = some (.slice wo wl wc) := by rw [hwl]; exact hw1.blk.cell 2
  have hrl := refL_len bs n
  have olb : ol ≤ 100000 := by rw [hol]; have := HW.out.2.2.2.2; omega
  have wlb : wl ≤ 100000 := by rw [hwl]; exact HW.out.2.2.1
  have H1 := hid (⟨ho, hw1, hoL, hwL, hol, hwl⟩ : _ ∧ _ ∧ _ ∧ _ ∧ _ ∧ _)
  clear hq ho hw1 hoL hwL hol hwl hrl
  have hrc : (refC bs n).length = n := by unfold refC; simp
  obtain ⟨oc, occ, hoC, hoC2⟩ : ∃ b cap, oC = .slice (some ⟨b, 0, none⟩) n cap ∧ ∀ i c, (refC bs n)[i]? = some c → w1.cell? ⟨b, i, none⟩ = some (.int .i64 c) := by
    rcases H1.out.1.clsAt' with ⟨h1, h2⟩ | h1
    · exfalso; rw [h2] at hrc; have := HW.out.2.2.2.2; simp at hrc; omega
    · rw [hrc] at h1; exact h1
  subst hoC
  have a1 : w1.cell? ⟨o, 1, none⟩ = some (.slice (some ⟨oc, 0, none⟩) n occ) := H1.out.1.blk.cell 1
  have b1 : w1.cell? ⟨g, 1, none⟩ = some (.slice (some ⟨gc, 0, none⟩) n gcc) := H1.out.2.1.blk.cell 1
  have HC := hid (⟨hrc, hoC2, fun i c hi => (HB.out.cell (p := ⟨gc, i, none⟩) (World.block_lt_of_cell? w _ (hgC i c hi))).trans (hgC i c hi)⟩ : _ ∧ _ ∧ ∀ i c, cs[i]? = some c → w1.cell? ⟨gc, i, none⟩ = some (.int .i64 c))
  have lt := fun {a : Addr} {v : Value} (h : w1.cell? a = some v) => World.block_lt_of_cell? w1 _ h
  have KA := hid (fun (X : World) (hb : Below w1.heap.size w1 X) => (⟨(hb.cell (p := ⟨o, 2, none⟩) (lt a2)).trans a2, (hb.cell (p := ⟨g, 2, none⟩) (lt b2)).trans b2, (hb.cell (p := ⟨o, 1, none⟩) (lt a1)).trans a1, (hb.cell (p := ⟨g, 1, none⟩) (lt b1)).trans b1⟩ : X.cell? ⟨o, 2, none⟩ = some (.slice lo ol lc) ∧ X.cell? ⟨g, 2, none⟩ = some (.slice wo wl wc) ∧ X.cell? ⟨o, 1, none⟩ = some (.slice (some ⟨oc, 0, none⟩) n occ) ∧ X.cell? ⟨g, 1, none⟩ = some (.slice (some ⟨gc, 0, none⟩) n gcc)))
  have KL := hid (fun (X : World) (hb : Below w1.heap.size w1 X) (a : Addr) (v : Value) (h : w1.cell? ⟨a.block, a.off, none⟩ = some v) => (hb.cell (p := ⟨a.block, a.off, none⟩) (lt h)).trans h)
  have IW := hid (fun (X : World) (hb : Below w1.heap.size w1 X) a => WIs_r N g _ cs ls _ _ a X (H1.out.2.1.bel hb) (by have := HW.out.2.2.1; omega))
  have IO := hid (fun (X : World) (hb : Below w1.heap.size w1 X) a => WIs_r _ o _ _ _ _ _ a X (H1.out.1.bel hb) (by have := H1.out.2.2.2.2.1; omega))
  have nn : n ≤ 64 := HW.out.2.2.2.2.2
  clear hrc hoC2 hgC lt a1 b1
  go_upto_region 2 with fail
  go_quiet (fail)
  have HB2 : Hid (Below w1.heap.size w1 (w1.drewN nq)) := belNF w1 nq
  generalize w1.drewN nq = w2 at HB2 ⊢
  clear a0 b0 a2 b2 e0
  go_wp2
  go_loopw [7] (fun iv wr => ∃ k : Nat, k ≤ ol ∧ iv = .int .i64 k ∧ Hid (Below w1.heap.size w1 wr)) (fun iv _ => (ol - (intOf iv).toNat))
  case atStart => exact ⟨0, by omega, rfl, HB2⟩
  case round =>
    obtain ⟨k, hk, rfl, hI⟩ := hrel
    obtain ⟨a2, b2, a1, b1⟩ := KA.out wr hI.out
    by_cases hlt : k < ol
    · have i1 : (k : Int) < (ol : Int) := by omega
      have i0 : (0 : Int) ≤ (k : Int) := by omega
      obtain ⟨q, hq⟩ : ∃ q, (refL bs n)[k]? = some q := ⟨_, List.getElem?_eq_getElem (by rw [← H1.out.2.2.2.2.1]; exact hlt)⟩
      obtain ⟨b, rfl, c1, _⟩ := H1.out.2.2.1 k q hq
      have c1' : wr.cell? ⟨b, k * 2, none⟩ = some (.int .u64 q.1) := KL.out wr hI.out ⟨b, k * 2, none⟩ _ c1
      have HQ := hid (HW.out.2.2.2.1.one q (List.mem_of_getElem? hq))
      have CI := hid (IW.out wr hI.out q.1)
      obtain ⟨v, hv⟩ : ∃ v, v = isGet ls q.1 := ⟨_, rfl⟩
      rw [← hv] at CI HQ
      have HLT := hid hlt
      clear hq c1 hv hlt hk
      go_wp2_with fail
      refine CI.out.mono ?_
      rintro e w3 ⟨rfl, rfl⟩
      rcases HQ.out with h | h | h
      all_goals
        subst h
        clear HQ CI
        go_wp2
        go_roundw
        case rel => exact ⟨k + 1, HLT.out, by go_num, hI⟩
        case measure => simp [intOf]; have := HLT.out; omega
    · obtain rfl : k = ol := by omega
      have i1 : ¬ (k : Int) < (k : Int) := by omega
      clear hlt hk
      go_wp2
      go_loopw [9] (fun iv wr => ∃ k : Nat, k ≤ wl ∧ iv = .int .i64 k ∧ Hid (Below w1.heap.size w1 wr)) (fun iv _ => (wl - (intOf iv).toNat))
      case atStart => exact ⟨0, by omega, rfl, hI⟩
      case round =>
        obtain ⟨k2, hk2, rfl, hI2⟩ := hrel
        clear a2 b2 a1 b1
        obtain ⟨a2, b2, a1, b1⟩ := KA.out wr hI2.out
        by_cases hlt : k2 < wl
        · have j1 : (k2 : Int) < (wl : Int) := by omega
          have j0 : (0 : Int) ≤ (k2 : Int) := by omega
          obtain ⟨q, hq⟩ : ∃ q, ls[k2]? = some q := ⟨_, List.getElem?_eq_getElem (by rw [← H1.out.2.2.2.2.2]; exact hlt)⟩
          obtain ⟨b, rfl, c1, c2⟩ := H1.out.2.2.2.1 k2 q hq
          have c1' : wr.cell? ⟨b, k2 * 2, none⟩ = some (.int .u64 q.1) := KL.out wr hI2.out ⟨b, k2 * 2, none⟩ _ c1
          have c2' : wr.cell? ⟨b, k2 * 2 + 1, none⟩ = some (.int .i64 q.2) := KL.out wr hI2.out ⟨b, k2 * 2 + 1, none⟩ _ c2
          have CI := hid (IO.out wr hI2.out q.1)
          have HLT := hid hlt
          have HQ := hid (HW.out.2.2.2.1.two q (List.mem_of_getElem? hq))
          clear hq c1 c2 hlt hk2
          by_cases h2 : q.2 = 2
          · have e2 : (q.2 == 2) = true := by simp [h2]
            have HV := HQ.out h2
            rw [HV] at CI
            clear h2 HV HQ
            go_wp2_with fail
            refine CI.out.mono ?_
            rintro e w3 ⟨rfl, rfl⟩
            go_wp2
            go_roundw
            case rel => exact ⟨k2 + 1, HLT.out, by go_num, hI2⟩
            case measure => simp [intOf]; have := HLT.out; omega
          · have e2 : (q.2 == 2) = false := by simp [h2]
            clear h2 HQ CI
            go_wp2
            go_roundw
            case rel => exact ⟨k2 + 1, HLT.out, by go_num, hI2⟩
            case measure => simp [intOf]; have := HLT.out; omega
        · obtain rfl : k2 = wl := by omega
          have j1 : ¬ (k2 : Int) < (k2 : Int) := by omega
          clear hlt hk2
          go_wp2
          go_loopw [10] (fun iv wr => ∃ k : Nat, k ≤ n ∧ iv = .int .i64 k ∧ Hid (Below w1.heap.size w1 wr)) (fun iv _ => (n - (intOf iv).toNat))
          case atStart => exact ⟨0, by omega, rfl, hI2⟩
          case round =>
            obtain ⟨k3, hk3, rfl, hI3⟩ := hrel
            clear a2 b2 a1 b1
            obtain ⟨a2, b2, a1, b1⟩ := KA.out wr hI3.out
            by_cases hlt : k3 < n
            · have l1 : (k3 : Int) < (n : Int) := by omega
              have l0 : (0 : Int) ≤ (k3 : Int) := by omega
              obtain ⟨x, hx⟩ : ∃ x, (refC bs n)[k3]? = some x := ⟨_, List.getElem?_eq_getElem (by rw [HC.out.1]; exact hlt)⟩
              obtain ⟨y, hy⟩ : ∃ y, cs[k3]? = some y := ⟨_, List.getElem?_eq_getElem (by rw [HW.out.2.1]; exact hlt)⟩
              have c1 : wr.cell? ⟨oc, k3, none⟩ = some (.int .i64 x) := KL.out wr hI3.out ⟨oc, k3, none⟩ _ (HC.out.2.1 k3 x hx)
              have c2 : wr.cell? ⟨gc, k3, none⟩ = some (.int .i64 y) := KL.out wr hI3.out ⟨gc, k3, none⟩ _ (HC.out.2.2 k3 y hy)
              have hxy : x = 0 ∨ x = y := by
                have := HW.out.2.2.2.1.cls k3 hlt
                rw [List.getD_eq_getElem?_getD, List.getD_eq_getElem?_getD, hx, hy] at this
                exact this
              have HLT := hid hlt
              have HBD := hid (fun nq => (hI3.out.trans ((belNF wr nq).mono hI3.out.size) : Below w1.heap.size w1 (wr.drewN nq)))
              clear hx hy hlt hk3
              by_cases h0 : x = 0
              · have e0 : (x != 0) = false := by simp [h0]
                clear hxy h0
                go_upto_region 18 with fail
                go_quiet (fail)
                go_wp2
                go_roundw
                case rel => exact ⟨k3 + 1, HLT.out, by go_num, HBD.out _⟩
                case measure => simp [intOf]; have := HLT.out; omega
              · have e0 : (x != 0) = true := by simp [h0]
                obtain rfl : x = y := hxy.resolve_left h0
                have e1 : (x != x) = false := by simp
                clear hxy h0
                go_upto_region 18 with fail
                go_quiet (fail)
                go_wp2
                go_roundw
                case rel => exact ⟨k3 + 1, HLT.out, by go_num, HBD.out _⟩
                case measure => simp [intOf]; have := HLT.out; omega
            · obtain rfl : k3 = n := by omega
              have l1 : ¬ (k3 : Int) < (k3 : Int) := by omega
              clear hlt hk3
              go_wp2
              go_ret
              exact ⟨rfl, HB.out.trans (hI3.out.mono HB.out.size)⟩

end Go.Proofs.YtbkaemajjaiklaaGreat

/- An image of which some stores of each line have lasted fits. No program. -/
namespace Go.Proofs.YtbkaemajjaiklaaGreat
open Go.RowKit
set_option linter.unusedVariables false
set_option linter.unusedSimpArgs false

/-- an image of which k stores of each header's line have lasted -/
structure CutI (n : Nat) (m : MA) (im : List Int) : Prop where
  len : im.length = 128 * (1 + n)
  rng : ∀ x ∈ im, WordR x
  cut : ∀ i, 1 ≤ i → i ≤ n → ∃ k, k ≤ psN m i ∧ at0 im (128 * i) = clsW m i k ∧ at0 im (128 * i + 1) = bitW m i k
theorem CutI.words {n : Nat} {m : MA} {im : List Int} (h : CutI n m im) {i : Nat} (i1 : 1 ≤ i) (i2 : i ≤ n) : (clsAt (bytesW im) i : Int) = at0 im (128 * i) ∧ (bitAt (bytesW im) i : Int) = at0 im (128 * i + 1) := by
  have hl := h.len
  constructor
  · rw [← clsAt_w (bytesW_byte _), wAt_bytes h.rng (by omega)]
  · rw [← bitAt_w (bytesW_byte _), wAt_bytes h.rng (by omega)]
theorem CutI.fitS {n : Nat} {g : GA} {im : List Int} (h : CutI n g.ma im) (hl : Lst n g) {i : Nat} (i1 : 1 ≤ i) (i2 : i ≤ n) : FitS g.cs g.ls i (clsAt (bytesW im) i : Int) (bitAt (bytesW im) i : Int) := by
  obtain ⟨e1, e2⟩ := h.words i1 i2
  obtain ⟨k, hk, e3, e4⟩ := h.cut i i1 i2
  rw [e1, e2, e3, e4]
  exact hl.fit i i1 i2 k hk
theorem CutI.fits {n : Nat} {g : GA} {im : List Int} (h : CutI n g.ma im) (hl : Lst n g) (hp : GOk n g) : FitP n g.cs g.ls (bytesW im) := by
  have hok : ∀ i, 1 ≤ i → i ≤ n → headOK (bytesW im) i = true := fun i i1 i2 => (h.fitS hl i1 i2).head
  have hn6 := hp.n6
  have hal := ofTo_alike (bytesW im) n (by omega) hok n (Nat.le_refl _)
  refine ⟨by rw [bytesW_len, h.len]; omega, hok, fun p hp' => ?_, fun p hp' h2 => ?_, fun i hi => ?_⟩
  · obtain ⟨_, i, j, i1, i2, hj, hb, e⟩ := refL_mem.1 hp'
    rw [e]
    exact ((h.fitS hl i1 i2).bit rfl rfl hb).2
  · have hg : isGet g.ls p.1 = 2 := by
      have := hp.al.ul.get (a := p.1) (v := p.2) hp'
      rw [this, h2]
    obtain ⟨_, _, i0, j, c, q1, q2, q3, q4, q5, q6⟩ := hp.al.blk p hp'
    have hF := h.fitS hl (i := i0 + 1) (by omega) (by omega)
    obtain ⟨c0, b, e1, e2, h3, h4, h5, h6⟩ := hF.out
    have q5' : g.cs.getD (i0 + 1 - 1) 0 = (c : Int) := q5
    have q6' : p.1 = blockZ ((i0 + 1 : Nat) : Int) (c : Int) (j : Int) := q6
    have hbit := h6 c j q3 q4 q5' q2 (by rw [← q6']; exact hg)
    have hb0 : b ≠ 0 := fun e => by rw [e] at hbit; simp at hbit
    have hc : c0 = c := by
      rcases h4 with ⟨_, z⟩ | ⟨_, _, z⟩
      · exact absurd z hb0
      · exact getD_natC z q5'
    have eb : bitAt (bytesW im) (i0 + 1) = b := by omega
    have ec : clsAt (bytesW im) (i0 + 1) = c := by omega
    exact hal.ul.get (refL_mem.2 ⟨rfl, i0 + 1, j, by omega, by omega, bit_high h3 hbit, by rw [eb]; exact hbit, by rw [ec]; exact q6'⟩)
  · obtain ⟨c0, b, e1, e2, h3, h4, h5, h6⟩ := (h.fitS hl (i := i + 1) (by omega) (by omega)).out
    have hg := refC_get (bs := bytesW im) (n := n) (i := i + 1) (by omega) (by omega)
    rw [show i + 1 - 1 = i by omega] at hg
    rw [hg, e1]
    rcases h4 with ⟨z, _⟩ | ⟨_, _, z⟩
    · exact Or.inl (by rw [z]; rfl)
    · exact Or.inr z.symm
/-- what has lasted as it is -/
theorem CutI.now {n : Nat} {g : GA} (hp : GOk n g) (hr : Rng g.ma) : CutI n g.ma g.ma.image :=
  ⟨hp.ok.len.trans hp.vl, hr.im, fun i _ _ => ⟨0, Nat.zero_le _, (wordAt_zero _ _).symm, (wordAt_zero _ _).symm⟩⟩

end Go.Proofs.YtbkaemajjaiklaaGreat

/- A crash: what of the lines lasts, plainly; last as an eviction. -/
namespace Go.Proofs.YtbkaemajjaiklaaGreat
open Go.RowKit
set_option linter.unusedVariables false
set_option linter.unusedSimpArgs false

theorem CutTo.refl (n : Nat) (m : MA) : CutTo n m m (fun _ => 0) :=
  ⟨fun _ _ _ => Nat.zero_le _, fun _ _ _ => rfl, fun _ _ _ r => by rw [Nat.zero_add], fun _ _ _ r => by rw [Nat.zero_add], fun _ _ _ _ => rfl⟩
theorem CutTo.trans {n : Nat} {m m' m'' : MA} {K K' : Nat → Nat} (h : CutTo n m m' K) (h' : CutTo n m' m'' K') : CutTo n m m'' (fun i => K i + K' i) := by
  refine ⟨fun i a b => ?_, fun i a b => ?_, fun i a b r => ?_, fun i a b r => ?_, fun i a b d => ?_⟩
  · have := h.le i a b; have := h'.le i a b; have := h.ps i a b; omega
  · have := h.ps i a b; have := h'.ps i a b; omega
  · rw [h'.cl i a b, h.cl i a b, Nat.add_assoc]
  · rw [h'.bt i a b, h.bt i a b, Nat.add_assoc]
  · have := h.mkk i a b d; have := h'.mkk i a b d; omega
theorem CutTo.cutI {n : Nat} {m m' : MA} {K : Nat → Nat} (h : CutTo n m m' K) (hl : m'.image.length = 128 * (1 + n)) (hr : ∀ x ∈ m'.image, WordR x) : CutI n m m'.image :=
  ⟨hl, hr, fun i a b => ⟨K i, h.le i a b, by have := h.cl i a b 0; unfold clsW at this ⊢; rw [wordAt_zero] at this; exact this, by have := h.bt i a b 0; unfold bitW at this ⊢; rw [wordAt_zero] at this; exact this⟩⟩
/-- the same lines in another order -/
theorem lineOf_perm {m m' : MA} (hk : MAok m) (hk' : MAok m') (hp : m'.lines.Perm m.lines) (A : Nat) : lineOf m' A = lineOf m A := by
  rcases lineOf_or hk A with ⟨h, e⟩ | ⟨h, e⟩
  · have := lineOf_mem hk' (hp.mem_iff.2 h)
    rw [e] at this; exact this
  · rw [e, lineOf_none (fun l hl => h l (hp.mem_iff.1 hl))]
theorem CutTo.perm {n : Nat} {m m' : MA} (hk : MAok m) (hk' : MAok m') (hp : m'.lines.Perm m.lines) (hi : m'.image = m.image) : CutTo n m m' (fun _ => 0) := by
  have e := lineOf_perm hk hk' hp
  refine ⟨fun _ _ _ => Nat.zero_le _, fun i _ _ => ?_, fun i _ _ r => ?_, fun i _ _ r => ?_, fun i _ _ d => ?_⟩
  · unfold psN; rw [e]; rfl
  · unfold clsW wordAt; rw [e, hi, Nat.zero_add]
  · unfold bitW wordAt; rw [e, hi, Nat.zero_add]
  · unfold mkN; rw [e]; rfl

set_option maxRecDepth 100000 in
set_option maxHeartbeats 1000000 in
theorem Last_k (m : Nat) (B : MB) (M : MemS) (K k q : Nat) (hn : (q : Int) < 9223372036854775808) (w : World) (h : Mems w m B M K) (hK : K ≤ 1000000000) :
    Calls Tryz.prog 81 #[ptrV m, .int .u64 (8 * (k : Int) - 8 * (k : Int) % 64), .int .i64 (q : Int)] w fun e w' => (∃ x, e = .returned (.int .i64 x)) ∧ ∃ M', Mems w' m B M' K ∧ (Only [B.ib, B.lb] w w' ∧ (∀ y ∈ footM m B M', y ∈ footM m B M) ∧ M'.view.length = M.view.length) ∧ absM M' = evictA (absM M) k q := by
  have ea : ((8 * k - 8 * k % 64 : Nat) : Int) = 8 * (k : Int) - 8 * (k : Int) % 64 := by omega
  show Calls _ _ _ _ _
  rw [← ea]
  by_cases hl : ∃ L ∈ M.lines, L.adr = 8 * k - 8 * k % 64
  · obtain ⟨L, hL, ha⟩ := hl
    obtain ⟨pre, post, hM⟩ := List.append_of_mem hL
    have hne := others_ne hM h.is.keys
    rw [← ha]
    refine (last_some m B M q (min q L.ps.length) pre post L hM (Nat.le_trans (h.few L hL) hK) (by omega) rfl w h.is).mono fun e w' hp => ?_
    obtain ⟨rfl, h1, h2⟩ := hp
    refine ⟨⟨_, rfl⟩, _, ⟨h1, fun L' hL' => ?_, h.two⟩, ⟨h2, fun y hy => ?_, rfl⟩, ?_⟩
    · simp only [lastM, List.mem_append] at hL'
      rcases hL' with (h' | h') | h'
      · exact h.few L' (by rw [hM]; simp [h'])
      · split at h'
        · cases h'
        · rw [List.mem_singleton] at h'; subst h'
          exact cutL_few (h.few L hL)
      · exact h.few L' (by rw [hM]; simp [h'])
    · rw [mem_foot] at hy ⊢
      rcases hy with hy | hy | hy | hy | ⟨L', hL', rfl⟩
      · exact Or.inl hy
      · exact Or.inr (Or.inl hy)
      · exact Or.inr (Or.inr (Or.inl hy))
      · exact Or.inr (Or.inr (Or.inr (Or.inl hy)))
      · simp only [lastM, List.mem_append] at hL'
        rcases hL' with (h' | h') | h'
        · exact Or.inr (Or.inr (Or.inr (Or.inr ⟨L', by rw [hM]; simp [h'], rfl⟩)))
        · split at h'
          · cases h'
          · rw [List.mem_singleton] at h'; subst h'
            exact Or.inr (Or.inr (Or.inr (Or.inr ⟨L, hL, rfl⟩)))
        · exact Or.inr (Or.inr (Or.inr (Or.inr ⟨L', by rw [hM]; simp [h'], rfl⟩)))
    · have hadr : (absL L).adr = lineAt k := ha
      have hp1 : ∀ x ∈ pre.map absL, x.adr ≠ lineAt k := fun y hy => by
        obtain ⟨z, hz, rfl⟩ := List.mem_map.1 hy
        have := hne.1 z hz
        rw [ha] at this; exact this
      have hp2 : ∀ x ∈ post.map absL, x.adr ≠ lineAt k := fun y hy => by
        obtain ⟨z, hz, rfl⟩ := List.mem_map.1 hy
        have := hne.2 z hz
        rw [ha] at this; exact this
      unfold absM evictA lastM
      simp only [hM, List.map_append, List.map_cons, List.foldl_append, List.foldl_cons, List.flatMap_append, List.flatMap_cons]
      rw [foldl_skip (evictI k q) (pre.map absL) (fun x hx b => if_neg (hp1 x hx)), foldl_skip (evictI k q) (post.map absL) (fun x hx b => if_neg (hp2 x hx)),
        flatMap_one (evictL k q) (pre.map absL) (fun x hx => if_neg (hp1 x hx)), flatMap_one (evictL k q) (post.map absL) (fun x hx => if_neg (hp2 x hx))]
      rw [show evictI k q M.image (absL L) = applyPuts M.image (L.ps.take (min q L.ps.length)) from if_pos hadr, show evictL k q (absL L) = cutP (absL L) (min q L.ps.length) from if_pos hadr, ← cut_abs]
      simp only [List.append_assoc]
      rfl
  · refine (last_none m B M _ q (fun L hL hc => hl ⟨L, hL, hc⟩) (by omega) w h.is).mono fun e w' hp => ?_
    obtain ⟨rfl, h1, h2⟩ := hp
    refine ⟨⟨_, rfl⟩, M, ⟨h1, h.few, h.two⟩, ⟨h2.mono (fun y hy => by simp at hy ⊢; exact Or.inr hy), fun y hy => hy, rfl⟩, ?_⟩
    · have hp1 : ∀ x ∈ M.lines.map absL, x.adr ≠ lineAt k := fun y hy => by
        obtain ⟨z, hz, rfl⟩ := List.mem_map.1 hy
        exact fun hc => hl ⟨z, hz, hc⟩
      unfold absM evictA
      simp only []
      rw [foldl_skip (evictI k q) (M.lines.map absL) (fun x hx b => if_neg (hp1 x hx)), flatMap_one (evictL k q) (M.lines.map absL) (fun x hx => if_neg (hp1 x hx))]

theorem Last_e (m : Nat) (B : MB) (M : MemS) (K A q : Nat) (hA : A % 64 = 0) (hn : (q : Int) < 9223372036854775808) (w : World) (h : Mems w m B M K) (hK : K ≤ 1000000000) :
    Calls Tryz.prog 81 #[ptrV m, .int .u64 (A : Int), .int .i64 (q : Int)] w fun e w' => (∃ x, e = .returned (.int .i64 x)) ∧ ∃ M', Mems w' m B M' K ∧ (Only [B.ib, B.lb] w w' ∧ (∀ y ∈ footM m B M', y ∈ footM m B M) ∧ M'.view.length = M.view.length) ∧ absM M' = evictA (absM M) (A / 8) q := by
  have := Last_k m B M K (A / 8) q hn w h hK
  rw [show (8 * ((A / 8 : Nat) : Int) - 8 * ((A / 8 : Nat) : Int) % 64) = (A : Int) by omega] at this
  exact this

end Go.Proofs.YtbkaemajjaiklaaGreat

/- slices.All at addresses, in the fence. -/
namespace Go.Proofs.YtbkaemajjaiklaaGreat
open Go.RowKit
set_option linter.unusedVariables false
set_option linter.unusedSimpArgs false

attribute [local go_sem] Oper.semAt_some

set_option maxRecDepth 100000 in
set_option maxHeartbeats 2000000 in
theorem All1_in (n q g cap : Nat) (p : Option Addr) (f : Nat → Nat) (F : List Nat) (N0 l Bs : Nat) (J Jx : List (Fin q) → World → Prop) (W : World) (hq : q ≤ 1000000) (hp : 0 < q → p = some ⟨g, 0, none⟩)
    (hrow : ∀ i, i < q → W.cell? ⟨g, i, none⟩ = some (.int .u64 (f i : Nat)))
    (hJ : AbidesFrom W.heap.size J) (hBs : Bs < N0) (hg : g < N0) (hBs' : Bs ∉ F) (hg' : g ∉ F) (hN : N0 ≤ W.heap.size)
    (hY : ∀ pre (x : Fin q) W1, J pre W1 → pre.length < q → YieldAt Fence.wide (n - 1) Tryz.prog l #[.int .i64 (x.val : Int), .int .u64 (f x.val : Nat)] W1 fun e W' =>
      (e = .returned (.bool true) ∧ J (pre ++ [x]) W' ∧ KeepN F N0 W1 W') ∨ (e = .returned (.bool false) ∧ Jx (pre ++ [x]) W'))
    (hs : W.cell? ⟨Bs, 0, none⟩ = some (.slice p q cap)) (h0 : J [] W) :
    CallsIn Fence.wide n Tryz.prog 129 #[.func (.yield l) #[] #[], .pointer (some ⟨Bs, 0, none⟩)] W fun e W' => (∃ v, e = .returned v) ∧
      ((∃ ys, True ∧ J ys W') ∨ (∃ pre, True ∧ Jx pre W')) := by
  refine callsIn_of_wp Tryz.func129 rfl trivial ?_ rfl
  simp only [Tryz.ntmps129, List.size_toArray, List.length_cons, List.length_nil, Nat.reduceAdd, Nat.reduceSub, Array.replicate_succ, Array.replicate_zero, List.push_toArray, List.append_toArray, List.nil_append, List.cons_append]
  have HROW := hid hrow
  have HY := hid hY
  have HB := hid (⟨hBs, hg, hBs', hg', hN⟩ : _ ∧ _ ∧ _ ∧ _ ∧ _)
  clear hrow hY hBs hg hBs' hg' hN
  gi_wp2_with fail
  clear hs
  gi_loopw [7] (fun iv wr => ∃ k : Nat, k ≤ q ∧ iv = .int .i64 (k : Nat) ∧ ∃ pre : List (Fin q), pre.length = k ∧ Hid (J pre wr) ∧ Hid (KeepN F N0 W wr)) (fun iv _ => (q - (intOf iv).toNat))
  case atStart => exact ⟨0, by omega, rfl, [], rfl, h0, KeepN.refl _ _ _⟩
  case round =>
    obtain ⟨i, hi, rfl, pre, hpl, hJi, hK⟩ := hrel
    by_cases hlt : i < q
    · have i2 : decide ((i : Int) < (q : Int)) = true := decide_eq_true (by omega)
      have i2' : (i : Int) < (q : Int) := by omega
      have i1 : (0 : Int) ≤ (i : Int) := by omega
      have i3 : IntKind.i64.wrap ((i : Int) + 1) = (i : Int) + 1 := IntWalk.i64_in _ (by omega)
      obtain rfl := hp (by omega)
      have x1 : wr.cell? ⟨g, 0 + i, none⟩ = some (.int .u64 (f i : Nat)) := by
        rw [Nat.zero_add]
        exact (hK.out.cell (p := ⟨g, i, none⟩) HB.out.2.1 HB.out.2.2.2.1).trans (HROW.out i hlt)
      have x1' : wr.cell? ⟨g, i, none⟩ = some (.int .u64 (f i : Nat)) := by rw [Nat.zero_add] at x1; exact x1
      obtain ⟨fn, tmps, assign, body, hy, hR⟩ := HY.out pre (⟨i, hlt⟩ : Fin q) wr hJi.out (by omega)
      have HR := hid hR
      have hy' : (Instr.yield l #[.int .i64 (i : Int), .int .u64 (f i : Nat)]).run Tryz.prog wr = .ok (.round l fn tmps assign body) wr := hy
      clear hR hy
      gi_wp2
      refine ⟨fun h => by simp [Fence.wide] at h, HR.out.mono ?_⟩
      rintro e' W5 (⟨rfl, hJ5, hk5⟩ | ⟨rfl, hJx5⟩)
      · have hK5 := hid (hK.out.trans hk5)
        have HJ5 := hid hJ5
        clear hJ5 hk5 hy' x1 x1'
        gi_wp2
        go_roundw
        case rel => exact ⟨i + 1, by omega, by go_num, pre ++ [⟨i, hlt⟩], by simp [hpl], HJ5, hK5⟩
        case measure => simp [intOf]; omega
      · have HJx := hid hJx5
        clear hJx5 hy' x1 x1'
        gi_wp2
        refine bodyPost_ret (results_none rfl _ _ _) rfl ?_
        exact ⟨⟨_, rfl⟩, .inr ⟨_, trivial, HJx.out⟩⟩
    · obtain rfl : i = q := by omega
      have i2 : decide ((i : Int) < (i : Int)) = false := decide_eq_false (by omega)
      gi_wp2
      go_end0
      exact ⟨⟨_, rfl⟩, .inl ⟨pre, trivial, hJi.out⟩⟩

theorem All_stops (n q g cap : Nat) (p : Option Addr) (f : Nat → Nat) (F : List Nat) (N0 Bs : Nat) (w : World) (hq : q ≤ 1000000) (hp : 0 < q → p = some ⟨g, 0, none⟩)
    (hrow : ∀ i, i < q → w.cell? ⟨g, i, none⟩ = some (.int .u64 (f i : Nat))) (hBs : Bs < N0) (hg : g < N0) (hBs' : Bs ∉ F) (hg' : g ∉ F) (hN : N0 ≤ w.heap.size)
    (hs : w.cell? ⟨Bs, 0, none⟩ = some (.slice p q cap)) :
    SeqStopsK Fence.wide n Tryz.prog 129 #[.pointer (some ⟨Bs, 0, none⟩)] (fun x : Fin q => #[.int .i64 (x.val : Int), .int .u64 (f x.val : Nat)]) (KeepN F N0) (fun _ => True) (fun _ => True) q w := by
  intro l J Jx W hW hJ _ hY h0
  have h1 := (hW.cell (p := ⟨Bs, 0, none⟩) (World.block_lt_of_cell? w _ hs)).trans hs
  exact All1_in n q g cap p f F N0 l Bs J Jx W hq hp (fun i hi => (hW.cell (p := ⟨g, i, none⟩) (World.block_lt_of_cell? w _ (hrow i hi))).trans (hrow i hi)) hJ hBs hg hBs' hg' (Nat.le_trans hN hW.size) hY h1 h0

end Go.Proofs.YtbkaemajjaiklaaGreat

/- The lines' addresses gone over: maps.Keys at the lines. -/
namespace Go.Proofs.YtbkaemajjaiklaaGreat
open Go.RowKit Go.Shelf
set_option linter.unusedVariables false
set_option linter.unusedSimpArgs false

attribute [local go_sem] Oper.semAt_some

/-- an entry's address -/
def adrF (e : MapEntry) : Option Int :=
  match e.key with
  | .int .u64 a => some a
  | _ => none
theorem adrF_line (L : LineA) : adrF (lineE L) = some (L.adr : Int) := rfl
theorem adrF_all (ls : List LineA) : (ls.map lineE).filterMap adrF = ls.map fun L => (L.adr : Int) := by
  induction ls with
  | nil => rfl
  | cons L ls ih => rw [List.map_cons, List.filterMap_cons, adrF_line, ih]; rfl

set_option maxRecDepth 100000 in
set_option maxHeartbeats 2000000 in
theorem Keys1_in (n : Nat) (F : List Nat) (N0 l Bm lb ck : Nat) (ls : List LineA) (J Jx : List Int → World → Prop) (W : World) (hmp : W.heap[lb]? = some (.map (ls.map lineE).toArray ck))
    (hbn : ls.Pairwise fun a b => a.born ≠ b.born) (hold : ∀ L ∈ ls, L.born < ck)
    (hJ : AbidesFrom W.heap.size J) (hlb : lb < N0) (hlb' : lb ∉ F) (hN : N0 ≤ W.heap.size)
    (hY : ∀ pre (x : Int) W1, J pre W1 → pre.length < ls.length → YieldAt Fence.wide (n - 1) Tryz.prog l #[.int .u64 x] W1 fun e W' =>
      (e = .returned (.bool true) ∧ J (pre ++ [x]) W' ∧ KeepM F N0 W1 W') ∨ (e = .returned (.bool false) ∧ Jx (pre ++ [x]) W'))
    (hst : W.cell? ⟨Bm, 0, none⟩ = some (.map (some lb))) (h0 : J [] W) :
    CallsIn Fence.wide n Tryz.prog 131 #[.func (.yield l) #[] #[], .pointer (some ⟨Bm, 0, none⟩)] W fun e W' => (∃ v, e = .returned v) ∧
      ((∃ ys, ys.Perm (ls.map fun L => (L.adr : Int)) ∧ J ys W') ∨ (∃ pre, True ∧ Jx pre W')) := by
  refine callsIn_of_wp Tryz.func131 rfl trivial ?_ rfl
  simp only [Tryz.ntmps131, List.size_toArray, List.length_cons, List.length_nil, Nat.reduceAdd, Nat.reduceSub, Array.replicate_succ, Array.replicate_zero, List.push_toArray, List.append_toArray, List.nil_append, List.cons_append]
  obtain ⟨es, hes⟩ : ∃ es, es = (ls.map lineE).toArray := ⟨_, rfl⟩
  rw [← hes] at hmp
  have hrg := run_range_map (P := Tryz.prog) W 129 24 143 lb es ck Tryz.underlying129 hmp
  have HJ := hid hJ
  have HY := hid hY
  have H0 := hid h0
  have HMP := hid hmp
  have HES := hid hes
  have OLD : Hid (∀ x ∈ es.toList, x.born < ck) := fun x hx => by
    rw [hes] at hx
    simp only [List.mem_map] at hx
    obtain ⟨L, hL, rfl⟩ := hx
    exact hold L hL
  have ND : Hid ((es.toList.map (·.born)).Nodup) := by
    show (es.toList.map (·.born)).Nodup
    rw [hes]
    show ((ls.map lineE).map (·.born)).Nodup
    rw [List.map_map]
    exact List.pairwise_map.2 hbn
  have HB := hid (show lb < N0 ∧ lb ∉ F ∧ N0 ≤ W.heap.size from ⟨hlb, hlb', hN⟩)
  clear hJ hY h0 hmp hlb hlb' hN hes hbn hold
  gi_wp2
  obtain ⟨r, hr⟩ : ∃ r, r = W.heap.size := ⟨_, rfl⟩
  obtain ⟨W2, hW2⟩ : ∃ W2, W2 = W.alloc (.mapIter (some lb) ck #[] ck) := ⟨_, rfl⟩
  have hB1 : Below W.heap.size W W2 := by rw [hW2]; exact ba (Below.refl _ _) _
  have I2 : Hid (W2.heap[r]? = some (.mapIter (some lb) ck #[] ck)) := by rw [hW2, hr]; exact heap_alloc_new _ _
  have M2 : Hid (W2.heap[lb]? = some (.map es ck)) := (hB1.block _ (by have := HB.out; omega)).trans HMP.out
  have K2 : Hid (KeepN F N0 W W2) := ⟨hB1.size, fun x hx _ => hB1.block x (by have := HB.out; omega)⟩
  have J2 : Hid (J [] W2) := HJ.out _ _ _ none H0.out (grownBel hB1) (fun r e => by cases e)
  have HR := hid hr
  rw [← hr, ← hW2]
  clear hW2 hr hB1 hst hrg
  gi_loopw [3] (fun _ wr => ∃ (seen : Array Nat) (pre : List Int), Hid (wr.heap[r]? = some (.mapIter (some lb) ck seen ck)) ∧ Hid (wr.heap[lb]? = some (.map es ck)) ∧ Hid (J pre wr) ∧ Hid (pre.Perm (gotM adrF es.toList seen)) ∧ Hid (KeepN F N0 W wr)) (fun _ wr => (leftOf es (wr.iterSeen r)).size)
  case atStart => exact ⟨#[], [], I2, M2, J2, (by rw [gotM_none] : ([] : List Int).Perm (gotM adrF es.toList #[])), K2⟩
  case round =>
    obtain ⟨seen, pre, hI, hM, hJp, hP, hK⟩ := hrel
    rcases run_next_at (P := Tryz.prog) wr 0 r lb ck ck seen es ck hI.out hM.out OLD.out (Nat.le_refl _) with ⟨h0, hrun⟩ | ⟨e, he, w1, hw1, hrun⟩
    · have hall := hid (gotM_all adrF es seen h0)
      clear h0
      gi_wp2
      go_end0
      refine ⟨⟨_, rfl⟩, .inl ⟨pre, ?_, hJp.out⟩⟩
      have hp := hP.out
      rw [hall.out, HES.out] at hp
      rw [← adrF_all]
      exact hp
    · obtain ⟨L, hL, rfl⟩ : ∃ L ∈ ls, e = lineE L := by
        have := (mem_left he).1
        rw [HES.out] at this
        simp only [List.mem_map] at this
        obtain ⟨L, hL, rfl⟩ := this
        exact ⟨L, hL, rfl⟩
      have hsh := hid (left_shrinks es seen (lineE L) he)
      have hit := hid hI.out
      obtain ⟨W3, hW3⟩ : ∃ W3, W3 = w1.putObj r (.mapIter (some lb) ck (seen.push (lineE L).born) ck) := ⟨_, rfl⟩
      replace hrun : (Instr.next (.pointer (some ⟨r, 0, none⟩)) false 0).run Tryz.prog wr = .ok (.tuple #[.bool true, (lineE L).key, (lineE L).val]) W3 := by rw [hW3]; exact hrun
      have hon1 : Only [r] wr w1 := by rcases hw1 with rfl | rfl; exact Only.refl _ _; exact (Only.refl _ _).drew
      have hon : Only [r] wr W3 := by rw [hW3]; exact Only.putObj hon1 (Or.inl (by simp)) _
      have hI3 : Hid (W3.heap[r]? = some (.mapIter (some lb) ck (seen.push L.born) ck)) := by
        rw [hW3]
        exact putObj_at (w := w1) (o := .mapIter (some lb) ck seen ck) (by rcases hw1 with rfl | rfl <;> exact hI.out)
      have hM3 : Hid (W3.heap[lb]? = some (.map es ck)) := (hon.block _ (Array.getElem?_eq_some_iff.1 hM.out).1 (by have := HB.out; have := HR.out; simp; omega)).trans hM.out
      have hgr : wr.grownBy W3 (some r) := ⟨hon.os, hon.tape, hon.output, hon.size, fun x hx hn => hon.block x hx (by simpa using fun h => hn (by rw [h]))⟩
      have hJ3 : Hid (J pre W3) := HJ.out _ _ _ (some r) hJp.out hgr (fun r' e => by cases e; exact ⟨by rw [HR.out]; exact Nat.le_refl _, _, hI.out, rfl⟩)
      have hK3 : Hid (KeepN F N0 W W3) := hK.out.trans ⟨hon.size, fun x hx _ => by
        by_cases hxl : x < wr.heap.size
        · exact hon.block x hxl (by have := HB.out; have := HR.out; simp; omega)
        · exfalso; have := hK.out.size; have := HB.out; omega⟩
      have hent := run_entry_at (P := Tryz.prog) W3 r lb ck seen es ck (lineE L) hI3.out hM3.out (mem_left he).1 ND.out
      have hpush := hid (gotM_push adrF ND.out (mem_left he).1 (mem_left he).2)
      have hlt := gotM_lt adrF ND.out (mem_left he).1 (mem_left he).2 (by rw [adrF_line]; rfl)
      have hlen : es.toList.length = ls.length := by rw [HES.out]; simp
      rw [hlen] at hlt
      simp only [lineE] at hrun hent
      have hP3 : Hid ((pre ++ [(L.adr : Int)]).Perm (gotM adrF es.toList (seen.push L.born))) := ((hP.out.append_right [(L.adr : Int)])).trans (by have := hpush.out; rw [adrF_line] at this; exact this.symm)
      obtain ⟨fn, tmps, assign, body, hy, hR⟩ := HY.out pre (L.adr : Int) W3 hJ3.out (by rw [hP.out.length_eq]; exact hlt)
      have HRD := hid hR
      clear hw1 hW3 hon hon1 hI hM hJp hK he hgr hlt hlen hR hL
      gi_wp2
      refine ⟨fun h => by simp [Fence.wide] at h, HRD.out.mono ?_⟩
      rintro e' W5 (⟨rfl, hJ5, hk5⟩ | ⟨rfl, hJx5⟩)
      · have hI5 : Hid (W5.heap[r]? = some (.mapIter (some lb) ck (seen.push L.born) ck)) := hk5.walks.same r _ hI3.out rfl
        have hM5 : Hid (W5.heap[lb]? = some (.map es ck)) := hk5.walks.same lb _ hM3.out rfl
        have hK5 := hid (hK3.out.trans hk5.keep)
        have HJ5 := hid hJ5
        clear hJ5 hk5 hrun hent hy
        gi_wp2
        go_roundw
        case rel => exact ⟨seen.push L.born, pre ++ [(L.adr : Int)], hI5, hM5, HJ5, hP3, hK5⟩
        case measure =>
          have h1 : W5.iterSeen r = seen.push L.born := by unfold World.iterSeen; rw [hI5.out]
          have h2 : wr.iterSeen r = seen := by unfold World.iterSeen; rw [hit.out]
          rw [h1, h2]
          exact hsh.out
      · have HJx := hid hJx5
        clear hJx5 hrun hent hy
        gi_wp2
        refine bodyPost_ret (results_none rfl _ _ _) rfl ?_
        exact ⟨⟨_, rfl⟩, .inr ⟨_, trivial, HJx.out⟩⟩

theorem Keys_stops (n : Nat) (F : List Nat) (N0 Bm lb ck : Nat) (ls : List LineA) (w : World) (hmp : w.heap[lb]? = some (.map (ls.map lineE).toArray ck))
    (hbn : ls.Pairwise fun a b => a.born ≠ b.born) (hold : ∀ L ∈ ls, L.born < ck) (hlb : lb < N0) (hlb' : lb ∉ F) (hN : N0 ≤ w.heap.size)
    (hst : w.cell? ⟨Bm, 0, none⟩ = some (.map (some lb))) :
    SeqStopsK Fence.wide n Tryz.prog 131 #[.pointer (some ⟨Bm, 0, none⟩)] (fun x : Int => #[.int .u64 x]) (KeepM F N0) (fun ys => ys.Perm (ls.map fun L => (L.adr : Int))) (fun _ => True) ls.length w := by
  intro l J Jx W hW hJ _ hY h0
  have h1 := (hW.cell (p := ⟨Bm, 0, none⟩) (World.block_lt_of_cell? w _ hst)).trans hst
  exact Keys1_in n F N0 l Bm lb ck ls J Jx W ((hW.block _ (Array.getElem?_eq_some_iff.1 hmp).1).trans hmp) hbn hold hJ hlb hlb' (Nat.le_trans hN hW.size) hY h1 h0

set_option maxRecDepth 100000 in
theorem Keys_make (n : Nat) (lb : Nat) (w : World) :
    CallsIn Fence.wide n Tryz.prog 110 #[.map (some lb)] w fun e w' => e = .returned (.func (.func 131) #[] #[.pointer (some ⟨w.heap.size, 0, none⟩)]) ∧ w' = w.alloc (.cells #[.map (some lb)] 129) := by
  refine callsIn_of_wp Tryz.func110 rfl trivial ?_ rfl
  simp only [Tryz.ntmps110, List.size_toArray, List.length_cons, List.length_nil, Nat.reduceAdd, Nat.reduceSub, Array.replicate_succ, Array.replicate_zero, List.push_toArray, List.append_toArray, List.nil_append, List.cons_append]
  gi_wp2
  go_ret
  exact ⟨rfl, rfl⟩

end Go.Proofs.YtbkaemajjaiklaaGreat

/- The lines' addresses gathered: AppendSeq, Collect, Sorted. -/
namespace Go.Proofs.YtbkaemajjaiklaaGreat
open Go.RowKit Go.Shelf
set_option linter.unusedVariables false
set_option linter.unusedSimpArgs false

attribute [local go_sem] Oper.semAt_some

def GathI (w : World) (pre : List Int) (W : World) : Prop :=
  (∃ v, Boxed W w.heap.size 51 v ∧ W.ownsRow w.heap.size 24 1 v pre.length (pre.map (Value.int .u64)) ∧ True) ∧ Below w.heap.size w W
theorem GathI.own (w : World) (B : Nat) (hB : w.heap.size ≤ B) : OwnFrom B (GathI w) :=
  OwnFrom.and (Own.from (holdsRow_own w.heap.size w.heap.size 51 24 1 (fun pre : List Int => pre.length) (fun pre => pre.map (Value.int .u64)) (fun _ _ => True)) B)
    (ownFrom_below (Nat.le_refl _) hB)

set_option maxRecDepth 100000 in
set_option maxHeartbeats 2000000 in
theorem AppSeq_in (Bm lb ck : Nat) (ls : List LineA) (w : World) (hmp : w.heap[lb]? = some (.map (ls.map lineE).toArray ck)) (hbn : ls.Pairwise fun a b => a.born ≠ b.born) (hold : ∀ L ∈ ls, L.born < ck)
    (hst : w.cell? ⟨Bm, 0, none⟩ = some (.map (some lb))) (hl : ls.length ≤ 1000000) :
    CallsIn Fence.wide 5 Tryz.prog 147 #[.slice none 0 0, .func (.func 131) #[] #[.pointer (some ⟨Bm, 0, none⟩)]] w fun e W' =>
      (∃ (v : Value) (ys : List Int), e = .returned v ∧ ys.Perm (ls.map fun L => (L.adr : Int)) ∧ W'.ownsRow w.heap.size 24 1 v ys.length (ys.map (Value.int .u64))) ∧ Below w.heap.size w W' := by
  obtain ⟨i0, hi0, hz0, hz1, hz2⟩ := info_parts infoAddr
  refine callsIn_of_wp_marks Tryz.func147 rfl trivial ?_ rfl
  simp only [Tryz.ntmps147, List.size_toArray, List.length_cons, List.length_nil, Nat.reduceAdd, Nat.reduceSub, Array.replicate_succ, Array.replicate_zero, List.push_toArray, List.append_toArray, List.nil_append, List.cons_append]
  gi_wp2_with fail
  obtain ⟨W0, hW0⟩ : ∃ W0, W0 = w.alloc (Obj.cells #[.slice none 0 0] 51) := ⟨_, rfl⟩
  have hsz0 : W0.heap.size = w.heap.size + 1 := by rw [hW0]; simp
  have HB0 : Below w.heap.size w W0 := by rw [hW0]; exact ba (Below.refl _ _) _
  have hmlt := (Array.getElem?_eq_some_iff.1 hmp).1
  have hmW := (HB0.block _ hmlt).trans hmp
  have hblt : Bm < w.heap.size := World.block_lt_of_cell? w _ hst
  have hsW := (HB0.cell (p := ⟨Bm, 0, none⟩) hblt).trans hst
  have hbO : Boxed W0 w.heap.size 51 (.slice none 0 0) := by rw [hW0]; exact Boxed.new w 51 (.slice none 0 0)
  rw [← hW0]
  have HL := hid hl
  clear hW0
  refine wpIn_rangeFunc_ownG rfl (by omega) (gf := 131) (lb := #[.pointer (some ⟨Bm, 0, none⟩)]) rfl trivial (enters_of Tryz.func131 (by kernel_rfl) rfl)
    (Keys_stops 4 [w.heap.size] (w.heap.size + 1) Bm lb ck ls W0 hmW hbn hold (by omega) (by simp; omega) (by omega) hsW) KeepM.trans ?hKb (Below.refl _ _) (fun _ => rfl)
    (GathI w) (fun _ _ _ => False) (GathI.own w _ (by omega)) (fun _ _ _ _ _ h _ _ => h)
    ?h0
    (fun x => { tmps := #[.slice none 0 0, .func (.func 131) #[] #[.pointer (some ⟨Bm, 0, none⟩)], .pointer (some ⟨w.heap.size, 0, none⟩), undef, .slice none 0 0, .int .u64 x, .func (.func 131) #[] #[.pointer (some ⟨Bm, 0, none⟩)], .int .u64 x, undef, undef, undef, undef, undef], defers := [] }) ?assign ?body ?done ?stop
  case hKb =>
    intro W l o o' hl ho hc hw
    exact KeepM.putObj ho hw (by omega)
  case h0 => exact ⟨⟨.slice none 0 0, hbO, ⟨rfl, Or.inl ⟨rfl, rfl⟩⟩, trivial⟩, HB0⟩
  case assign =>
    intro l x W K hK
    gi_wp2
    exact hK
  case body =>
    rintro l pre x W hI hlt
    obtain ⟨⟨v, hv, hrow, _⟩, hB⟩ := hI
    have hc := hv.cell
    have HV := hid hv
    have HR := hid hrow
    have HBB := hid hB
    have HLT := hid hlt
    have hWs := HBB.out.size
    obtain ⟨a, c, rfl⟩ := row_form1 hrow
    obtain ⟨nn, hnn⟩ : ∃ nn, nn = pre.length := ⟨_, rfl⟩
    have HN := hid hnn
    have hnle : nn ≤ 1000000 := by have := HL.out; omega
    rw [← hnn] at hc HV HR
    clear hv hrow hB hnn hlt hmp hst hmlt hmW hsW hblt hbO HB0 hl hbn hold
    gi_wp2_with (gi_at_builtin; go_loud (refine wpListIn_append_own_at _ rfl _ _ 51 rfl w.heap.size 24 i0 (.int .u64 0) 1 8 Tryz.underlying51 hi0 hz0 hz1 hz2 rfl (by decide) _ _ _ rfl (HR.out.alloc _) ⟨W.heap.size, 0, none⟩ 1 1 [.int .u64 x] rfl rfl (cells_one_new _ _ _) (by simp [Value.oneCell']) (by unfold maxLen; omega) (by omega) (by simp; omega) ?_; intro v' w1 hown' hgrow _ hob; obtain ⟨a', c', rfl⟩ := row_form1 hown'; obtain ⟨hv1, hv2, hr2, hk2, hb2⟩ := HV.out.appended (by decide) HR.out HBB.out.size (Nat.le_refl _) hown' hgrow; have hc1' := hv1.cell; have hf1 := hv1.frozen))
    have hlN : (pre ++ [x]).length = nn + 1 := by rw [List.length_append, ← HN.out]; rfl
    have hpc : (pre ++ [x]).map (Value.int .u64) = pre.map (Value.int .u64) ++ [.int .u64 x] := by rw [List.map_append]; rfl
    refine ⟨hk2.from _, ⟨⟨hk2.size, ?_⟩, othersWalks hk2⟩, ⟨_, hv2, by rw [hlN, hpc]; exact hr2, trivial⟩, HBB.out.trans hb2⟩
    intro y hy hny
    have hyl : y < w.heap.size := by simp at hny; omega
    exact hb2.block y hyl
  case done =>
    rintro D ys W hD hys ⟨⟨v, hv, hrow, _⟩, hB⟩ hK
    have hc := hv.cell
    have HB := hid hB
    have HV := hid hv
    have HR := hid hrow
    have HY := hid hys
    clear hv hrow hB hmp hst hmlt hmW hsW hblt hbO HB0 hl hbn hold hys
    gi_wp2
    have hb3 := HB.out.trans (belowK_b (w := w) (Nat.le_refl _) W D _ (.deferred none) (by omega) hK rfl rfl)
    have hr3 := ownsRow_putObj HR.out (.deferred none) hK rfl
    refine ⟨by simp, .inl ⟨_, _, rfl, run_takeDeferred hK, ?_⟩⟩
    refine ⟨v, ?_, ⟨v, ys, rfl, HY.out, hr3⟩, hb3⟩
    simp [results, Tryz.results147, go_sem]
  case stop => rintro D c0 pre W hD hpre h hK; exact h.elim

/-- the addresses, rising -/
structure RiseR (w : World) (ls : List LineA) (v : Value) (ys : List Int) (W : World) : Prop where
  perm : ys.Perm (ls.map fun L => (L.adr : Int))
  row : W.ownsRow w.heap.size 24 1 v ys.length (ys.map (Value.int .u64))
  bel : Below w.heap.size w W

set_option maxRecDepth 100000 in
theorem Collect_z (Bm lb ck : Nat) (ls : List LineA) (w : World) (hmp : w.heap[lb]? = some (.map (ls.map lineE).toArray ck)) (hbn : ls.Pairwise fun a b => a.born ≠ b.born) (hold : ∀ L ∈ ls, L.born < ck)
    (hst : w.cell? ⟨Bm, 0, none⟩ = some (.map (some lb))) (hl : ls.length ≤ 1000000) :
    Calls Tryz.prog 130 #[.func (.func 131) #[] #[.pointer (some ⟨Bm, 0, none⟩)]] w fun e W' => ∃ v ys, e = .returned v ∧ RiseR w ls v ys W' := by
  have HA := hid (callsIn_wide.1 (AppSeq_in Bm lb ck ls w hmp hbn hold hst hl))
  clear hmp hbn hold hst hl
  go_enter Tryz.func130, Tryz.ntmps130
  go_wp2_with fail
  refine HA.out.mono ?_
  rintro e w1 ⟨⟨v, ys, rfl, h1, h2⟩, h3⟩
  have HR : Hid (RiseR w ls v ys w1) := ⟨h1, h2, h3⟩
  clear h1 h2 h3
  go_wp2
  go_ret
  exact ⟨v, ys, rfl, HR.out⟩
set_option maxRecDepth 100000 in
theorem Sorted_z (Bm lb ck : Nat) (ls : List LineA) (w : World) (hmp : w.heap[lb]? = some (.map (ls.map lineE).toArray ck)) (hbn : ls.Pairwise fun a b => a.born ≠ b.born) (hold : ∀ L ∈ ls, L.born < ck)
    (hst : w.cell? ⟨Bm, 0, none⟩ = some (.map (some lb))) (hl : ls.length ≤ 1000000) :
    Calls Tryz.prog 109 #[.func (.func 131) #[] #[.pointer (some ⟨Bm, 0, none⟩)]] w fun e W' => ∃ v ys, e = .returned v ∧ RiseR w ls v ys W' := by
  have HA := hid (Collect_z Bm lb ck ls w hmp hbn hold hst hl)
  have HL := hid hl
  clear hmp hbn hold hst hl
  go_enter Tryz.func109, Tryz.ntmps109
  go_wp2_with fail
  refine HA.out.mono ?_
  rintro e w1 ⟨v, ys, rfl, hr⟩
  have HS := hid (SortOwn_s hr.row (by have h1 := hr.perm.length_eq; have := HL.out; simp at h1; omega))
  have HR := hid hr
  clear hr
  go_wp2_with fail
  refine HS.out.mono ?_
  rintro e w2 ⟨⟨rv, rfl⟩, zs, p1, p2, p3, p4, p5⟩
  have hb : Below w.heap.size w w2 := by
    rcases p5 with ⟨_, rfl⟩ | ⟨g, n', cap', _, hbg, ho⟩
    · exact HR.out.bel
    · exact HR.out.bel.trans (ho.below (by simpa using hbg) HR.out.bel.size)
  have HF : Hid (RiseR w ls v zs w2) := ⟨p1.trans HR.out.perm, by rw [p1.length_eq]; exact p3, hb⟩
  clear p1 p2 p3 p4 p5 hb HS
  go_wp2
  go_ret
  exact ⟨v, zs, rfl, HF.out⟩

set_option maxRecDepth 100000 in
/-- rising: a function over a row that lies in a cell -/
theorem Rising_z (m : Nat) (B : MB) (M : MemS) (w : World) (h : MemIs w m B M) (hl : M.lines.length ≤ 1000000) :
    Calls Tryz.prog 80 #[.pointer (some ⟨m, 0, none⟩)] w fun e W' => ∃ (b : Nat) (v : Value) (ys : List Int), e = .returned (.func (.func 129) #[] #[.pointer (some ⟨b, 0, none⟩)]) ∧
      ys.Perm (M.lines.map fun L => (L.adr : Int)) ∧ W'.ownsRow w.heap.size 24 1 v ys.length (ys.map (Value.int .u64)) ∧ w.heap.size ≤ b ∧ Blk W' b 51 #[v] ∧ v.ownBlock ≠ some b ∧ Below w.heap.size w W' := by
  obtain ⟨W1, hW1⟩ : ∃ W1, W1 = w.alloc (.cells #[.map (some B.lb)] 129) := ⟨_, rfl⟩
  have hb1 : Below w.heap.size w W1 := by rw [hW1]; exact ba (Below.refl _ _) _
  have hc1 : W1.cell? ⟨w.heap.size, 0, none⟩ = some (.map (some B.lb)) := by rw [hW1]; exact (Blk.new w _ _).cell 0
  have HS := hid (Sorted_z w.heap.size B.lb M.clock M.lines W1 ((hb1.block _ (Array.getElem?_eq_some_iff.1 h.map).1).trans h.map) h.born h.old hc1 hl)
  have y2 : w.cell? ⟨m, 2, none⟩ = some (.map (some B.lb)) := h.blk.cell 2
  have HW := hid hW1
  have HB := hid hb1
  clear hW1 hb1 hc1 h hl
  go_enter Tryz.func80, Tryz.ntmps80
  go_wp2_with fail
  refine (callsIn_wide.1 (Keys_make 5 B.lb w)).mono ?_
  rintro e w1 ⟨rfl, rfl⟩
  go_wp2_with fail
  rw [← HW.out]
  refine HS.out.mono ?_
  rintro e w2 ⟨v, ys, rfl, hr⟩
  obtain ⟨a, c, rfl⟩ := row_form1 hr.row
  have HR := hid hr
  obtain ⟨ny, hny⟩ : ∃ ny, ny = ys.length := ⟨_, rfl⟩
  rw [← hny]
  have HNY := hid hny
  clear hr hny
  go_wp2
  go_ret
  have hbe : Below w.heap.size w w2 := HB.out.trans (HR.out.bel.mono HB.out.size)
  have hr := HR.out.row
  rw [← HNY.out] at hr
  refine ⟨w2.heap.size, .slice a ny c, ys, rfl, HR.out.perm, ?_, hbe.size, Blk.new w2 _ _, fun e => ?_, ba hbe _⟩
  · rw [← HNY.out]
    exact (hr.alloc _).mono HB.out.size
  · have := own_lt hr _ e
    omega

end Go.Proofs.YtbkaemajjaiklaaGreat

/- A region that draws its order inside a fence (a round's too): many operations that only read, one at the end that waits for all: one way. No program. -/
namespace Go.Proofs.YtbkaemajjaiklaaGreat
open Go
set_option linter.unusedVariables false
set_option linter.unusedSimpArgs false

theorem countP_less {p q : Nat → Bool} (hqp : ∀ x, q x = true → p x = true) {i : Nat} (hp : p i = true) (hq : q i = false) : ∀ {l : List Nat}, i ∈ l → l.countP q < l.countP p
  | [], h => by cases h
  | x :: l, h => by
    have hle : ∀ l : List Nat, l.countP q ≤ l.countP p := fun l => List.countP_mono_left (fun x _ hx => hqp x hx)
    rcases List.mem_cons.1 h with rfl | h
    · rw [List.countP_cons_of_pos hp, List.countP_cons_of_neg (by simp [hq])]
      have := hle l; omega
    · have ih := countP_less hqp hp hq h
      rw [List.countP_cons, List.countP_cons]
      have : (if q x = true then 1 else 0) ≤ (if p x = true then 1 else 0) := by
        by_cases hx : q x = true
        · rw [if_pos hx, if_pos (hqp x hx)]; exact Nat.le_refl _
        · rw [if_neg hx]; exact Nat.zero_le _
      omega

section
variable {F : Fence} {m : Nat} {P : Program} {ops : Array Oper} {Q : Exit → Act → World → Prop} {md : Region.Mode}

/-- each operand that an operation ahead of n makes is one that it waits for -/
def depsB (md : Region.Mode) (ops : Array Oper) (n : Nat) : Bool :=
  (List.range (n + 1)).all fun i => match ops[i]? with
    | some o => o.op.operands.toList.all fun x => match x with
      | .tmp t => (List.range n).all fun j => match ops[j]? with
        | some oj => oj.dst != some t || o.after.any fun e => Region.binds md e && e.on == j
        | none => true
      | _ => true
    | none => false
/-- each operation is waited for by a later one -/
def sinkB' (md : Region.Mode) (ops : Array Oper) (n : Nat) : Bool :=
  (List.range n).all fun i => (List.range (n + 1)).any fun j => decide (i < j) && match ops[j]? with
    | some o => o.after.any fun e => Region.binds md e && e.on == i
    | none => false
theorem depsB_spec {n : Nat} (h : depsB md ops n = true) {i j t : Nat} {o oj : Oper} (hi : i ≤ n) (ho : ops[i]? = some o) (hx : Operand.tmp t ∈ o.op.operands) (hj : j < n) (hoj : ops[j]? = some oj) (hd : oj.dst = some t) :
    ∃ e ∈ o.after, Region.binds md e = true ∧ e.on = j := by
  unfold depsB at h
  have h1 := List.all_eq_true.1 h i (List.mem_range.2 (by omega))
  rw [ho] at h1
  have h2 := List.all_eq_true.1 h1 (.tmp t) (by simpa using hx)
  have h3 := List.all_eq_true.1 h2 j (List.mem_range.2 hj)
  simp only [hoj, hd, bne_self_eq_false, Bool.false_or] at h3
  obtain ⟨e, he, hb⟩ := Array.any_eq_true'.1 h3
  simp only [Bool.and_eq_true, beq_iff_eq] at hb
  exact ⟨e, he, hb⟩
theorem sinkB'_spec {n : Nat} (h : sinkB' md ops n = true) {i : Nat} (hi : i < n) : ∃ j o, i < j ∧ j ≤ n ∧ ops[j]? = some o ∧ ∃ e ∈ o.after, Region.binds md e = true ∧ e.on = i := by
  have h1 := List.all_eq_true.1 h i (List.mem_range.2 hi)
  obtain ⟨j, hj, h2⟩ := List.any_eq_true.1 h1
  simp only [Bool.and_eq_true, decide_eq_true_eq] at h2
  obtain ⟨h3, h4⟩ := h2
  cases ho : ops[j]? with
  | none => rw [ho] at h4; cases h4
  | some o =>
    rw [ho] at h4
    obtain ⟨e, he, hb⟩ := Array.any_eq_true'.1 h4
    simp only [Bool.and_eq_true, beq_iff_eq] at hb
    exact ⟨j, o, h3, by have := List.mem_range.1 hj; omega, ho, e, he, hb⟩

def backB (md : Region.Mode) (ops : Array Oper) : Bool :=
  (List.range ops.size).all fun i => match ops[i]? with
    | some o => o.after.all fun e => !Region.binds md e || decide (e.on < i)
    | none => true
theorem backB_spec (h : backB md ops = true) (i : Nat) (o : Oper) (ho : ops[i]? = some o) (e : Edge) (he : e ∈ o.after) (hb : Region.binds md e = true) : e.on < i := by
  have hi := (Array.getElem?_eq_some_iff.1 ho).1
  have h1 := List.all_eq_true.1 h i (List.mem_range.2 hi)
  rw [ho] at h1
  have h2 := Array.all_eq_true'.1 h1 e he
  rw [hb] at h2
  simpa using h2

/-- what holds on the way -/
structure RdI (md : Region.Mode) (ops : Array Oper) (n : Nat) (a0 aF : Act) (listed : Array Bool) (a : Act) : Prop where
  size : listed.size = ops.size
  last : listed.getD n true = false
  closed : ∀ j o, ops[j]? = some o → listed.getD j false = true → ∀ e ∈ o.after, Region.binds md e = true → listed.getD e.on false = true
  defers : a.defers = a0.defers
  tsize : a.tmps.size = a0.tmps.size
  new : ∀ (t i : Nat) o, i < n → ops[i]? = some o → o.dst = some t → listed.getD i false = true → a.tmps[t]? = aF.tmps[t]?
  old : ∀ t : Nat, (∀ (i : Nat) o, i < n → ops[i]? = some o → o.dst = some t → listed.getD i false = false) → a.tmps[t]? = a0.tmps[t]?
/-- what is asked of the operations -/
structure RdH (F : Fence) (P : Program) (md : Region.Mode) (ops : Array Oper) (n : Nat) (a0 aF : Act) (w : World) : Prop where
  size : ops.size = n + 1
  deps : depsB md ops n = true
  sink : sinkB' md ops n = true
  fn : ∀ f, F.fn f
  defers : aF.defers = a0.defers
  tsize : aF.tmps.size = a0.tmps.size
  old : ∀ t : Nat, (∀ (i : Nat) o, i < n → ops[i]? = some o → o.dst ≠ some t) → aF.tmps[t]? = a0.tmps[t]?
  back : ∀ (i : Nat) o, ops[i]? = some o → ∀ e ∈ o.after, Region.binds md e = true → e.on < i
  run : ∀ (i : Nat) o, i < n → ops[i]? = some o → o.guard = none ∧ (∀ cs b, o.op ≠ .select cs b) ∧ (∀ c, o.op ≠ .defer c) ∧ ∃ v d, o.dst = some d ∧ (execOp aF.eval o).run P w = .ok (.value v) w ∧ aF.tmps[d]? = some v
  guard : ∀ o, ops[n]? = some o → o.guard = none

theorem RdI.all {n : Nat} {a0 aF a : Act} {listed : Array Bool} (h : RdI md ops n a0 aF listed a) (hs : sinkB' md ops n = true) (hr : n ∈ Region.ready md ops listed) : ∀ (d i : Nat), n - i = d → i < n → listed.getD i false = true := by
  intro d
  induction d using Nat.strongRecOn with
  | _ d ih =>
    intro i hd hi
    obtain ⟨j, o, h1, h2, h3, e, he, hb, hon⟩ := sinkB'_spec hs hi
    obtain ⟨_, on, hon', hall⟩ := mem_ready.1 hr
    by_cases hjn : j = n
    · subst hjn
      have : o = on := Option.some.inj (h3.symm.trans hon')
      subst this
      have := hall e he hb
      rw [hon] at this; exact this
    · have hj := ih (n - j) (by omega) j rfl (by omega)
      have := h.closed j o h3 hj e he hb
      rw [hon] at this; exact this

theorem wanted_none {o : Oper} (h : o.guard = none) (f : Nat → Option Bool) : Region.wanted o f = true := by
  unfold Region.wanted; rw [h]
theorem least {u : Nat → Bool} : ∀ k, (∃ i, i ≤ k ∧ u i = true) → ∃ i, i ≤ k ∧ u i = true ∧ ∀ j, j < i → u j = false
  | 0, ⟨i, hi, h⟩ => ⟨i, hi, h, fun j hj => by omega⟩
  | k + 1, ⟨i, hi, h⟩ => by
    by_cases hk : ∃ i, i ≤ k ∧ u i = true
    · obtain ⟨i', h1, h2, h3⟩ := least k hk
      exact ⟨i', by omega, h2, h3⟩
    · refine ⟨i, hi, h, fun j hj => ?_⟩
      cases hu : u j with
      | false => rfl
      | true => exact absurd ⟨j, by omega, hu⟩ hk
theorem RdI.eval {n : Nat} {a0 aF a : Act} {listed : Array Bool} {w : World} (h : RdI md ops n a0 aF listed a) (H : RdH F P md ops n a0 aF w) {i : Nat} (hi : i ≤ n) {o : Oper} (ho : ops[i]? = some o) (hr : i ∈ Region.ready md ops listed) : ∀ x ∈ o.op.operands, a.eval x = aF.eval x := by
  intro x hx
  obtain ⟨_, o', ho', hall⟩ := mem_ready.1 hr
  obtain rfl : o = o' := Option.some.inj (ho.symm.trans ho')
  cases x with
  | tmp t =>
    have key : a.tmps[t]? = aF.tmps[t]? := by
      by_cases hj : ∃ (j : Nat) (oj : Oper), j < n ∧ ops[j]? = some oj ∧ oj.dst = some t
      · obtain ⟨j, oj, h1, h2, h3⟩ := hj
        obtain ⟨e, he, hb, hon⟩ := depsB_spec H.deps hi ho hx h1 h2 h3
        have := hall e he hb
        rw [hon] at this
        exact h.new t j oj h1 h2 h3 this
      · rw [h.old t (fun j oj h1 h2 h3 => absurd ⟨j, oj, h1, h2, h3⟩ hj), H.old t (fun j oj h1 h2 h3 => hj ⟨j, oj, h1, h2, h3⟩)]
    show a.tmps.getD t undef = aF.tmps.getD t undef
    rw [Array.getD_eq_getD_getElem?, Array.getD_eq_getD_getElem?, key]
  | _ => rfl
theorem RdI.step {n : Nat} {a0 aF a : Act} {listed : Array Bool} {w : World} (h : RdI md ops n a0 aF listed a) (H : RdH F P md ops n a0 aF w) {i : Nat} (hi : i < n) {o : Oper} (ho : ops[i]? = some o) (hr : i ∈ Region.ready md ops listed) {v : Value} {d : Tmp} (hd : o.dst = some d) (hv : aF.tmps[d]? = some v) :
    RdI md ops n a0 aF (listed.setIfInBounds i true) (a.put o.dst v) := by
  obtain ⟨hun, o', ho', hall⟩ := mem_ready.1 hr
  obtain rfl : o = o' := Option.some.inj (ho.symm.trans ho')
  have hil : i < listed.size := by rw [h.size, H.size]; omega
  have hput : (a.put o.dst v).tmps = a.tmps.setIfInBounds d v := by rw [hd]; rfl
  have hds : d < a.tmps.size := by
    rw [h.tsize, ← H.tsize]
    exact (Array.getElem?_eq_some_iff.1 hv).1
  refine ⟨by simp [h.size], by rw [getD_set_ne true (by omega)]; exact h.last, fun j oj hj hl e he hb => ?_, by rw [hd]; exact h.defers, by rw [hput, Array.size_setIfInBounds]; exact h.tsize, fun t j oj h1 h2 h3 h4 => ?_, fun t hall' => ?_⟩
  · by_cases hij : i = j
    · subst hij
      obtain rfl : oj = o := Option.some.inj (hj.symm.trans ho)
      exact getD_set_true (hall e he hb)
    · rw [getD_set_ne false hij] at hl
      exact getD_set_true (h.closed j oj hj hl e he hb)
  · rw [hput]
    by_cases ht : d = t
    · subst ht
      rw [Array.getElem?_setIfInBounds_self_of_lt hds, hv]
    · rw [Array.getElem?_setIfInBounds_ne ht]
      have hij : i ≠ j := fun e => by
        subst e
        obtain rfl : oj = o := Option.some.inj (h2.symm.trans ho)
        exact ht (Option.some.inj (hd.symm.trans h3))
      rw [getD_set_ne false hij] at h4
      exact h.new t j oj h1 h2 h3 h4
  · rw [hput]
    have ht : d ≠ t := fun e => by
      subst e
      have := hall' i o hi ho hd
      simp [hil] at this
    rw [Array.getElem?_setIfInBounds_ne ht]
    refine h.old t fun j oj h1 h2 h3 => ?_
    have := hall' j oj h1 h2 h3
    cases hb : listed.getD j false with
    | false => rfl
    | true => rw [getD_set_true hb] at this; cases this
theorem rd_any {n : Nat} {a0 aF : Act} {w : World} (H : RdH F P md ops n a0 aF w) (hn : ∀ o, ops[n]? = some o → o.wpIn F m P aF w (fun a w => Q .normal a w) Q) : ∀ (fuel : Nat) (listed : Array Bool) (a : Act), RdI md ops n a0 aF listed a →
    (List.range (n + 1)).countP (fun i => !listed.getD i true) ≤ fuel → wpAnyIn F m P md ops Q fuel listed a w := by
  intro fuel
  induction fuel with
  | zero =>
    intro listed a h hc
    have : 0 < (List.range (n + 1)).countP (fun i => !listed.getD i true) := List.countP_pos_iff.2 ⟨n, List.mem_range.2 (by omega), by rw [h.last]; rfl⟩
    omega
  | succ fuel ih =>
    intro listed a h hc
    have getF : ∀ j, j ≤ n → listed.getD j true = true → listed.getD j false = true := fun j hj hl => by
      have : j < listed.size := by rw [h.size, H.size]; omega
      simp [this] at hl ⊢
      exact hl
    refine ⟨fun hnil => ?_, fun i hr => ?_⟩
    · exfalso
      obtain ⟨i, h1, h2, h3⟩ := least (u := fun i => !listed.getD i true) n ⟨n, Nat.le_refl _, by simp only [h.last]; rfl⟩
      obtain ⟨o, ho⟩ : ∃ o, ops[i]? = some o := ⟨ops[i]'(by rw [H.size]; omega), Array.getElem?_eq_getElem _⟩
      have : i ∈ Region.ready md ops listed := mem_ready.2 ⟨by simpa using h2, o, ho, fun e he hb => by
        have hlt := H.back i o ho e he hb
        exact getF e.on (by omega) (by simpa using h3 e.on hlt)⟩
      rw [hnil] at this
      cases this
    · obtain ⟨hun, o, ho, hall⟩ := mem_ready.1 hr
      have hil : i ≤ n := by have := (Array.getElem?_eq_some_iff.1 ho).1; rw [H.size] at this; omega
      have hev := h.eval H hil ho hr
      by_cases hin : i = n
      · subst hin
        have hg := H.guard o ho
        have hal := fun j hj => h.all H.sink hr (i - j) j rfl hj
        have haF : a = aF := by
          have ht : a.tmps = aF.tmps := Array.ext_getElem? fun t => by
            by_cases hj : ∃ (j : Nat) (oj : Oper), j < i ∧ ops[j]? = some oj ∧ oj.dst = some t
            · obtain ⟨j, oj, h1, h2, h3⟩ := hj
              exact h.new t j oj h1 h2 h3 (hal j h1)
            · rw [h.old t (fun j oj h1 h2 h3 => absurd ⟨j, oj, h1, h2, h3⟩ hj), H.old t (fun j oj h1 h2 h3 => hj ⟨j, oj, h1, h2, h3⟩)]
          have hd : a.defers = aF.defers := h.defers.trans H.defers.symm
          cases a; cases aF; simp only at ht hd; subst ht; subst hd; rfl
        subst haF
        simp only [wpOpIn, ho, wanted_none hg, if_true]
        refine Oper.wpIn_mono (fun a' w' hq => ?_) (hn o ho)
        have hnone : Region.ready md ops (listed.setIfInBounds i true) = [] := by
          rw [List.eq_nil_iff_forall_not_mem]
          intro j hj
          obtain ⟨h1, oj, h2, _⟩ := mem_ready.1 hj
          have hjl : j ≤ i := by have := (Array.getElem?_eq_some_iff.1 h2).1; rw [H.size] at this; omega
          by_cases hji : i = j
          · subst hji
            have : i < listed.size := by rw [h.size, H.size]; omega
            simp [this] at h1
          · rw [getD_set_ne true hji] at h1
            have := hal j (by omega)
            have hsz : j < listed.size := by rw [h.size, H.size]; omega
            simp [hsz] at this h1
            rw [this] at h1; cases h1
        cases fuel with
        | zero => exact ⟨hnone, hq⟩
        | succ f => exact ⟨fun _ => hq, fun j hj => by rw [hnone] at hj; cases hj⟩
      · have hlt : i < n := by omega
        obtain ⟨hg, hs, hdf, v, d, hd, hrun, hv⟩ := H.run i o hlt ho
        simp only [wpOpIn, ho, wanted_none hg, if_true]
        refine ⟨fun f _ => H.fn f, ?_⟩
        rw [Oper.semAt_eq _ _ _ hdf, execOp_congr o hs hev, hrun, Oper.uponIn_value]
        refine ih _ _ (h.step H hlt ho hr hd hv) ?_
        have hcl := countP_less (p := fun j => !listed.getD j true) (q := fun j => !(listed.setIfInBounds i true).getD j true) (fun j hj => ?_) (i := i) (by simp only [hun]; rfl) (by
          have : i < listed.size := by rw [h.size, H.size]; omega
          simp [this]) (l := List.range (n + 1)) (List.mem_range.2 (by omega))
        · omega
        · by_cases hij : i = j
          · subst hij; simp only [hun]; rfl
          · have hj' : (!(listed.setIfInBounds i true).getD j true) = true := hj
            rw [getD_set_ne true hij] at hj'; exact hj'
/-- THE LAW -/
theorem wpIn_region_reads {id n : Nat} {a0 aF : Act} {w : World} (hm : P.follows .mixedOrders = true) (H : RdH F P .any ops n a0 aF w.drew)
    (hn : ∀ o, ops[n]? = some o → o.wpIn F m P aF w.drew (fun a w => Q .normal a w) Q) : (Code.region id ops true).wpIn F m P Q a0 w := by
  have hf : ∀ j, (Array.replicate ops.size false).getD j false = false := fun j => by
    rcases Nat.lt_or_ge j ops.size with h | h
    · simp [h]
    · simp [h]
  have hl : (Array.replicate ops.size false).getD n true = false := by
    have : n < ops.size := by rw [H.size]; omega
    simp [this]
  refine wpIn_region_any hm (rd_any (w := w.drew) H hn _ _ _ ⟨by simp, hl, fun j o _ h => (by rw [hf j] at h; cases h), rfl, rfl, fun t i o _ _ _ h => (by rw [hf i] at h; cases h), fun _ _ => rfl⟩ ?_)
  rw [H.size]
  exact Nat.le_trans List.countP_le_length (by simp)

end
end Go.Proofs.YtbkaemajjaiklaaGreat

/- A crash walked. -/
namespace Go.Proofs.YtbkaemajjaiklaaGreat
open Go.RowKit Go.Shelf
set_option linter.unusedVariables false
set_option linter.unusedSimpArgs false

attribute [local go_sem] Oper.semAt_some

/-- while stores last -/
structure CrJ (w : World) (m : Nat) (B : MB) (M0 : MemS) (K n : Nat) (kv : Value) (N2 : Nat) (W : World) : Prop where
  sz : N2 ≤ W.heap.size
  mem : ∃ Mp Kc, Mems W m B Mp K ∧ CutTo n (absM M0) (absM Mp) Kc ∧ Rng (absM Mp) ∧ (∀ y ∈ footM m B Mp, y ∈ footM m B M0) ∧ Mp.view.length = M0.view.length
  only : Only (footM m B M0) w W
  bM : Blk W w.heap.size 52 #[.pointer (some ⟨m, 0, none⟩)]
  bK : Blk W (w.heap.size + 1) 47 #[kv]
theorem CrJ.step {w : World} {m : Nat} {B : MB} {M0 : MemS} {K n : Nat} {kv : Value} {N2 : Nat} {W W' : World} (h : CrJ w m B M0 K n kv N2 W) (hlt : ∀ y ∈ footM m B M0, y < w.heap.size) {f : List Nat} (ho : Only f W W') (hf : ∀ k ∈ f, w.heap.size + 2 ≤ k) : CrJ w m B M0 K n kv N2 W' := by
  obtain ⟨Mp, Kc, h1, h2, h3, h4, h5⟩ := h.mem
  refine ⟨Nat.le_trans h.sz ho.size, ⟨Mp, Kc, ⟨h1.is.only ho (fun k hk hm => ?_), h1.few, h1.two⟩, h2, h3, h4, h5⟩, h.only.trans ho (fun k hk => Or.inr ?_), ho.blk h.bM (fun hm => ?_), ho.blk h.bK (fun hm => ?_)⟩
  · have := hf k hm; have := hlt k (h4 k hk); omega
  · have := hf k hk; omega
  · have := hf _ hm; omega
  · have := hf _ hm; omega

theorem field_row {lc : Array Value} {pp : Option Addr} {ln cc : Nat} (h : lc[0]? = some (.slice pp ln cc)) {w : World} : (Instr.field 143 (.agg lc) 0).run Tryz.prog w = .ok (.slice pp ln cc) w := by
  unfold Instr.field
  have e : asAgg (.agg lc) = pure lc := rfl
  rw [e]
  go_simp
theorem clear_lines {W : World} {lb ck : Nat} {es : Array MapEntry} (h : W.heap[lb]? = some (.map es ck)) : (Builtin.clear_ #[129] 0 #[.map (some lb)]).run Tryz.prog W = .ok (.tuple #[]) (W.putObj lb (.map #[] ck)) := by
  unfold Builtin.clear_
  have h1 := MapKept.run_getObj_map (P := Tryz.prog) h
  have h2 := MapKept.run_setObj_map (P := Tryz.prog) (.map #[] ck) h
  go_simp
  rfl
/-- a row of one's own, cell by cell -/
theorem row_at {W : World} {base : Nat} {v : Value} {ys : List Int} (h : W.ownsRow base 24 1 v ys.length (ys.map (Value.int .u64))) {d : Nat} (h1 : base ≤ d) (h2 : d < W.heap.size) :
    ∃ p g c, v = .slice p ys.length c ∧ (0 < ys.length → p = some ⟨g, 0, none⟩) ∧ (∀ i x, ys[i]? = some x → W.cell? ⟨g, i, none⟩ = some (.int .u64 x)) ∧ base ≤ g ∧ g < W.heap.size := by
  rcases h.2 with ⟨e1, e2⟩ | ⟨g, c, cur, e1, e2, e3, e4, e5, e6, e7⟩
  · have : ys = [] := by
      have : ys.length = 0 := by omega
      exact List.length_eq_zero_iff.1 this
    subst this
    exact ⟨none, d, 0, e1, fun hh => absurd hh (by simp), fun i x hx => by simp at hx, h1, h2⟩
  · refine ⟨_, g, c, e1, fun _ => rfl, fun i x hi => ?_, e2, (Array.getElem?_eq_some_iff.1 e3).1⟩
    have hb : Blk W g 24 cur := e3
    have hl' := (List.getElem?_eq_some_iff.1 hi).1
    rw [hb.cell, ← Array.getElem?_toList]
    have : (cur.toList.take (ys.length * 1))[i]? = some (.int .u64 x) := by rw [e7, List.getElem?_map, hi]; rfl
    rw [List.getElem?_take, if_pos (by omega)] at this
    exact this

set_option maxRecDepth 100000 in
set_option maxHeartbeats 2000000 in
theorem Crash_in (m : Nat) (B : MB) (M0 : MemS) (K n : Nat) (kp : Option Addr) (kn kc : Nat) (ks : Nat → Int) (w : World) (h : Mems w m B M0 K) (hK : K ≤ 1000000) (hll : M0.lines.length ≤ 1000000) (hr : Rng (absM M0)) (hvl : M0.view.length = 128 * (1 + n))
    (hk2 : kn = 0 ∨ kn = 2) (hks : ∀ i, i < kn → ∃ g o, kp = some ⟨g, o, none⟩ ∧ w.cell? ⟨g, o + i, none⟩ = some (.int .i64 (ks i)) ∧ g ∉ footM m B M0) (hkr : ∀ i, -9223372036854775808 ≤ ks i ∧ ks i ≤ 9223372036854775807) :
    CallsIn Fence.wide 5 Tryz.prog 29 #[ptrV m, .slice kp kn kc] w fun e W' => (∃ v, e = .returned v) ∧
      (∃ B' M', MemIs W' m B' M' ∧ CutI n (absM M0) M'.image) ∧ Only (footM m B M0) w W' := by
  have HT := hid (there_z m B M0.view.length M0.st h.is.pos)
  have hlt := h.is.foot_lt
  obtain ⟨W1, hW1⟩ : ∃ W1, W1 = (w.alloc (.cells #[ptrV m] 52)).alloc (.cells #[.slice kp kn kc] 47) := ⟨_, rfl⟩
  have hO1 : Only [] w W1 := by rw [hW1]; exact ((Only.refl _ _).alloc _).alloc _
  have hm1 := h.is.only hO1 (by simp)
  have hr1 := hid (Rising_z m B M0 W1 hm1 hll)
  have hb1 : W1.cell? ⟨w.heap.size, 0, none⟩ = some (ptrV m) := by rw [hW1]; go_simp
  refine callsIn_of_wp_marks Tryz.func29 rfl trivial ?_ rfl
  simp only [Tryz.ntmps29, List.size_toArray, List.length_cons, List.length_nil, Nat.reduceAdd, Nat.reduceSub, Array.replicate_succ, Array.replicate_zero, List.push_toArray, List.append_toArray, List.nil_append, List.cons_append]
  gi_wp2_with fail
  rw [← hW1]
  have HW1 := hid hW1
  clear hW1
  refine ⟨trivial, (callsIn_wide.2 (HT.out W1 hm1.blk)).mono ?_⟩
  rintro e w1 ⟨rfl, rfl⟩
  gi_wp2_with fail
  refine ⟨trivial, (callsIn_wide.2 hr1.out).mono ?_⟩
  rintro e W2 ⟨b, v, ys, rfl, p1, p2, p3, p4, p5, p6⟩
  gi_wp2_with fail
  have hs1 : W1.heap.size = w.heap.size + 2 := by rw [HW1.out]; simp
  obtain ⟨p, g, c, rfl, r1, r2, r3, r4⟩ := row_at p2 p3 p4.lt
  obtain ⟨q, hq⟩ : ∃ q, q = ys.length := ⟨_, rfl⟩
  have hqb : q ≤ 1000000 := by have := p1.length_eq; simp at this; omega
  obtain ⟨f, hf⟩ : ∃ f : Nat → Nat, f = fun i => (ys.getD i 0).toNat := ⟨_, rfl⟩
  have hfL : ∀ i, i < q → ys[i]? = some (f i : Int) ∧ f i % 64 = 0 := fun i hi => by
    have hy : ys[i]? = some ys[i] := List.getElem?_eq_getElem (by omega)
    have hm : ys[i] ∈ M0.lines.map fun L => (L.adr : Int) := p1.mem_iff.1 (List.getElem_mem (by omega))
    obtain ⟨L, hL, e⟩ := List.mem_map.1 hm
    have e2 : f i = L.adr := by rw [hf]; simp only [List.getD_eq_getElem?_getD, hy, Option.getD_some, ← e]; rfl
    refine ⟨by rw [hy, e2, e], by rw [e2]; exact (h.is.ok L hL).adr⟩
  rw [← hq] at r1 p4 p5
  have hO2 : Only [] w W2 := hO1.trans (Only.of_below p6 []) (fun y hy => by cases hy)
  have J0 : CrJ w m B M0 K n (.slice kp kn kc) W2.heap.size W2 := by
    have hw1 : Blk W1 w.heap.size 52 #[ptrV m] := by rw [HW1.out]; exact (Only.refl [] _).alloc _ |>.blk (Blk.new w _ _) (by simp)
    have hw2 : Blk W1 (w.heap.size + 1) 47 #[.slice kp kn kc] := by
      rw [HW1.out]
      have := Blk.new (w.alloc (.cells #[ptrV m] 52)) 47 #[.slice kp kn kc]
      simp only [World.size_alloc] at this
      exact this
    exact ⟨Nat.le_refl _, ⟨M0, _, ⟨h.is.only hO2 (by simp), h.few, h.two⟩, CutTo.refl _ _, hr, fun y hy => hy, rfl⟩, hO2.mono (by simp), (Only.of_below p6 []).blk hw1 (by simp), (Only.of_below p6 []).blk hw2 (by simp)⟩
  have HS := hid (All_stops 4 q g c p f [B.ib, B.lb] W2.heap.size b W2 hqb r1 (fun i hi => r2 i _ (hfL i hi).1) p4.lt r4 (by simp; have := hlt B.ib (by simp [footM]); have := hlt B.lb (by simp [footM]); omega) (by simp; have := hlt B.ib (by simp [footM]); have := hlt B.lb (by simp [footM]); omega) (Nat.le_refl _) (p4.cell 0))
  have HF := hid (fun i hi => (hfL i hi).2)
  have HP := hid (⟨hlt, hs1, p6.size, hO2⟩ : _ ∧ _ ∧ _ ∧ _)
  have HJ0 := hid J0
  have HQ := hid hqb
  have HKS := hid (⟨hk2, hks, hkr⟩ : _ ∧ _ ∧ _)
  have HH := hid (⟨h, hK, hr, hvl⟩ : _ ∧ _ ∧ _ ∧ _)
  clear hq hf hfL hs1 p1 p2 p3 p4 p5 p6 r1 r2 r3 r4 hO1 hO2 hm1 hr1 hb1 HT J0 hqb hk2 hks hkr hlt h hK hr hvl hll
  refine wpIn_rangeFunc_ownG rfl (by omega) (gf := 129) (lb := #[.pointer (some ⟨b, 0, none⟩)]) rfl trivial (enters_of Tryz.func129 (by kernel_rfl) rfl)
    HS.out KeepN.trans ?hKb (Below.refl _ _) (fun _ => rfl)
    (fun _ => CrJ w m B M0 K n (.slice kp kn kc) W2.heap.size) (fun _ _ _ => False) ?own (fun _ _ _ _ _ h _ _ => h)
    HJ0.out
    (fun x => { tmps := #[ptrV m, .slice kp kn kc, .pointer (some ⟨w.heap.size, 0, none⟩), .pointer (some ⟨w.heap.size + 1, 0, none⟩), .int .i64 (x.val : Int), .int .u64 (f x.val : Nat), ptrV m, .bool true, .bool false, ptrV m, .func (.func 129) #[] #[.pointer (some ⟨b, 0, none⟩)], .int .i64 (x.val : Int), .int .u64 (f x.val : Nat), undef, undef, undef, undef, undef, undef, undef, undef, undef, undef, undef, undef, undef, undef, undef, undef, undef, undef, undef, undef, undef, undef, undef, undef, undef, undef, undef, undef, undef, undef, undef, undef, undef, undef, undef, undef], defers := [] }) ?assign ?body ?done ?stop
  case hKb =>
    intro W l o o' hl ho hc hw
    exact (KeepN.refl _ _ W).putObj (by omega) o'
  case own =>
    intro s W W' row hs hg hrow
    refine CrJ.step hs HP.out.1 (f := row.toList) (Only.of_grown hg (fun k hk => by simp [hk])) (fun k hk => ?_)
    have := (hrow k (by simpa using hk)).1
    have := HP.out
    omega
  case assign =>
    intro l x W K' hK
    gi_wp2
    exact hK
  case body =>
    rintro l pre x W hI hlt
    have hc0 := hI.bM.cell 0
    have hc1 := hI.bK.cell 0
    have HI := hid hI
    clear hI hlt
    rcases HKS.out.1 with rfl | rfl
    · gi_wp2_with fail
      exact ⟨KeepsFrom.refl _ _, KeepN.refl _ _ _, HI.out⟩
    · gi_wp2_with fail
      obtain ⟨kg, ko, rfl, hcell, hnf⟩ := HKS.out.2.1 (x.val % 2) (by omega)
      have hcW := (HI.out.only.cell (p := ⟨kg, ko + x.val % 2, none⟩) (World.block_lt_of_cell? w _ hcell) hnf).trans hcell
      obtain ⟨kx, hkx⟩ : ∃ kx, kx = ks (x.val % 2) := ⟨_, rfl⟩
      have hkr := HKS.out.2.2 (x.val % 2)
      rw [← hkx] at hcW hkr
      obtain ⟨Mp, Kc, hM, hC, hR, hFt, hV⟩ := HI.out.mem
      have hcm : W.cell? ⟨m, 2, none⟩ = some (.map (some B.lb)) := hM.is.blk.cell 2
      obtain ⟨lc, pp, ln, cc, hlk, hl0, hln⟩ : ∃ lc pp ln cc, (Instr.lookup 129 (.map (some B.lb)) (.int .u64 (f x.val : Nat)) false).run Tryz.prog W.drew = .ok (.agg lc) W.drew ∧ lc[0]? = some (.slice pp ln cc) ∧ ln ≤ 1000000 := by
        have hmp : W.drew.heap[B.lb]? = some (.map (Mp.lines.map lineE).toArray Mp.clock) := hM.is.map
        by_cases hl : ∃ L ∈ Mp.lines, L.adr = f x.val
        · obtain ⟨L, hL, ha⟩ := hl
          obtain ⟨pre', post, hMl⟩ := List.append_of_mem hL
          refine ⟨lineC L, some ⟨L.g, L.o, none⟩, L.ps.length, L.cap, ?_, by simp [lineC], Nat.le_trans (hM.few L hL) HH.out.2.1⟩
          rw [← ha]
          exact run_lookU_some (P := Tryz.prog) W.drew 129 24 143 Tryz.underlying129 Tryz.underlying24 B.lb _ _ hmp (L.adr : Int) pre'.length (.agg (lineC L)) false (by simpa using find_line hMl hM.is.keys)
        · refine ⟨lineZ, none, 0, 0, ?_, by simp [lineZ], by omega⟩
          exact run_lookU_none (P := Tryz.prog) W.drew 129 24 143 Tryz.underlying129 Tryz.underlying24 B.lb _ _ hmp (f x.val : Int) (.agg lineZ) false (by kernel_rfl) (by simpa using find_none (fun L hL hc => hl ⟨L, hL, hc⟩))
      obtain ⟨r, hr⟩ : ∃ r : Nat, r = x.val % 2 := ⟨_, rfl⟩
      rw [← hr] at hcW
      have hrm : (x.val : Int).tmod 2 = (r : Int) := by rw [hr, Int.tmod_eq_emod_of_nonneg (by omega)]; rfl
      obtain ⟨mx, hmx⟩ : ∃ mx : Nat, max kx 0 = (mx : Int) := ⟨(max kx 0).toNat, by omega⟩
      obtain ⟨qq, hqq⟩ : ∃ qq : Nat, qq = mx % (ln + 1) := ⟨_, rfl⟩
      have hqm : (mx : Int).tmod ((ln : Int) + 1) = (qq : Int) := by rw [hqq, Int.tmod_eq_emod_of_nonneg (by omega)]; rfl
      have hwr : IntKind.i64.wrap ((ln : Int) + 1) = (ln : Int) + 1 := IntWalk.i64_in _ (by omega)
      have hwr2 : IntKind.i64.wrap (qq : Int) = (qq : Int) := IntWalk.i64_in _ (by
        have : qq < ln + 1 := by rw [hqq]; exact Nat.mod_lt _ (by omega)
        omega)
      have hr2 : r < 2 := by omega
      have hr4 : ¬ 2 ≤ r := by omega
      have hr5 : (r : Int) < 2 := by omega
      have hl5 : ¬ (ln : Int) + 1 = 0 := by omega
      have hwr3 : IntKind.i64.wrap (r : Int) = (r : Int) := IntWalk.i64_in _ (by omega)
      have d0 : W.drew.cell? ⟨w.heap.size, 0, none⟩ = some (ptrV m) := hc0
      have d1 : W.drew.cell? ⟨w.heap.size + 1, 0, none⟩ = some (.slice (some ⟨kg, ko, none⟩) 2 kc) := hc1
      have d2 : W.drew.cell? ⟨m, 2, none⟩ = some (.map (some B.lb)) := hcm
      have d3 : W.drew.cell? ⟨kg, ko + r, none⟩ = some (.int .i64 kx) := hcW
      have HL := hid (⟨hM, hC, hR, hFt, hV, hr, hqq, hln⟩ : _ ∧ _ ∧ _ ∧ _ ∧ _ ∧ _ ∧ _ ∧ _)
      clear hM hC hR hFt hV hr hqq hcell hnf hcW hcm hkx
      refine wpIn_region_reads (n := 20) (aF := { tmps := #[ptrV m, .slice (some ⟨kg, ko, none⟩) 2 kc, .pointer (some ⟨w.heap.size, 0, none⟩), .pointer (some ⟨w.heap.size + 1, 0, none⟩), .int .i64 (x.val : Int), .int .u64 (f x.val : Nat), ptrV m, .bool true, .bool false, ptrV m, .func (.func 129) #[] #[.pointer (some ⟨b, 0, none⟩)], .int .i64 (x.val : Int), .int .u64 (f x.val : Nat), .slice (some ⟨kg, ko, none⟩) 2 kc, .int .i64 2, .bool true,
        ptrV m, .int .u64 (f x.val : Nat), .slice (some ⟨kg, ko, none⟩) 2 kc, .int .i64 (x.val : Int), .slice (some ⟨kg, ko, none⟩) 2 kc, .int .i64 2, .int .i64 (r : Int), .pointer (some ⟨kg, ko + r, none⟩), .int .i64 kx, .int .i64 (mx : Int), ptrV m, ptrV m, .pointer (some ⟨m, 2, none⟩), .map (some B.lb), .int .u64 (f x.val : Nat), .agg lc, .slice pp ln cc, .int .i64 (ln : Int), .int .i64 ((ln : Int) + 1), .int .i64 (qq : Int),
        undef, undef, undef, undef, undef, undef, undef, undef, undef, undef, undef, undef, undef], defers := [] }) rfl ⟨rfl, by kernel_rfl, by kernel_rfl, fun _ => trivial, rfl, rfl, ?old, ?back, ?run, fun o ho => by cases ho; rfl⟩ ?last
      case back => exact backB_spec (by kernel_rfl)
      case old =>
        intro t ht
        have h0 : t ≠ 16 := fun e => ht 0 _ (by omega) rfl (congrArg some e.symm)
        have h1 : t ≠ 17 := fun e => ht 1 _ (by omega) rfl (congrArg some e.symm)
        have h2 : t ≠ 18 := fun e => ht 2 _ (by omega) rfl (congrArg some e.symm)
        have h3 : t ≠ 19 := fun e => ht 3 _ (by omega) rfl (congrArg some e.symm)
        have h4 : t ≠ 20 := fun e => ht 4 _ (by omega) rfl (congrArg some e.symm)
        have h5 : t ≠ 21 := fun e => ht 5 _ (by omega) rfl (congrArg some e.symm)
        have h6 : t ≠ 22 := fun e => ht 6 _ (by omega) rfl (congrArg some e.symm)
        have h7 : t ≠ 23 := fun e => ht 7 _ (by omega) rfl (congrArg some e.symm)
        have h8 : t ≠ 24 := fun e => ht 8 _ (by omega) rfl (congrArg some e.symm)
        have h9 : t ≠ 25 := fun e => ht 9 _ (by omega) rfl (congrArg some e.symm)
        have h10 : t ≠ 26 := fun e => ht 10 _ (by omega) rfl (congrArg some e.symm)
        have h11 : t ≠ 27 := fun e => ht 11 _ (by omega) rfl (congrArg some e.symm)
        have h12 : t ≠ 28 := fun e => ht 12 _ (by omega) rfl (congrArg some e.symm)
        have h13 : t ≠ 29 := fun e => ht 13 _ (by omega) rfl (congrArg some e.symm)
        have h14 : t ≠ 30 := fun e => ht 14 _ (by omega) rfl (congrArg some e.symm)
        have h15 : t ≠ 31 := fun e => ht 15 _ (by omega) rfl (congrArg some e.symm)
        have h16 : t ≠ 32 := fun e => ht 16 _ (by omega) rfl (congrArg some e.symm)
        have h17 : t ≠ 33 := fun e => ht 17 _ (by omega) rfl (congrArg some e.symm)
        have h18 : t ≠ 34 := fun e => ht 18 _ (by omega) rfl (congrArg some e.symm)
        have h19 : t ≠ 35 := fun e => ht 19 _ (by omega) rfl (congrArg some e.symm)
        by_cases h49 : 49 ≤ t
        · rw [Array.getElem?_eq_none (by simpa using h49), Array.getElem?_eq_none (by simpa using h49)]
        · have hc : t = 0 ∨ t = 1 ∨ t = 2 ∨ t = 3 ∨ t = 4 ∨ t = 5 ∨ t = 6 ∨ t = 7 ∨ t = 8 ∨ t = 9 ∨ t = 10 ∨ t = 11 ∨ t = 12 ∨ t = 13 ∨ t = 14 ∨ t = 15 ∨ t = 36 ∨ t = 37 ∨ t = 38 ∨ t = 39 ∨ t = 40 ∨ t = 41 ∨ t = 42 ∨ t = 43 ∨ t = 44 ∨ t = 45 ∨ t = 46 ∨ t = 47 ∨ t = 48 := by omega
          clear ht h0 h1 h2 h3 h4 h5 h6 h7 h8 h9 h10 h11 h12 h13 h14 h15 h16 h17 h18 h19 h49
          rcases hc with rfl | rfl | rfl | rfl | rfl | rfl | rfl | rfl | rfl | rfl | rfl | rfl | rfl | rfl | rfl | rfl | rfl | rfl | rfl | rfl | rfl | rfl | rfl | rfl | rfl | rfl | rfl | rfl | rfl
          all_goals rfl
      case last =>
        intro o ho
        cases ho
        refine ⟨fun _ _ => trivial, ?_⟩
        rw [Oper.semAt_eq _ _ _ (by intro c h; cases h)]
        go_simp
        have hmd : Mems W.drew m B Mp K := ⟨HL.out.1.is.only ((Only.refl [] W).drew) (by simp), HL.out.1.few, HL.out.1.two⟩
        refine ((CallsIn.inRound l (callsIn_wide.2 (Last_e m B Mp K (f x.val) qq (HF.out _ x.isLt) (by have := HL.out.2.2.2.2.2.2.2; have h2 : qq < ln + 1 := by { rw [HL.out.2.2.2.2.2.2.1]; exact Nat.mod_lt _ (by omega) }; omega) W.drew hmd (Nat.le_trans HH.out.2.1 (by omega))))).mono ?_)
        rintro e W5 ⟨⟨y, rfl⟩, M', p1, ⟨p2, p4, p5⟩, p3⟩
        have hO : Only [B.ib, B.lb] W W5 := ((Only.refl [B.ib, B.lb] W).drew).trans p2 (fun y hy => Or.inl hy)
        have hib : ∀ y, y ∈ [B.ib, B.lb] → y ∈ footM m B M0 := fun y hy => by
          simp at hy
          rcases hy with rfl | rfl <;> simp [footM]
        have hlo : ∀ y, y ∈ [B.ib, B.lb] → y < w.heap.size := fun y hy => HP.out.1 y (hib y hy)
        have hWs := HI.out.only.size
        have hJ5 : CrJ w m B M0 K n (.slice (some ⟨kg, ko, none⟩) 2 kc) W2.heap.size W5 := by
          refine ⟨Nat.le_trans HI.out.sz hO.size, ⟨M', _, p1, HL.out.2.1.trans (by rw [p3]; exact evict_cut (MAok.of HL.out.1.is) _ _), by rw [p3]; exact HL.out.2.2.1.evict _ _, fun y hy => HL.out.2.2.2.1 y (p4 y hy), p5.trans HL.out.2.2.2.2.1⟩, HI.out.only.trans hO (fun y hy => Or.inl (hib y hy)), hO.blk HI.out.bM (fun hm => ?_), hO.blk HI.out.bK (fun hm => ?_)⟩
          · have := hlo _ hm; omega
          · have := hlo _ hm; omega
        have hKF : KeepsFrom W2.heap.size W W5 := ⟨hO.size, fun i o hB hi ho => (hO.block i (Array.getElem?_eq_some_iff.1 hi).1 (fun hm => by have := hlo i hm; have := HP.out.2; omega)).trans hi⟩
        have hKM : KeepN [B.ib, B.lb] W2.heap.size W W5 := KeepN.only hO HI.out.sz
        exact ⟨hKF, hKM, hJ5⟩
      case run =>
        intro i o hi ho
        obtain rfl | rfl | rfl | rfl | rfl | rfl | rfl | rfl | rfl | rfl | rfl | rfl | rfl | rfl | rfl | rfl | rfl | rfl | rfl | rfl : i = 0 ∨ i = 1 ∨ i = 2 ∨ i = 3 ∨ i = 4 ∨ i = 5 ∨ i = 6 ∨ i = 7 ∨ i = 8 ∨ i = 9 ∨ i = 10 ∨ i = 11 ∨ i = 12 ∨ i = 13 ∨ i = 14 ∨ i = 15 ∨ i = 16 ∨ i = 17 ∨ i = 18 ∨ i = 19 := by omega
        all_goals
          cases ho
          refine ⟨rfl, (by intro cs b h; cases h), (by intro c h; cases h), _, _, rfl, ?_, rfl⟩
          go_simp
        rw [field_row hl0]
        rfl
  case done =>
    rintro D xs W hD _ hI hK
    have HI := hid hI
    have hc0 := hI.bM.cell 0
    obtain ⟨Mp, Kc, hM, hC, hR, hFt, hV⟩ := hI.mem
    obtain ⟨nn, hnn⟩ : ∃ nn, nn = Mp.image.length := ⟨_, rfl⟩
    have hc1 : W.cell? ⟨m, 1, none⟩ = some (.slice (some ⟨B.ib, 0, none⟩) nn B.ic) := by
      have := hM.is.blk.cell 1
      rw [hnn, hM.is.len]; exact this
    obtain ⟨W7, hW7⟩ : ∃ W7, W7 = W.drew := ⟨_, rfl⟩
    have hO7 : Only [] W W7 := by rw [hW7]; exact (Only.refl [] W).drew
    have hM7 := hM.is.only hO7 (by simp)
    have CL := hid (CloneW_at B.ib B.ic Mp.image W7 hM7.image (by rw [hM7.len]; exact hM7.pos) (by rw [hM7.len]; exact hM7.big))
    rw [← hnn] at CL
    have HM := hid (⟨hM, hC, hR, hFt, hV, hM7, hO7, hK, hnn⟩ : _ ∧ _ ∧ _ ∧ _ ∧ _ ∧ _ ∧ _ ∧ _ ∧ _)
    have HW7 := hid hW7
    clear hI hM hC hR hFt hV hM7 hO7 hK hnn hW7
    gi_wp2_with fail
    refine wpIn_wide.2 ?_
    have e0 : W7.cell? ⟨w.heap.size, 0, none⟩ = some (ptrV m) := by rw [HW7.out]; exact hc0
    have e1 : W7.cell? ⟨m, 1, none⟩ = some (.slice (some ⟨B.ib, 0, none⟩) nn B.ic) := by rw [HW7.out]; exact hc1
    go_region_held3 (fun w' => w'.cell? ⟨w.heap.size, 0, none⟩ = some (ptrV m) ∧ w'.cell? ⟨m, 1, none⟩ = some (.slice (some ⟨B.ib, 0, none⟩) nn B.ic)) (first | (with_reducible exact ⟨e0, e1⟩) | (with_reducible exact ⟨b9w, b91⟩) | (with_reducible exact ⟨b8w, b81⟩) | go_keep)
      ((go_at_call 78; rw [← HW7.out]; refine CL.out.mono ?_; rintro e W8 ⟨g8, c8, rfl, q1, q2, q3⟩; have b8 := (Only.of_below q3 []).blk HM.out.2.2.2.2.2.1.blk (by simp); have H8 := hid (⟨q1, q2, q3, b8⟩ : _ ∧ _ ∧ _ ∧ _); have b80 : W8.cell? ⟨m, 0, none⟩ = some (.slice (some ⟨B.vb, 0, none⟩) Mp.view.length B.vc) := b8.cell 0; have b8f := b8.frozen 0; have b81 : W8.cell? ⟨m, 1, none⟩ = some (.slice (some ⟨B.ib, 0, none⟩) nn B.ic) := ((Only.of_below q3 []).cell (p := ⟨m, 1, none⟩) (World.block_lt_of_cell? W7 _ e1) (by simp)).trans e1; have b8w : W8.cell? ⟨w.heap.size, 0, none⟩ = some (ptrV m) := ((Only.of_below q3 []).cell (p := ⟨w.heap.size, 0, none⟩) (World.block_lt_of_cell? W7 _ e0) (by simp)).trans e0; have b9w : (W8.setCell ⟨m, 0, none⟩ (.slice (some ⟨g8, 0, none⟩) nn c8)).cell? ⟨w.heap.size, 0, none⟩ = some (ptrV m) := (((Only.refl [m] W8).setCell (Or.inl (by simp)) _).cell (p := ⟨w.heap.size, 0, none⟩) (World.block_lt_of_cell? W8 _ b8w) (by have := HP.out.1 m (by simp [footM]); simp; omega)).trans b8w; have b91 : (W8.setCell ⟨m, 0, none⟩ (.slice (some ⟨g8, 0, none⟩) nn c8)).cell? ⟨m, 1, none⟩ = some (.slice (some ⟨B.ib, 0, none⟩) nn B.ic) := by { have := (b8.set_ 0 (.slice (some ⟨g8, 0, none⟩) nn c8)).cell 1; rw [HM.out.2.2.2.2.2.2.2.2, HM.out.1.is.len] at *; exact this }; clear q1 q2 q3 b8))
    have bm : Blk W8 m 133 (memC B Mp.view.length Mp.st) := H8.out.2.2.2
    have b92 : (W8.setCell ⟨m, 0, none⟩ (.slice (some ⟨g8, 0, none⟩) nn c8)).cell? ⟨m, 2, none⟩ = some (.map (some B.lb)) := (bm.set_ 0 (.slice (some ⟨g8, 0, none⟩) nn c8)).cell 2
    clear bm
    generalize hW9 : W8.setCell ⟨m, 0, none⟩ (.slice (some ⟨g8, 0, none⟩) nn c8) = W9 at b9w b91 b92 ⊢
    have HW9 := hid hW9
    clear hW9 b80 b8f b81 b8w e0 e1 hc0 hc1
    have hne : B.lb ≠ m := fun e => by
      have := HM.out.1.is.apart
      simp [footM, e] at this
    have O89 : Only [m] W8 W9 := by rw [← HW9.out]; exact (Only.refl [m] W8).setCell (Or.inl (by simp)) _
    have O79 : Only [m] W7 W9 := ((Only.of_below H8.out.2.2.1 [m])).trans O89 (fun y hy => Or.inl hy)
    have hmp9 : W9.heap[B.lb]? = some (.map (Mp.lines.map lineE).toArray Mp.clock) := (O79.block _ (HM.out.2.2.2.2.2.1.foot_lt _ (by simp [footM])) (by simpa using hne)).trans HM.out.2.2.2.2.2.1.map
    have hclr : (Builtin.clear_ #[129] 0 #[.map (some B.lb)]).run Tryz.prog W9 = .ok (.tuple #[]) (W9.putObj B.lb (.map #[] Mp.clock)) := clear_lines hmp9
    have HO := hid (⟨O89, O79, hmp9, hne⟩ : _ ∧ _ ∧ _ ∧ _)
    clear O89 O79 hmp9 hne
    gi_wp2_with fail
    have hK := HM.out.2.2.2.2.2.2.2.1
    have hDl := (Array.getElem?_eq_some_iff.1 hK).1
    have hm' := HP.out.1 m (by simp [footM])
    have hlb' := HP.out.1 B.lb (by simp [footM])
    have hs7 : W7.heap.size = W.heap.size := by rw [HW7.out]; rfl
    have hs2 := HI.out.sz
    have hK9 : (W9.putObj B.lb (.map #[] Mp.clock)).heap[D]? = some (.deferred (some [])) := by
      have h1 : W7.heap[D]? = some (.deferred (some [])) := by rw [HW7.out]; exact hK
      have h2 := (HO.out.2.1.block D (by omega) (by have := HP.out.2; simp; omega)).trans h1
      exact (World.putObj_heap_other (by have := HP.out.2; omega)).trans h2
    refine ⟨by simp, .inl ⟨_, _, rfl, run_takeDeferred hK9, ?_⟩⟩
    have hp2 := HP.out.2
    have O9 : Only [B.lb, D] W9 ((W9.putObj B.lb (.map #[] Mp.clock)).putObj D (.deferred none)) := Only.putObj (Only.putObj (Only.refl _ _) (Or.inl (by simp)) _) (Or.inl (by simp)) _
    have O8 : Only [m, B.lb, D] W8 ((W9.putObj B.lb (.map #[] Mp.clock)).putObj D (.deferred none)) := (HO.out.1.mono (fun y hy => by simp at hy ⊢; exact Or.inl hy)).trans O9 (fun y hy => Or.inl (by simp at hy ⊢; exact Or.inr hy))
    have O7 : Only [m, B.lb, D] W7 ((W9.putObj B.lb (.map #[] Mp.clock)).putObj D (.deferred none)) := (Only.of_below H8.out.2.2.1 _).trans O8 (fun y hy => Or.inl hy)
    have hg8 := H8.out.2.1
    have hib' := HP.out.1 B.ib (by simp [footM])
    have hap := HM.out.1.is.apart
    simp only [footM, List.nodup_cons, List.mem_cons, not_or] at hap
    have b9 : Blk W9 m 133 (memC ⟨g8, c8, B.ib, B.ic, B.lb⟩ nn Mp.st) := by
      rw [← HW9.out]
      have := H8.out.2.2.2.set_ 0 (.slice (some ⟨g8, 0, none⟩) nn c8)
      rw [← HM.out.1.is.len, ← HM.out.2.2.2.2.2.2.2.2] at this
      exact this
    have hpos : 0 < Mp.image.length := by rw [HM.out.1.is.len]; exact HM.out.1.is.pos
    refine ⟨_, results_none rfl _ _ _, ⟨_, rfl⟩, ⟨⟨g8, c8, B.ib, B.ic, B.lb⟩, ⟨Mp.image, Mp.image, [], Mp.clock, Mp.st⟩, ⟨?_, hpos, by rw [HM.out.1.is.len]; exact HM.out.1.is.big, rfl, H8.out.1.only O8 (by simp; omega), HM.out.2.2.2.2.2.1.image.only O7 (by simp; exact ⟨fun e => hap.1.2.1 e.symm, hap.2.2.1.1, by omega⟩), ?_, fun L hL => (by cases hL), fun L hL => (by cases hL), List.Pairwise.nil, List.Pairwise.nil, fun L hL => (by cases hL), ?_⟩, ?_⟩, ?_⟩
    · have := O9.blk b9 (by simp; omega)
      rw [HM.out.2.2.2.2.2.2.2.2] at this
      exact this
    · exact (World.putObj_heap_other (by first | (dsimp only; omega) | (show B.lb ≠ D; omega) | (show D ≠ B.lb; omega))).trans (putObj_at (w := W9) HO.out.2.2.1)
    · show (m :: g8 :: B.ib :: B.lb :: []).Nodup
      simp
      refine ⟨⟨by omega, hap.1.2.1, hap.1.2.2.1⟩, ⟨by omega, by omega⟩, hap.2.2.1.1⟩
    · exact HM.out.2.1.cutI (by show Mp.image.length = _; rw [HM.out.1.is.len, HM.out.2.2.2.2.1]; exact HH.out.2.2.2) HM.out.2.2.1.im
    · refine (HI.out.only.trans HM.out.2.2.2.2.2.2.1 (fun y hy => by cases hy)).trans O7 (fun y hy => ?_)
      simp at hy
      rcases hy with rfl | rfl | rfl
      · exact Or.inl (by simp [footM])
      · exact Or.inl (by simp [footM])
      · exact Or.inr (by omega)
  case stop => rintro D c0 pre W hD hpre h hK; exact h.elim

end Go.Proofs.YtbkaemajjaiklaaGreat
