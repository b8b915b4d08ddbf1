/- A map as a list: each key once. -/
import Derived.Test.YtbkaemajjaiklaaGreatSlabA
import Derived.Maps.RangeRun
import Derived.Test.YtbkaemajjaiklaaGreatSlabM
import Derived.Test.YtbkaemajjaiklaaGreatRef5
import Derived.Test.YtbkaemajjaiklaaGreatRefM

namespace Go.Proofs.YtbkaemajjaiklaaGreat
open Go.RowKit
set_option linter.unusedVariables false
set_option linter.unusedSimpArgs false

/-- each address has one who has it -/
def UniqA (has : List (Int × Int)) : Prop := (has.map (·.1)).Nodup
theorem UniqA.get {has : List (Int × Int)} (hu : UniqA has) {a v : Int} (h : (a, v) ∈ has) : isGet has a = v := by
  induction has with
  | nil => cases h
  | cons p l ih =>
    unfold UniqA at hu ih
    rw [List.map_cons, List.nodup_cons] at hu
    show (if p.1 = a then p.2 else isGet l a) = v
    rcases List.mem_cons.1 h with rfl | h1
    · rw [if_pos rfl]
    · rw [if_neg, ih hu.2 h1]
      intro e
      exact hu.1 (e ▸ List.mem_map.2 ⟨_, h1, rfl⟩)
theorem UniqA.filter {has : List (Int × Int)} (hu : UniqA has) (p : Int × Int → Bool) : UniqA (has.filter p) := hu.sublist (List.filter_sublist.map _)
theorem UniqA.set {has : List (Int × Int)} (hu : UniqA has) (a v : Int) : UniqA (isSet has a v) := by
  by_cases hm : a ∈ has.map (·.1)
  · obtain ⟨pre, u, post, p1, p2, p3, p4⟩ := is_split hm
    rw [p4 v]
    unfold UniqA at hu ⊢
    rw [p1] at hu
    simpa using hu
  · rw [isSet_not hm]
    unfold UniqA at hu ⊢
    rw [List.map_append, List.nodup_append]
    refine ⟨hu, by simp, fun x hx y hy => ?_⟩
    simp at hy
    rintro rfl
    exact hm (hy ▸ hx)

end Go.Proofs.YtbkaemajjaiklaaGreat

/- Blocks: those that are used; a slab's class; no room. -/
namespace Go.Proofs.YtbkaemajjaiklaaGreat
open Go.RowKit
set_option linter.unusedVariables false
set_option linter.unusedSimpArgs false

attribute [local go_sem ↓ high] append_shut2
attribute [local go_sem] appM2_run

/-- an entry that is used -/
def usedF (e : MapEntry) : Option Int :=
  match e.key, e.val with
  | .int .u64 a, .int .i64 v => if v = 2 ∨ v = 3 then some a else none
  | _, _ => none
theorem usedF_view : ∀ (l : List MapEntry) (has : List (Int × Int)), l.map viewE = has.map isV → l.filterMap usedF = has.filterMap fun p => if p.2 = 2 ∨ p.2 = 3 then some p.1 else none
  | [], [], _ => rfl
  | [], _ :: _, h => by simp at h
  | _ :: _, [], h => by simp at h
  | e :: l, p :: has, h => by
    simp only [List.map_cons, List.cons.injEq] at h
    have ih := usedF_view l has h.2
    have h1 : e.key = .int .u64 p.1 ∧ e.val = .int .i64 p.2 := by
      have := h.1
      unfold viewE isV at this
      exact ⟨congrArg Prod.fst this, congrArg Prod.snd this⟩
    rw [List.filterMap_cons, List.filterMap_cons, ih]
    unfold usedF
    rw [h1.1, h1.2]
theorem view_entry {l : List MapEntry} {has : List (Int × Int)} (h : l.map viewE = has.map isV) {e : MapEntry} (he : e ∈ l) : ∃ a v, e.key = .int .u64 a ∧ e.val = .int .i64 v := by
  have h1 : viewE e ∈ has.map isV := h ▸ List.mem_map.2 ⟨e, he, rfl⟩
  obtain ⟨p, hp, h2⟩ := List.mem_map.1 h1
  exact ⟨p.1, p.2, (congrArg Prod.fst h2).symm, (congrArg Prod.snd h2).symm⟩
def usedA (is : List (Int × Int)) : List Int := is.filterMap fun p => if p.2 = 2 ∨ p.2 = 3 then some p.1 else none

set_option maxRecDepth 100000 in
set_option maxHeartbeats 2000000 in
theorem Used_s (N : Nat) (B : SB) (V : Nat → Value) (size : Int) (A : SA) (n : Nat) (w : World) (h : SlabIs w N B V size A) (hl : A.hd.length = 1 + n) (hn : 1 ≤ n ∧ n ≤ 64) (hm : A.is.length ≤ 500000) :
    Calls Tryz.prog 40 #[.pointer (some ⟨B.s, 0, none⟩)] w fun e w' => (∃ (v : Value) (ys : List Int), e = .returned v ∧ ys.Perm (usedA A.is) ∧ ys.Pairwise (· ≤ ·) ∧ w'.ownsRow w.heap.size 24 1 v ys.length (ys.map (Value.int .u64))) ∧ Below w.heap.size w w' := by
  have HT := hid (sthere_z _ n w (HasSlabs.of h hl hn))
  have hd : decide (0 < n) = true := decide_eq_true (by omega)
  rw [hd] at HT
  obtain ⟨es, ck, hmp, hvw, hborn⟩ := h.mp
  have y1 : w.cell? ⟨B.s, 6, none⟩ = some (.map (some B.m)) := h.st.cell 6
  have hrg := run_range_map (P := Tryz.prog) w 91 24 3 B.m es ck Tryz.underlying91 hmp
  have hml : B.m < w.heap.size := (Array.getElem?_eq_some_iff.1 hmp).1
  obtain ⟨r, hr⟩ : ∃ r, r = w.heap.size := ⟨_, rfl⟩
  obtain ⟨W2, hW2⟩ : ∃ W2, W2 = w.alloc (.mapIter (some B.m) ck #[] ck) := ⟨_, rfl⟩
  have hB1 : Below w.heap.size w W2 := by rw [hW2]; exact ba (Below.refl _ _) _
  have I2 : Hid (W2.heap[r]? = some (.mapIter (some B.m) ck #[] ck)) := by
    show W2.heap[r]? = _
    rw [hW2, hr]; exact heap_alloc_new _ _
  have M2 : Hid (W2.heap[B.m]? = some (.map es ck)) := (hB1.block _ hml).trans hmp
  have HB2 := hid hB1
  have HVW := hid hvw
  have HBO := hid hborn
  have HR := hid hr
  have HML := hid hml
  have hel : es.toList.length = A.is.length := by have := congrArg List.length hvw; simpa using this
  have HEL := hid (show es.toList.length ≤ 500000 by omega)
  clear h hl hn hm hd hmp hvw hborn hB1 hml hel
  go_enter Tryz.func40, Tryz.ntmps40
  go_wp2_with fail
  refine (HT.out).mono ?_
  rintro e w1 ⟨rfl, rfl⟩
  go_wp2
  rw [← hW2, ← hr]
  clear hW2 hr y1 hrg
  go_loopw [2, 3, 4] (fun vo _ _ wr => ∃ (seen : Array Nat) (got : List Int), Hid (wr.heap[r]? = some (.mapIter (some B.m) ck seen ck)) ∧ Hid (wr.heap[B.m]? = some (.map es ck)) ∧ Hid (got.Perm (gotM usedF es.toList seen)) ∧
    Hid (wr.ownsRow w.heap.size 24 1 vo got.length (got.map (Value.int .u64))) ∧ Hid (vo.ownBlock ≠ some r) ∧ Hid (Below w.heap.size w wr)) (fun _ _ _ wr => (leftOf es (wr.iterSeen r)).size)
  case atStart => exact ⟨#[], [], I2, M2, (by rw [gotM_none] : ([] : List Int).Perm (gotM usedF es.toList #[])), World.ownsRow_nil _ _ _ _, (by simp [Value.ownBlock] : (Value.slice none 0 0).ownBlock ≠ some r), HB2⟩
  case round =>
    obtain ⟨seen, got, hI, hM, hP, hO, hNr, hB⟩ := hrel
    rcases run_next_at (P := Tryz.prog) wr 0 r B.m ck ck seen es ck hI.out hM.out (fun x hx => HBO.out.2 _ (List.mem_map.2 ⟨x, hx, rfl⟩)) (Nat.le_refl _) with ⟨h0, hrun⟩ | ⟨e, he, w1, hw1, hrun⟩
    · have hall := hid (gotM_all usedF es seen h0)
      have hgl : got.length ≤ 1000000000 := by have h1 := hP.out.length_eq; have h2 := gotM_len usedF es.toList seen; have := HEL.out; omega
      have HS := hid (SortOwn_s hO.out hgl)
      clear h0 hgl
      go_wp2_with fail
      refine HS.out.mono ?_
      rintro e w5 ⟨⟨rv, rfl⟩, ys, p1, p2, p3, p4, p5⟩
      have hfin : Hid (ys.Perm (usedA A.is)) := by
        show ys.Perm (usedA A.is)
        unfold usedA
        rw [← usedF_view _ _ HVW.out, ← hall.out]
        exact p1.trans hP.out
      have hyl : got.length = ys.length := p1.length_eq.symm
      have H2 := hid p2
      have H3 := hid p3
      have HYL := hid hyl
      have HB5 : Hid (Below w.heap.size w w5) := by
        rcases p5 with ⟨_, rfl⟩ | ⟨g, n', cap', _, hbg, ho⟩
        · exact hB
        · exact hB.out.trans (ho.below (by simpa using hbg) hB.out.size)
      clear p1 p2 p3 p4 p5 HS hyl
      go_wp2
      go_ret
      exact ⟨⟨_, ys, rfl, hfin.out, H2.out, by rw [← HYL.out]; exact H3.out⟩, HB5.out⟩
    · obtain ⟨a, v, hka, hva⟩ := view_entry HVW.out (mem_left he).1
      have hsh := hid (left_shrinks es seen e he)
      have hit := hid hI.out
      obtain ⟨W3, hW3⟩ : ∃ W3, W3 = w1.putObj r (.mapIter (some B.m) ck (seen.push e.born) ck) := ⟨_, rfl⟩
      replace hrun : (Instr.next (.pointer (some ⟨r, 0, none⟩)) false 0).run Tryz.prog wr = .ok (.tuple #[.bool true, e.key, e.val]) W3 := by rw [hW3]; exact hrun
      have hon1 : Only [r] wr w1 := by rcases hw1 with rfl | rfl; exact Only.refl _ _; exact (Only.refl _ _).drew
      have hon : Only [r] wr W3 := by rw [hW3]; exact Only.putObj hon1 (Or.inl (by simp)) _
      have hI3 : Hid (W3.heap[r]? = some (.mapIter (some B.m) ck (seen.push e.born) ck)) := by
        rw [hW3]
        exact putObj_at (w := w1) (o := .mapIter (some B.m) ck seen ck) (by rcases hw1 with rfl | rfl <;> exact hI.out)
      have hM3 : Hid (W3.heap[B.m]? = some (.map es ck)) := (hon.block _ (Array.getElem?_eq_some_iff.1 hM.out).1 (by have := HML.out; have := HR.out; simp; omega)).trans hM.out
      have hB3 : Hid (Below w.heap.size w W3) := hB.out.trans (hon.below (by have := HR.out; simp; omega) hB.out.size)
      have hO3 : Hid (W3.ownsRow w.heap.size 24 1 u2 got.length (got.map (Value.int .u64))) := hon.own hO.out (fun k hk hm => hNr.out (by rw [hk, List.mem_singleton.1 hm]))
      have hent := run_entry_at (P := Tryz.prog) W3 r B.m ck seen es ck e hI3.out hM3.out (mem_left he).1 HBO.out.1
      have hpush := hid (gotM_push usedF HBO.out.1 (mem_left he).1 (mem_left he).2)
      have hF : usedF e = if v = 2 ∨ v = 3 then some a else none := by unfold usedF; rw [hka, hva]
      rw [hka, hva] at hrun hent
      have HF := hid hF
      have HGL : Hid (got.length ≤ 500000) := by show got.length ≤ 500000; have h1 := hP.out.length_eq; have h2 := gotM_len usedF es.toList seen; have := HEL.out; omega
      clear hw1 hW3 hon hon1 hI hM hB hO he hka hva hF
      have put : v = 2 ∨ v = 3 → Hid (∃ v' w', appRun2 Tryz.prog #[51, 51] 51 #[u2, .slice (some ⟨W3.heap.size, 0, none⟩) 1 1] (W3.alloc (.cells #[.int .u64 a] 24)) = .ok v' w' ∧
          w'.heap[r]? = some (.mapIter (some B.m) ck (seen.push e.born) ck) ∧ w'.heap[B.m]? = some (.map es ck) ∧ (got ++ [a]).Perm (gotM usedF es.toList (seen.push e.born)) ∧ w'.ownsRow w.heap.size 24 1 v' (got ++ [a]).length ((got ++ [a]).map (Value.int .u64)) ∧ v'.ownBlock ≠ some r ∧ Below w.heap.size w w') := fun hv => by
        have hx : NewsAt (W3.alloc (.cells #[.int .u64 a] 24)) (.slice (some ⟨W3.heap.size, 0, none⟩) 1 1) [a].length ([a].map (Value.int .u64)) := Or.inr ⟨W3.heap.size, 0, 1, rfl, fun j u hj => by
          rw [(Blk.new W3 24 #[.int .u64 a]).cell (0 + j), Nat.zero_add]; simpa using hj⟩
        have hb3 := hB3.out.size
        obtain ⟨v', w', q1, q2, q3, q4⟩ := app_addr w.heap.size _ _ got [a] u2 hx (by have := HGL.out; simp; omega) (by simp; omega) (hO3.out.alloc (.cells #[.int .u64 a] 24))
        have ho4 : Only u2.ownBlock.toList W3 w' := (((Only.refl _ W3).alloc (.cells #[.int .u64 a] 24))).trans (Only.of_grown (f := u2.ownBlock.toList) q3 (fun k hk => by simp [hk])) (fun x hx => Or.inl hx)
        have hrl := (Array.getElem?_eq_some_iff.1 hI3.out).1
        have hml := (Array.getElem?_eq_some_iff.1 hM3.out).1
        have hbase := own_base hO3.out
        refine ⟨v', w', q1, (ho4.block r hrl (fun hm => hNr.out (by simpa using hm))).trans hI3.out, (ho4.block B.m hml (fun hm => ?_)).trans hM3.out, ?_, q2, ?_, hB3.out.trans (ho4.below (fun x hx => hbase x (by simpa using hx)) hB3.out.size)⟩
        · have := hbase B.m (by simpa using hm)
          have := HML.out
          omega
        · have h1 := hpush.out
          rw [HF.out, if_pos hv] at h1
          exact (hP.out.append_right [a]).trans h1.symm
        · rcases q4 with e4 | e4
          · rw [e4]; exact hNr.out
          · rw [e4]; intro hc; injection hc with hc; simp at hc; omega
      by_cases h2 : v = 2
      · have e2 : (v == 2) = true := by simp [h2]
        obtain ⟨v', w', q1, q2, q3, q4, q5, q6, q7⟩ := (put (Or.inl h2)).out
        have Q2 := hid q2
        have Q3 := hid q3
        have Q4 := hid q4
        have Q5 := hid q5
        have Q6 := hid q6
        have Q7 := hid q7
        clear h2 put q2 q3 q4 q5 q6 q7
        go_wp2
        go_roundw
        case rel => exact ⟨seen.push e.born, got ++ [a], Q2, Q3, Q4, Q5, Q6, Q7⟩
        case measure =>
          have h1 : w'.iterSeen r = seen.push e.born := by unfold World.iterSeen; rw [Q2.out]
          have h2 : wr.iterSeen r = seen := by unfold World.iterSeen; rw [hit.out]
          rw [h1, h2]
          exact hsh.out
      · have e2 : (v == 2) = false := by simp [h2]
        by_cases h3 : v = 3
        · have e3 : (v == 3) = true := by simp [h3]
          obtain ⟨v', w', q1, q2, q3, q4, q5, q6, q7⟩ := (put (Or.inr h3)).out
          have Q2 := hid q2
          have Q3 := hid q3
          have Q4 := hid q4
          have Q5 := hid q5
          have Q6 := hid q6
          have Q7 := hid q7
          clear h2 h3 put q2 q3 q4 q5 q6 q7
          go_wp2
          go_roundw
          case rel => exact ⟨seen.push e.born, got ++ [a], Q2, Q3, Q4, Q5, Q6, Q7⟩
          case measure =>
            have h1 : w'.iterSeen r = seen.push e.born := by unfold World.iterSeen; rw [Q2.out]
            have h2 : wr.iterSeen r = seen := by unfold World.iterSeen; rw [hit.out]
            rw [h1, h2]
            exact hsh.out
        · have e3 : (v == 3) = false := by simp [h3]
          have Q4 : Hid (got.Perm (gotM usedF es.toList (seen.push e.born))) := by
            have h1 := hpush.out
            rw [HF.out, if_neg (by omega)] at h1
            exact hP.out.trans (by simpa using h1.symm)
          clear h2 h3 put
          go_wp2
          go_roundw
          case rel => exact ⟨seen.push e.born, got, hI3, hM3, Q4, hO3, hNr, hB3⟩
          case measure =>
            have h1 : W3.iterSeen r = seen.push e.born := by unfold World.iterSeen; rw [hI3.out]
            have h2 : wr.iterSeen r = seen := by unfold World.iterSeen; rw [hit.out]
            rw [h1, h2]
            exact hsh.out

/-- a slab's class; none beyond -/
def clsZ (A : SA) (i : Int) : Int := if 1 ≤ i ∧ i < (A.hd.length : Int) then clsOf A i.toNat else 0

set_option maxRecDepth 100000 in
set_option maxHeartbeats 1000000 in
theorem Class_s (N : Nat) (B : SB) (V : Nat → Value) (size : Int) (A : SA) (i : Int) (n : Nat) (w : World) (h : SlabIs w N B V size A) (hl : A.hd.length = 1 + n) (hn : 1 ≤ n ∧ n ≤ 64) :
    Calls Tryz.prog 13 #[.pointer (some ⟨B.s, 0, none⟩), .int .i64 i] w fun e w' => e = .returned (.int .i64 (clsZ A i)) ∧ w = w' := by
  have HT := hid (sthere_z _ n w (HasSlabs.of h hl hn))
  have hd : decide (0 < n) = true := decide_eq_true (by omega)
  rw [hd] at HT
  obtain ⟨L, hL⟩ : ∃ L, L = A.hd.length := ⟨_, rfl⟩
  have yh : w.cell? ⟨B.s, 1, none⟩ = some (.slice (some ⟨B.h, 0, none⟩) L L) := by have := h.ch; rw [← hL] at this; exact this
  by_cases h1 : i < 1
  · have d1 : decide (i < 1) = true := decide_eq_true h1
    have hr : Hid (clsZ A i = 0) := by show clsZ A i = 0; unfold clsZ; rw [if_neg (by omega)]
    clear h hL hl hn hd
    go_enter Tryz.func13, Tryz.ntmps13
    go_wp2_with fail
    refine (HT.out).mono ?_
    rintro e w1 ⟨rfl, rfl⟩
    go_wp2
    go_ret
    exact ⟨by rw [hr.out]; rfl, rfl⟩
  · have d1 : decide (i < 1) = false := decide_eq_false h1
    by_cases h2 : (L : Int) ≤ i
    · have d2 : decide ((L : Int) ≤ i) = true := decide_eq_true h2
      have d2' : decide (i ≥ (L : Int)) = true := decide_eq_true h2
      have hr : Hid (clsZ A i = 0) := by show clsZ A i = 0; unfold clsZ; rw [if_neg (by omega)]
      clear h hL hl hn hd
      go_enter Tryz.func13, Tryz.ntmps13
      go_wp2_with fail
      refine (HT.out).mono ?_
      rintro e w1 ⟨rfl, rfl⟩
      go_wp2
      go_ret
      exact ⟨by rw [hr.out]; rfl, rfl⟩
    · obtain ⟨k, rfl⟩ : ∃ k : Nat, i = (k : Int) := ⟨i.toNat, by omega⟩
      have d2 : decide ((L : Int) ≤ (k : Int)) = false := decide_eq_false h2
      have d2' : decide ((k : Int) ≥ (L : Int)) = false := decide_eq_false h2
      have hkl : k < A.hd.length := by omega
      obtain ⟨q, hq⟩ : ∃ q, q = A.hd[k].1 := ⟨_, rfl⟩
      have yc : w.cell? ⟨B.h, k * 2, none⟩ = some (.int .i64 q) := by
        rw [h.hdr.cell, show k * 2 = 2 * k by omega, List.getElem?_toArray, hq]
        exact (headC_get A.hd k hkl).1
      have hr : Hid (clsZ A (k : Int) = q) := by
        show clsZ A (k : Int) = q
        unfold clsZ clsOf
        rw [if_pos (by omega), Int.toNat_natCast, List.getD_eq_getElem?_getD, List.getElem?_eq_getElem hkl, hq]; rfl
      have k0 : (0 : Int) ≤ (k : Int) := by omega
      have k1 : (k : Int) < (L : Int) := by omega
      clear h hL hl hn hd hq hkl
      go_enter Tryz.func13, Tryz.ntmps13
      go_wp2_with fail
      refine (HT.out).mono ?_
      rintro e w1 ⟨rfl, rfl⟩
      go_wp2
      go_ret
      exact ⟨by rw [hr.out]; rfl, rfl⟩

set_option maxRecDepth 100000 in
theorem Room_no (v : Value) (c : Int) (w : World) (hc : ¬ (1 ≤ c ∧ c ≤ 3)) :
    Calls Tryz.prog 16 #[v, .int .i64 c] w fun e w' => e = .returned (.int .i64 0) ∧ Below w.heap.size w w' := by
  have hz : blocksZ c = 0 := by unfold blocksZ; rw [if_neg (by omega), if_neg (by omega), if_neg (by omega)]
  have HB := Blocks_z c w
  rw [hz] at HB
  have HBZ := hid HB
  clear HB hz hc
  go_enter Tryz.func16, Tryz.ntmps16
  go_wp2
  go_step3
  go_wp2_with fail
  refine HBZ.out.mono ?_
  rintro e w1 ⟨rfl, hb1⟩
  have HB1 := hid hb1
  clear hb1
  go_wp2
  try rw [Exit.noGoto_ret]
  go_ret
  exact ⟨rfl, HB1.out⟩

end Go.Proofs.YtbkaemajjaiklaaGreat
