/- (*model.Map).place: sort.Search over the keys. -/
import Derived.Test.YtdhnacajgmjmlaaClone
import Derived.Deep.QuietTactic
import Derived.BigQuiet
namespace Go.Proofs.Ytdhnacajgmjmlaa
open Go.RowKit
set_option linter.unusedVariables false

/-- the pairs rise by their keys -/
def Rises (ps : PairL) : Prop := ∀ i j (h1 : i < j) (h2 : j < ps.length), (ps[i]'(by omega)).1 < ps[j].1
/-- how many keys are less than k -/
def placeI (k : Int) : PairL → Nat
  | [] => 0
  | p :: ps => if p.1 < k then placeI k ps + 1 else 0
theorem placeI_le (k : Int) (ps : PairL) : placeI k ps ≤ ps.length := by
  induction ps with
  | nil => exact Nat.le_refl _
  | cons p ps ih => simp only [placeI]; split <;> simp <;> omega
theorem placeI_of {k : Int} {ps : PairL} (i : Nat) (hi : i ≤ ps.length) (h1 : ∀ j (h : j < ps.length), j < i → ps[j].1 < k) (h2 : ∀ j (h : j < ps.length), j = i → k ≤ ps[j].1) : placeI k ps = i := by
  induction ps generalizing i with
  | nil => simp at hi; simp [placeI, hi]
  | cons p ps ih =>
    simp only [placeI]
    cases i with
    | zero =>
      have := h2 0 (by simp) rfl
      simp at this
      rw [if_neg (by omega)]
    | succ i =>
      have := h1 0 (by simp) (by omega)
      simp at this
      rw [if_pos this, ih i (by simpa using hi) (fun j h hj => by have := h1 (j + 1) (by simpa using h) (by omega); simpa using this) (fun j h hj => by have := h2 (j + 1) (by simpa using h) (by omega); simpa using this)]
theorem placeI_lt {k : Int} {ps : PairL} (j : Nat) (h : j < ps.length) (hj : j < placeI k ps) : ps[j].1 < k := by
  induction ps generalizing j with
  | nil => simp at h
  | cons p ps ih =>
    simp only [placeI] at hj
    split at hj
    · cases j with
      | zero => simpa
      | succ j => simpa using ih j (by simpa using h) (by omega)
    · omega
theorem placeI_ge {k : Int} {ps : PairL} (h : placeI k ps < ps.length) : k ≤ ps[placeI k ps].1 := by
  induction ps with
  | nil => simp at h
  | cons p ps ih =>
    by_cases hp : p.1 < k
    · have e : placeI k (p :: ps) = placeI k ps + 1 := by simp [placeI, hp]
      have h' : placeI k ps < ps.length := by rw [e] at h; simpa using h
      have := ih h'
      simp only [e, List.getElem_cons_succ]; exact this
    · have e : placeI k (p :: ps) = 0 := by simp [placeI, hp]
      simp only [e, List.getElem_cons_zero]; omega

def geB (a b : Int) : Bool := decide (b ≤ a)

set_option maxRecDepth 100000 in
set_option maxHeartbeats 1000000 in
theorem PlaceFits (m g n cap B1 B2 : Nat) (ps : PairL) (key : Int) (k : Nat) (w : World) (hm : w.cell? ⟨m, 0, none⟩ = some (.slice (some ⟨g, 0, none⟩) n cap)) (hk : k < ps.length) (hl : ps.length = n) (hn : n ≤ 1000000)
    (h1 : w.cell? ⟨B1, 0, none⟩ = some (.pointer (some ⟨m, 0, none⟩))) (h2 : w.cell? ⟨B2, 0, none⟩ = some (.int .u64 key)) (hc : w.cell? ⟨g, k * 2, none⟩ = some (.int .u64 ps[k].1)) :
    Calls Try.prog 93 #[.int .i64 k, .pointer (some ⟨B1, 0, none⟩), .pointer (some ⟨B2, 0, none⟩)] w fun e w' => e = .returned (.bool (geB ps[k].1 key)) ∧ ∃ q, w' = w.drewN q := by
  have i1 : (0 : Int) ≤ (k : Int) := by omega
  have i2 : (k : Int) < (n : Int) := by omega
  go_enter Try.func93, Try.ntmps93
  go_wp2
  go_region
  go_wp2
  go_ret
  exact ⟨rfl, 1, rfl⟩

set_option maxRecDepth 100000 in
set_option maxHeartbeats 2000000 in
theorem Search_place (m g n cap B1 B2 : Nat) (ps : PairL) (key : Int) (w : World) (hm : w.cell? ⟨m, 0, none⟩ = some (.slice (some ⟨g, 0, none⟩) n cap)) (hl : ps.length = n) (hn : n ≤ 1000000)
    (h1 : w.cell? ⟨B1, 0, none⟩ = some (.pointer (some ⟨m, 0, none⟩))) (h2 : w.cell? ⟨B2, 0, none⟩ = some (.int .u64 key)) (hc : ∀ k (hk : k < ps.length), w.cell? ⟨g, k * 2, none⟩ = some (.int .u64 ps[k].1)) (hr : Rises ps) :
    Calls Try.prog 92 #[.int .i64 n, .func (.func 93) #[] #[.pointer (some ⟨B1, 0, none⟩), .pointer (some ⟨B2, 0, none⟩)]] w fun e w' => e = .returned (.int .i64 (placeI key ps)) ∧ ∃ q, w' = w.drewN q := by
  have HM := hid hm
  have H1 := hid h1
  have H2 := hid h2
  have HC := hid hc
  have HR := hid hr
  clear hm h1 h2 hc hr
  go_enter Try.func92, Try.ntmps92
  go_wp2_with fail
  go_loopw [5, 6, 7] (fun i j _ wr => ∃ a b : Nat, a ≤ b ∧ b ≤ n ∧ i = .int .i64 a ∧ j = .int .i64 b ∧ (∃ q, wr = w.drewN q) ∧ Hid (∀ x (hx : x < ps.length), x < a → ps[x].1 < key) ∧ Hid (∀ x (hx : x < ps.length), b ≤ x → key ≤ ps[x].1)) (fun i j _ _ => (intOf j - intOf i).toNat)
  case atStart => exact ⟨0, n, by omega, by omega, rfl, rfl, ⟨0, rfl⟩, fun x _ h => by omega, fun x hx h => by omega⟩
  case round =>
    obtain ⟨a, b, hab, hb, rfl, rfl, ⟨q, rfl⟩, hA, hB⟩ := hrel
    by_cases hlt : a < b
    · obtain ⟨c, hc⟩ : ∃ c, c = (a + b) / 2 := ⟨_, rfl⟩
      have hce : ((a : Int) + b) / 2 = (c : Int) := by omega
      have hc1 : a ≤ c := by omega
      have hc2 : c < b := by omega
      have hc3 : c < ps.length := by omega
      have HCE := hid hce
      clear hce hc
      cases hg : geB (ps[c]'hc3).1 key with
      | true =>
        have hB' : Hid (∀ x (hx : x < ps.length), c ≤ x → key ≤ ps[x].1) := fun x hx h => by
          have h0 : key ≤ (ps[c]'hc3).1 := by simpa [geB] using hg
          by_cases hxc : x = c
          · subst hxc; exact h0
          · have := HR.out c x (by omega) hx; omega
        clear hB
        go_wp2_with fail
        rw [HCE.out]
        refine (PlaceFits m g n cap B1 B2 ps key c (w.drewN q) HM.out hc3 hl hn H1.out H2.out (HC.out c hc3)).mono ?_
        rintro e w2 ⟨rfl, q', rfl⟩
        go_wp2
        refine ⟨⟨a, c, by omega, by omega, rfl, rfl, ⟨_, rfl⟩, hA, hB'⟩, by simp [intOf]; omega⟩
      | false =>
        have hA' : Hid (∀ x (hx : x < ps.length), x < c + 1 → ps[x].1 < key) := fun x hx h => by
          have h0 : (ps[c]'hc3).1 < key := by simpa [geB] using hg
          by_cases hxc : x = c
          · subst hxc; exact h0
          · have := HR.out x c (by omega) hc3; omega
        clear hA
        go_wp2_with fail
        rw [HCE.out]
        refine (PlaceFits m g n cap B1 B2 ps key c (w.drewN q) HM.out hc3 hl hn H1.out H2.out (HC.out c hc3)).mono ?_
        rintro e w2 ⟨rfl, q', rfl⟩
        go_wp2
        refine ⟨⟨c + 1, b, by omega, by omega, by go_num, rfl, ⟨_, rfl⟩, hA', hB⟩, by simp [intOf]; omega⟩
    · have hz := hid (placeI_of (k := key) (ps := ps) a (by omega) (fun j h hj => hA.out j h hj) (fun j h hj => hB.out j h (by omega)))
      clear hA hB
      go_wp2
      go_ret
      exact ⟨by rw [hz.out]; rfl, q, rfl⟩

set_option maxRecDepth 100000 in
set_option maxHeartbeats 1000000 in
theorem Search_zero (f : Value) (w : World) : Calls Try.prog 92 #[.int .i64 0, f] w fun e w' => e = .returned (.int .i64 0) ∧ w = w' := by
  go_enter Try.func92, Try.ntmps92
  go_wp2_with fail
  go_loopw [5, 6, 7] (fun i j _ wr => i = .int .i64 0 ∧ j = .int .i64 0 ∧ wr = w) (fun _ _ _ _ => 0)
  case atStart => exact ⟨rfl, rfl, rfl⟩
  case round =>
    obtain ⟨rfl, rfl, rfl⟩ := hrel
    go_wp2
    go_ret
    exact ⟨rfl, rfl⟩

def placeB (k : Int) (ps : PairL) : Bool := match ps[placeI k ps]? with | some p => p.1 == k | none => false
theorem placeB_in {k : Int} {ps : PairL} (h : placeI k ps < ps.length) : placeB k ps = (ps[placeI k ps].1 == k) := by
  unfold placeB; rw [List.getElem?_eq_getElem h]
theorem placeB_out {k : Int} {ps : PairL} (h : ¬ placeI k ps < ps.length) : placeB k ps = false := by
  unfold placeB; rw [List.getElem?_eq_none (by omega)]

/-- a map of the program: its object, its row, its pairs -/
structure MapIs (w : World) (m : Nat) (v : Value) (ps : PairL) : Prop where
  obj : Blk w m 100 #[v]
  row : w.ownsRow 0 52 2 v ps.length (pc ps)
  rises : Rises ps
  few : ps.length ≤ 1000000
theorem MapIs.ne_ {w : World} {m : Nat} {v : Value} {ps : PairL} (h : MapIs w m v ps) : v.ownBlock ≠ some m := by
  rcases h.row.2 with ⟨rfl, _⟩ | ⟨g, cap, cur, rfl, _, hg, _⟩
  · simp [Value.ownBlock]
  · intro he
    have : g = m := by simpa [Value.ownBlock] using he
    subst this
    exact Blk.ne_ (t := 52) hg h.obj (by decide) rfl
theorem MapIs.only {f : List Nat} {w w' : World} {m : Nat} {v : Value} {ps : PairL} (h : MapIs w m v ps) (ho : Only f w w') (hm : m ∉ f) (hv : ∀ k, v.ownBlock = some k → k ∉ f) : MapIs w' m v ps :=
  ⟨ho.blk h.obj hm, ho.own h.row hv, h.rises, h.few⟩
theorem MapIs.bel {w w' : World} {m : Nat} {v : Value} {ps : PairL} (h : MapIs w m v ps) (hb : Below w.heap.size w w') : MapIs w' m v ps :=
  h.only (Only.of_below hb []) (by simp) (by simp)

set_option maxRecDepth 100000 in
set_option maxHeartbeats 2000000 in
theorem place_nil (m : Nat) (key : Int) (w : World) (hm : Blk w m 100 #[.slice none 0 0]) :
    Calls Try.prog 61 #[.pointer (some ⟨m, 0, none⟩), .int .u64 key] w fun e w' => e = .returned (.tuple #[.int .i64 0, .bool false]) ∧ Below w.heap.size w w' := by
  have c0 : w.cell? ⟨m, 0, none⟩ = some (.slice none 0 0) := hm.cell 0
  have c1 := hm.lt
  have c2 : m ≠ w.heap.size := by omega
  have c3 : m ≠ w.heap.size + 1 := by omega
  clear hm
  go_enter Try.func61, Try.ntmps61
  go_wp2_with fail
  refine (Search_zero _ _).mono ?_
  rintro e w1 ⟨rfl, rfl⟩
  go_wp2
  go_quiet (fail)
  go_wp2
  go_ret2
  exact ⟨rfl, by (repeat (first | exact Below.refl _ _ | (refine ba ?_ _) | (refine Below.drew ?_) | (refine below_drewN ?_ _) | (refine Below.alloc ?_ (by first | omega | (simp; done) | (simp; omega)) _) | (refine Below.setCell ?_ (by first | omega | (simp; done) | (simp; omega)) _) | (refine bx ?_ (by assumption)) | (refine Below.trans ?_ (Below.mono (by assumption) (by first | omega | (simp; done) | (simp; omega))))))⟩

set_option maxRecDepth 100000 in
set_option maxHeartbeats 2000000 in
theorem place_some (m g n cap : Nat) (key : Int) (ps : PairL) (w : World) (h : MapIs w m (.slice (some ⟨g, 0, none⟩) n cap) ps) (hl : ps.length = n) :
    Calls Try.prog 61 #[.pointer (some ⟨m, 0, none⟩), .int .u64 key] w fun e w' => e = .returned (.tuple #[.int .i64 (placeI key ps), .bool (placeB key ps)]) ∧ Below w.heap.size w w' := by
  have hn := h.few
  have hrow := h.row
  rw [hl] at hrow
  have c0 : w.cell? ⟨m, 0, none⟩ = some (.slice (some ⟨g, 0, none⟩) n cap) := h.obj.cell 0
  have c1 := h.obj.lt
  have c2 : m ≠ w.heap.size := by omega
  have c3 : m ≠ w.heap.size + 1 := by omega
  have g1 : g < w.heap.size := by
    rcases hrow.2 with ⟨h1, _⟩ | ⟨g', cap', cur, h1, _, hg, _⟩
    · simp at h1
    · simp only [Value.slice.injEq, Option.some.injEq, Addr.mk.injEq, and_true, true_and] at h1
      obtain ⟨rfl, rfl⟩ := h1
      exact Blk.lt (t := 52) hg
  have hcell : ∀ k (hk : k < ps.length), ((w.alloc (.cells #[.pointer (some ⟨m, 0, none⟩)] 59)).alloc (.cells #[.int .u64 key] 29)).cell? ⟨g, k * 2, none⟩ = some (.int .u64 ps[k].1) := fun k hk => ca _ (ca _ (row_at hrow hl k hk).1)
  have HC := hid hcell
  have HR := hid h.rises
  have hple := placeI_le key ps
  obtain ⟨P, hP⟩ : ∃ P, P = placeI key ps := ⟨_, rfl⟩
  have HP := hid hP
  have hP1 : P ≤ n := by omega
  clear hcell
  go_enter Try.func61, Try.ntmps61
  go_wp2_with fail
  refine (Search_place m g n cap w.heap.size (w.heap.size + 1) ps key _ (by go_simp) hl (by omega) (by go_simp) (by go_simp) HC.out HR.out).mono ?_
  rintro e w2 ⟨rfl, q, rfl⟩
  rw [← HP.out]
  by_cases hlt : P < n
  · have hlt' : placeI key ps < ps.length := by omega
    have hcP := HC.out P (by omega)
    have hb := placeB_in hlt'
    have d1 : decide (P < n) = true := decide_eq_true hlt
    have i1 : (0 : Int) ≤ (P : Int) := by omega
    have i2 : (P : Int) < (n : Int) := by omega
    cases hk : (ps[placeI key ps]'hlt').1 == key with
    | true =>
      have hk' : ((ps[P]'(by omega)).1 == key) = true := by subst hP; exact hk
      rw [hk] at hb
      have HBB := hid hb
      clear hb hk hP hple
      go_wp2
      go_quiet (fail)
      go_wp2
      go_ret2
      exact ⟨by rw [HBB.out, ← HP.out]; rfl, by (repeat (first | exact Below.refl _ _ | (refine ba ?_ _) | (refine Below.drew ?_) | (refine below_drewN ?_ _) | (refine Below.alloc ?_ (by first | omega | (simp; done) | (simp; omega)) _) | (refine Below.setCell ?_ (by first | omega | (simp; done) | (simp; omega)) _) | (refine bx ?_ (by assumption)) | (refine Below.trans ?_ (Below.mono (by assumption) (by first | omega | (simp; done) | (simp; omega))))))⟩
    | false =>
      have hk' : ((ps[P]'(by omega)).1 == key) = false := by subst hP; exact hk
      rw [hk] at hb
      have HBB := hid hb
      clear hb hk hP hple
      go_wp2
      go_quiet (fail)
      go_wp2
      go_ret2
      exact ⟨by rw [HBB.out, ← HP.out]; rfl, by (repeat (first | exact Below.refl _ _ | (refine ba ?_ _) | (refine Below.drew ?_) | (refine below_drewN ?_ _) | (refine Below.alloc ?_ (by first | omega | (simp; done) | (simp; omega)) _) | (refine Below.setCell ?_ (by first | omega | (simp; done) | (simp; omega)) _) | (refine bx ?_ (by assumption)) | (refine Below.trans ?_ (Below.mono (by assumption) (by first | omega | (simp; done) | (simp; omega))))))⟩
  · have hb := placeB_out (k := key) (ps := ps) (by omega)
    have d1 : decide (P < n) = false := decide_eq_false hlt
    have HBB := hid hb
    clear hb hP hple
    go_wp2
    go_quiet (fail)
    go_wp2
    go_ret2
    exact ⟨by rw [HBB.out, ← HP.out]; rfl, by (repeat (first | exact Below.refl _ _ | (refine ba ?_ _) | (refine Below.drew ?_) | (refine below_drewN ?_ _) | (refine Below.alloc ?_ (by first | omega | (simp; done) | (simp; omega)) _) | (refine Below.setCell ?_ (by first | omega | (simp; done) | (simp; omega)) _) | (refine bx ?_ (by assumption)) | (refine Below.trans ?_ (Below.mono (by assumption) (by first | omega | (simp; done) | (simp; omega))))))⟩

theorem place_z (m : Nat) (v : Value) (key : Int) (ps : PairL) (w : World) (h : MapIs w m v ps) :
    Calls Try.prog 61 #[.pointer (some ⟨m, 0, none⟩), .int .u64 key] w fun e w' => e = .returned (.tuple #[.int .i64 (placeI key ps), .bool (placeB key ps)]) ∧ Below w.heap.size w w' := by
  rcases h.row.2 with ⟨rfl, h0⟩ | ⟨g, cap, cur, rfl, _⟩
  · have : ps = [] := List.eq_nil_of_length_eq_zero h0
    subst this
    exact place_nil m key w h.obj
  · exact place_some m g ps.length cap key ps w h rfl

end Go.Proofs.Ytdhnacajgmjmlaa
