/- An arena's bytes as the law lays them (leveelaw06.image). -/
import Derived.Deep.RegionHeld3
import Derived.Deep.OwnRows
import Derived.Test.YtbkaemajjaiklaaGreatPmX
import Derived.Test.YtbkaemajjaiklaaGreatRefM
import Derived.Test.YtbkaemajjaiklaaGreatSlabD
namespace Go.Proofs.YtbkaemajjaiklaaGreat
open Go.RowKit
set_option linter.unusedVariables false
set_option linter.unusedSimpArgs false

/-- a slice of headers -/
structure HeadsAt (w : World) (v : Value) (hs : List (Nat × Nat)) : Prop where
  at_ : ∃ ao cap, v = .slice ao hs.length cap ∧ (hs = [] ∨ ∃ b off, ao = some ⟨b, off, none⟩ ∧ b < w.heap.size ∧ ∀ i (h : i < hs.length), w.cell? ⟨b, off + i * 2, none⟩ = some (.int .u64 (hs[i].1 : Int)) ∧ w.cell? ⟨b, off + i * 2 + 1, none⟩ = some (.int .u64 (hs[i].2 : Int)))
  le : ∀ x ∈ hs, x.1 < 18446744073709551616 ∧ x.2 < 18446744073709551616
theorem HeadsAt.bel {w w' : World} {v : Value} {hs : List (Nat × Nat)} (h : HeadsAt w v hs) (hb : Below w.heap.size w w') : HeadsAt w' v hs := by
  obtain ⟨ao, cap, h1, h2⟩ := h.at_
  refine ⟨⟨ao, cap, h1, ?_⟩, h.le⟩
  rcases h2 with h2 | ⟨b, off, h3, h4, h5⟩
  · exact Or.inl h2
  · exact Or.inr ⟨b, off, h3, Nat.lt_of_lt_of_le h4 hb.size, fun i hi => ⟨(hb.cell (p := ⟨b, off + i * 2, none⟩) h4).trans (h5 i hi).1, (hb.cell (p := ⟨b, off + i * 2 + 1, none⟩) h4).trans (h5 i hi).2⟩⟩
/-- bytes that lie in a block of their own -/
def bytC (bs : List Int) : Array Value := (bs.map (Value.int .u8)).toArray
theorem bytC_set (bs : List Int) (i : Nat) (x : Int) : (bytC bs).setIfInBounds i (.int .u8 x) = bytC (bs.set i x) := by
  unfold bytC
  rw [setIf_toArray, List.map_set]
theorem bytC_get {bs : List Int} {i : Nat} (h : i < bs.length) : (bytC bs)[i]? = some (.int .u8 bs[i]) := by
  simp [bytC, h]
def isByte (bs : List Int) : Prop := ∀ x ∈ bs, 0 ≤ x ∧ x < 256
theorem isByte_set {bs : List Int} (h : isByte bs) (i : Nat) {x : Int} (hx : 0 ≤ x ∧ x < 256) : isByte (bs.set i x) := by
  intro y hy
  rcases List.mem_or_eq_of_mem_set hy with h1 | h1
  · exact h y h1
  · rw [h1]; exact hx
theorem word_ext {bs bs' : List Int} {a : Nat} (h : ∀ j, j < 8 → bs[a + j]? = bs'[a + j]?) : (bs.drop a).take 8 = (bs'.drop a).take 8 := by
  apply List.ext_getElem?
  intro j
  rw [List.getElem?_take, List.getElem?_take]
  split
  · rw [List.getElem?_drop, List.getElem?_drop]; exact h j (by assumption)
  · rfl
theorem word_is {bs : List Int} {a n : Nat} (hn : n < 18446744073709551616) (h : ∀ j, j < 8 → bs[a + j]? = some (byteN n j)) : (leW ((bs.drop a).take 8)).toNat = n := by
  have : (bs.drop a).take 8 = (List.range 8).map (byteN n) := by
    apply List.ext_getElem?
    intro j
    rw [List.getElem?_take, List.getElem?_map]
    split
    · rename_i hj
      rw [List.getElem?_drop, h j hj, List.getElem?_range hj]; rfl
    · rename_i hj
      rw [List.getElem?_eq_none (by simp; omega)]; rfl
  rw [this, leW_word hn, Int.toNat_natCast]
structure ImgTo (bs : List Int) (hs : List (Nat × Nat)) (k : Nat) : Prop where
  len : bs.length = 1024 * (hs.length + 1)
  byt : isByte bs
  ok : ∀ i (h : i < hs.length), i < k → clsAt bs (i + 1) = hs[i].1 ∧ bitAt bs (i + 1) = hs[i].2
/-- within a header: j bytes of each word are laid -/
structure ImgIn (bs : List Int) (hs : List (Nat × Nat)) (k j : Nat) (n m : Nat) : Prop where
  to : ImgTo bs hs k
  fst : ∀ i, i < j → bs[1024 * (k + 1) + i]? = some (byteN n i)
  snd : ∀ i, i < j → bs[1024 * (k + 1) + 8 + i]? = some (byteN m i)
theorem ImgIn.step {bs : List Int} {hs : List (Nat × Nat)} {k j n m : Nat} (h : ImgIn bs hs k j n m) (hk : k < hs.length) (hj : j < 8) : ImgIn ((bs.set (1024 * (k + 1) + j) (byteN n j)).set (1024 * (k + 1) + 8 + j) (byteN m j)) hs k (j + 1) n m := by
  have hl := h.to.len
  have hoth : ∀ p, p ≠ 1024 * (k + 1) + j → p ≠ 1024 * (k + 1) + 8 + j → ((bs.set (1024 * (k + 1) + j) (byteN n j)).set (1024 * (k + 1) + 8 + j) (byteN m j))[p]? = bs[p]? := fun p h1 h2 => by
    rw [List.getElem?_set_ne (Ne.symm h2), List.getElem?_set_ne (Ne.symm h1)]
  refine ⟨⟨by simpa using hl, isByte_set (isByte_set h.to.byt _ (byteN_le n j)) _ (byteN_le m j), fun i hi hik => ?_⟩, fun i hi => ?_, fun i hi => ?_⟩
  · obtain ⟨h1, h2⟩ := h.to.ok i hi hik
    constructor
    · rw [← h1]; unfold clsAt
      rw [word_ext (fun x hx => hoth _ (by omega) (by omega))]
    · rw [← h2]; unfold bitAt
      rw [word_ext (fun x hx => hoth _ (by omega) (by omega))]
  · by_cases e : i = j
    · subst e
      rw [List.getElem?_set_ne (by omega), List.getElem?_set_self (by omega)]
    · rw [hoth _ (by omega) (by omega)]; exact h.fst i (by omega)
  · by_cases e : i = j
    · subst e
      rw [List.getElem?_set_self (by simp; omega)]
    · rw [hoth _ (by omega) (by omega)]; exact h.snd i (by omega)
theorem ImgIn.done {bs : List Int} {hs : List (Nat × Nat)} {k : Nat} (hk : k < hs.length) (h : ImgIn bs hs k 8 hs[k].1 hs[k].2) (hle : hs[k].1 < 18446744073709551616 ∧ hs[k].2 < 18446744073709551616) : ImgTo bs hs (k + 1) := by
  refine ⟨h.to.len, h.to.byt, fun i hi hik => ?_⟩
  by_cases e : i = k
  · subst e
    exact ⟨word_is hle.1 h.fst, word_is hle.2 h.snd⟩
  · exact h.to.ok i hi (by omega)
/-- a box of eight noughts -/
def Box8 (v : World) (b : Nat) : Prop := (∀ j, j < 8 → v.cell? ⟨b, j, none⟩ = some (.int .u8 0)) ∧ (∀ j, v.frozen? ⟨b, j, none⟩ = false) ∧ b < v.heap.size ∧ b ≠ v.heap.size
theorem box8_of {v : World} {b : Nat} {t : TypeId} (h : Blk v b t #[Value.int .u8 0, .int .u8 0, .int .u8 0, .int .u8 0, .int .u8 0, .int .u8 0, .int .u8 0, .int .u8 0]) : Box8 v b := by
  refine ⟨fun j hj => ?_, h.frozen, h.lt, Nat.ne_of_lt h.lt⟩
  rw [h.cell]
  have : j = 0 ∨ j = 1 ∨ j = 2 ∨ j = 3 ∨ j = 4 ∨ j = 5 ∨ j = 6 ∨ j = 7 := by omega
  rcases this with rfl | rfl | rfl | rfl | rfl | rfl | rfl | rfl <;> rfl
theorem undrew8 {X v : World} (h : Below X.drew.heap.size X.drew v) : Below X.heap.size X v := ⟨h.os, h.tape, h.output, h.size, h.block⟩
theorem tr8 {X v : World} {o : Obj} (h : Below (X.alloc o).heap.size (X.alloc o) v) : Below X.heap.size X v := (ba (Below.refl _ X) o).trans (h.mono (by simp))
theorem box8A {X v : World} {t : TypeId} (h : Below (X.alloc (.cells #[Value.int .u8 0, .int .u8 0, .int .u8 0, .int .u8 0, .int .u8 0, .int .u8 0, .int .u8 0, .int .u8 0] t)).heap.size (X.alloc (.cells #[Value.int .u8 0, .int .u8 0, .int .u8 0, .int .u8 0, .int .u8 0, .int .u8 0, .int .u8 0, .int .u8 0] t)) v) : Box8 v X.heap.size := box8_of ((Blk.new X t _).bel h)
theorem box8B {X v : World} {t : TypeId} (h : Below ((X.alloc (.cells #[Value.int .u8 0, .int .u8 0, .int .u8 0, .int .u8 0, .int .u8 0, .int .u8 0, .int .u8 0, .int .u8 0] t)).alloc (.cells #[Value.int .u8 0, .int .u8 0, .int .u8 0, .int .u8 0, .int .u8 0, .int .u8 0, .int .u8 0, .int .u8 0] t)).heap.size ((X.alloc (.cells #[Value.int .u8 0, .int .u8 0, .int .u8 0, .int .u8 0, .int .u8 0, .int .u8 0, .int .u8 0, .int .u8 0] t)).alloc (.cells #[Value.int .u8 0, .int .u8 0, .int .u8 0, .int .u8 0, .int .u8 0, .int .u8 0, .int .u8 0, .int .u8 0] t)) v) : Box8 v X.heap.size := box8_of (((Blk.new X t _).alloc _).bel h)
theorem box8A2 {X v : World} {t : TypeId} (h : Below ((X.alloc (.cells #[Value.int .u8 0, .int .u8 0, .int .u8 0, .int .u8 0, .int .u8 0, .int .u8 0, .int .u8 0, .int .u8 0] t)).alloc (.cells #[Value.int .u8 0, .int .u8 0, .int .u8 0, .int .u8 0, .int .u8 0, .int .u8 0, .int .u8 0, .int .u8 0] t)).heap.size ((X.alloc (.cells #[Value.int .u8 0, .int .u8 0, .int .u8 0, .int .u8 0, .int .u8 0, .int .u8 0, .int .u8 0, .int .u8 0] t)).alloc (.cells #[Value.int .u8 0, .int .u8 0, .int .u8 0, .int .u8 0, .int .u8 0, .int .u8 0, .int .u8 0, .int .u8 0] t)) v) : Box8 v (X.heap.size + 1) := by
  have := (Blk.new (X.alloc (.cells #[Value.int .u8 0, .int .u8 0, .int .u8 0, .int .u8 0, .int .u8 0, .int .u8 0, .int .u8 0, .int .u8 0] t)) t #[Value.int .u8 0, .int .u8 0, .int .u8 0, .int .u8 0, .int .u8 0, .int .u8 0, .int .u8 0, .int .u8 0]).bel h
  rw [World.size_alloc] at this
  exact box8_of this
theorem box8T {X v : World} {b : Nat} (h : Below X.heap.size X v) (hx : Box8 X b) : Box8 v b :=
  ⟨fun j hj => (h.cell (p := ⟨b, j, none⟩) hx.2.2.1).trans (hx.1 j hj), fun j => (h.frozen (p := ⟨b, j, none⟩) hx.2.2.1).trans (hx.2.1 j), Nat.lt_of_lt_of_le hx.2.2.1 h.size, Nat.ne_of_lt (Nat.lt_of_lt_of_le hx.2.2.1 h.size)⟩
theorem box8T4 {X v : World} {b : Nat} (h : Below X.heap.size X v) (h1 : ∀ j, j < 8 → X.cell? ⟨b, j, none⟩ = some (.int .u8 0)) (h2 : ∀ j, X.frozen? ⟨b, j, none⟩ = false) (h3 : b < X.heap.size) (h4 : b ≠ X.heap.size) : Box8 v b := box8T h ⟨h1, h2, h3, h4⟩
theorem keepS {C1 C2 : World → Prop} {wr W : World} (h1 : ∀ W', Below wr.heap.size wr W' → C1 W') (h2 : ∀ W', Below wr.heap.size wr W' → C2 W') (h : Below wr.heap.size wr W) : C1 W ∧ C2 W ∧ Below wr.heap.size wr W := ⟨h1 W h, h2 W h, h⟩
theorem belR {A B : Prop} {wr X : World} (h : A ∧ B ∧ Below wr.heap.size wr X) : Below wr.heap.size wr X := h.2.2
theorem belS {A B : Prop} {wr X v : World} (hb : Below X.heap.size X v) (h : A ∧ B ∧ Below wr.heap.size wr X) : Below wr.heap.size wr v := h.2.2.trans (hb.mono h.2.2.size)
/-- two boxes of eight bytes each -/
structure TwoB (w : World) (b8 b9 n m : Nat) (W : World) : Prop where
  bel : Below w.heap.size w W
  c8 : ∀ j, j < 8 → W.cell? ⟨b8, j, none⟩ = some (.int .u8 (byteN n j))
  c9 : ∀ j, j < 8 → W.cell? ⟨b9, j, none⟩ = some (.int .u8 (byteN m j))
  lo : w.heap.size ≤ b8 ∧ w.heap.size ≤ b9
theorem wp_via {P : Program} {c : Code} {Q : Exit → Act → World → Prop} {a : Act} {w : World} (X : Nat → Nat → World → Prop) (tm : Nat → Nat → Act) (hF : ∀ b8 b9 W', X b8 b9 W' → Q .normal (tm b8 b9) W')
    (h : c.wp P (fun e a' W' => e = .normal ∧ ∃ b8 b9, a' = tm b8 b9 ∧ X b8 b9 W') a w) : c.wp P Q a w :=
  Code.wp_mono (fun e a' W' hx => by obtain ⟨rfl, b8, b9, rfl, hX⟩ := hx; exact hF b8 b9 W' hX) h

set_option maxRecDepth 100000 in
set_option maxHeartbeats 4000000 in
theorem image_z (v : Value) (hs : List (Nat × Nat)) (f : Int) (hf : 0 ≤ f ∧ f < 256) (hlen : hs.length ≤ 6) (w : World) (h : HeadsAt w v hs) :
    Calls Tryz.prog 9 #[v, .int .u8 f] w fun e w' => ∃ g bs, e = .returned (.slice (some ⟨g, 0, none⟩) bs.length bs.length) ∧ Blk w' g 5 (bytC bs) ∧ ImgTo bs hs hs.length ∧ w.heap.size ≤ g ∧ Below w.heap.size w w' := by
  obtain ⟨ao, cap, rfl, hat⟩ := h.at_
  obtain ⟨n, hn⟩ : ∃ n, n = hs.length := ⟨_, rfl⟩
  obtain ⟨N, hN⟩ : ∃ N, N = 1024 * (n + 1) := ⟨_, rfl⟩
  have hmk := run_make_row' (P := Tryz.prog) 26 5 (.int .u8 0) 1 Tryz.underlying26 (by kernel_rfl) rfl .i64 .i64 N (by omega) (by omega)
  rw [← hn]
  have e1 : (1024 : Int) + 1024 * (n : Int) = (N : Int) := by omega
  have e2 : 1024 * (n : Int) ≤ 6144 := by omega
  have e3 : (N : Int) ≤ 7168 := by omega
  have HH := hid h
  have HAT := hid hat
  have HN := hid hn
  have HNN := hid hN
  have HF := hid hf
  have hn6 : n ≤ 6 := by omega
  clear h hat hn hN hlen hf
  go_enter Tryz.func9, Tryz.ntmps9
  go_wp2_with fail
  rw [made_zeros]
  obtain ⟨g, hg⟩ : ∃ g, g = w.heap.size := ⟨_, rfl⟩
  have H0 : Hid (∃ bs, bs.length = N ∧ isByte bs ∧ Blk (w.alloc (.cells (Array.replicate N (.int .u8 0)) 5)) g 5 (bytC bs) ∧ Below w.heap.size w (w.alloc (.cells (Array.replicate N (.int .u8 0)) 5))) := by
    refine ⟨List.replicate N 0, List.length_replicate, fun x hx => by rw [List.eq_of_mem_replicate hx]; omega, ?_, ba (Below.refl _ _) _⟩
    rw [hg]
    have := Blk.new w 5 (Array.replicate N (.int .u8 0))
    rw [show bytC (List.replicate N 0) = Array.replicate N (.int .u8 0) by apply Array.ext'; simp [bytC]]
    exact this
  have HG := hid hg
  rw [← hg]
  clear hmk hg e1 e2
  go_loopw [6] (fun i wr => ∃ k : Nat, k ≤ N ∧ i = .int .i64 k ∧ Hid (∃ bs, bs.length = N ∧ isByte bs ∧ Blk wr g 5 (bytC bs) ∧ Below w.heap.size w wr)) (fun i _ => (N - (intOf i).toNat))
  case atStart => exact ⟨0, by omega, rfl, H0⟩
  case round =>
    obtain ⟨k, hk, rfl, hI⟩ := hrel
    by_cases hlt : k < N
    · have i1 : (0 : Int) ≤ (k : Int) := by omega
      have i2 : (k : Int) < (N : Int) := by omega
      obtain ⟨bs, hbl, hbb, hbk, hbel⟩ := hI.out
      obtain ⟨oc, y0⟩ : ∃ oc, wr.cell? ⟨g, k, none⟩ = some oc := ⟨_, by rw [hbk.cell]; exact bytC_get (by omega)⟩
      have yf := hbk.frozen k
      have hnx : Hid (∃ bs, bs.length = N ∧ isByte bs ∧ Blk (wr.setCell ⟨g, k, none⟩ (.int .u8 f)) g 5 (bytC bs) ∧ Below w.heap.size w (wr.setCell ⟨g, k, none⟩ (.int .u8 f))) := by
        refine ⟨bs.set k f, by simpa using hbl, isByte_set hbb _ HF.out, ?_, hbel.setCell (by show w.heap.size ≤ g; rw [HG.out]; exact Nat.le_refl _) _⟩
        rw [← bytC_set]; exact hbk.set_ k _
      clear hI hbl hbb hbk hbel
      go_wp2
      go_roundw
      case rel => exact ⟨k + 1, by omega, by go_num, hnx⟩
      case measure => simp [intOf]; omega
    · obtain rfl : k = N := by omega
      have HI2 : Hid (∃ bs, ImgTo bs hs 0 ∧ Blk wr g 5 (bytC bs) ∧ Below w.heap.size w wr) := by
        obtain ⟨bs, h1, h2, h3, h4⟩ := hI.out
        exact ⟨bs, ⟨by rw [h1, HNN.out, HN.out], h2, fun i hi hik => by omega⟩, h3, h4⟩
      clear hI H0 hk hlt
      go_wp2
      go_loopw [7] (fun i wr => ∃ t : Nat, t ≤ n ∧ i = .int .i64 t ∧ Hid (∃ bs, ImgTo bs hs t ∧ Blk wr g 5 (bytC bs) ∧ Below w.heap.size w wr)) (fun i _ => (n - (intOf i).toNat))
      case atStart => exact ⟨0, by omega, rfl, HI2⟩
      case round =>
        obtain ⟨t, ht, rfl, hI⟩ := hrel
        by_cases htl : t < n
        · have i1 : (0 : Int) ≤ (t : Int) := by omega
          have i2 : (t : Int) < (n : Int) := by omega
          obtain ⟨bs, him, hbk, hbel⟩ := hI.out
          have htl' : t < hs.length := by rw [← HN.out]; exact htl
          rcases HAT.out with h0 | ⟨b, off, rfl, hbl, hc⟩
          · rw [h0] at htl'; simp at htl'
          obtain ⟨c, hce⟩ : ∃ c, c = hs[t].1 := ⟨_, rfl⟩
          obtain ⟨d, hde⟩ : ∃ d, d = hs[t].2 := ⟨_, rfl⟩
          have hcell := hc t htl'
          rw [← hce, ← hde] at hcell
          have hle := HH.out.le _ (List.getElem_mem htl')
          rw [← hce, ← hde] at hle
          have hPC := Put_r c hle.1
          have hPD := Put_r d hle.2
          unfold putV at hPC hPD
          have HPC := hid hPC
          have HPD := hid hPD
          clear hPC hPD
          have hS : ∀ W', Below w.heap.size w W' → W'.cell? ⟨b, off + t * 2, none⟩ = some (.int .u64 (c : Int)) ∧ W'.cell? ⟨b, off + t * 2 + 1, none⟩ = some (.int .u64 (d : Int)) := fun W' hb => ⟨(hb.cell (p := ⟨b, off + t * 2, none⟩) hbl).trans hcell.1, (hb.cell (p := ⟨b, off + t * 2 + 1, none⟩) hbl).trans hcell.2⟩
          have HS := hid hS
          have HLE := hid hle
          have HCE := hid hce
          have HDE := hid hde
          have HIM := hid him
          have HIMB : Hid (∃ bs, ImgTo bs hs t ∧ Blk wr g 5 (bytC bs)) := ⟨bs, him, hbk⟩
          have HBK := hid hbk
          have HBEL := hid hbel
          have z1 : wr.drew.cell? ⟨b, off + t * 2, none⟩ = some (.int .u64 (c : Int)) := (hS wr hbel).1
          have z2 : wr.drew.cell? ⟨b, off + t * 2 + 1, none⟩ = some (.int .u64 (d : Int)) := (hS wr hbel).2
          have zb := hbl
          clear hS hle hce hde him hbk hbel hI hcell hc
          have HC1 : Hid (∀ W', Below wr.heap.size wr W' → W'.cell? ⟨b, off + t * 2, none⟩ = some (.int .u64 (c : Int))) := fun W' hb => (HS.out W' (HBEL.out.trans (hb.mono HBEL.out.size))).1
          have HC2 : Hid (∀ W', Below wr.heap.size wr W' → W'.cell? ⟨b, off + t * 2 + 1, none⟩ = some (.int .u64 (d : Int))) := fun W' hb => (HS.out W' (HBEL.out.trans (hb.mono HBEL.out.size))).2
          go_wp2_with fail
          refine wp_via (fun b8 b9 W' => TwoB wr b8 b9 c d W') (fun b8 b9 => { tmps := #[Value.slice (some ⟨b, off, none⟩) n cap, Value.int IntKind.u8 f, undef, undef, Value.slice none 0 0, Value.slice (some ⟨g, 0, none⟩) k k, Value.int IntKind.i64 ↑k, Value.int IntKind.i64 ↑t, Value.pointer (some ⟨b8, 0, none⟩), Value.pointer (some ⟨b9, 0, none⟩), u10, Value.slice (some ⟨b, off, none⟩) n cap, Value.int IntKind.i64 ↑n, Value.int IntKind.i64 (1024 * ↑n), Value.int IntKind.i64 ↑k, Value.slice (some ⟨g, 0, none⟩) k k, Value.int IntKind.i64 ↑k, Value.slice (some ⟨g, 0, none⟩) k k, Value.int IntKind.i64 ↑k, Value.bool false, u20, u21, u22, u23, u24, u25, Value.int IntKind.i64 ↑t, Value.slice (some ⟨b, off, none⟩) n cap, Value.int IntKind.i64 ↑n, Value.bool true, u30, u31, Value.slice (some ⟨b, off, none⟩) n cap, Value.int IntKind.i64 ↑t, Value.pointer (some ⟨b, off + t * 2, none⟩), Value.pointer (some ⟨b, off + t * 2, none⟩), Value.int IntKind.u64 ↑c, .agg #[.int .u8 (byteN c 0), .int .u8 (byteN c 1), .int .u8 (byteN c 2), .int .u8 (byteN c 3), .int .u8 (byteN c 4), .int .u8 (byteN c 5), .int .u8 (byteN c 6), .int .u8 (byteN c 7)], Value.slice (some ⟨b, off, none⟩) n cap, Value.int IntKind.i64 ↑t, Value.pointer (some ⟨b, off + t * 2, none⟩), Value.pointer (some ⟨b, off + t * 2 + 1, none⟩), Value.int IntKind.u64 ↑d, .agg #[.int .u8 (byteN d 0), .int .u8 (byteN d 1), .int .u8 (byteN d 2), .int .u8 (byteN d 3), .int .u8 (byteN d 4), .int .u8 (byteN d 5), .int .u8 (byteN d 6), .int .u8 (byteN d 7)], u44, u45, u46, u47, u48, u49, u50, u51, u52, u53, u54, u55, u56, u57, u58, u59, u60, u61, u62, u63, u64, u65, u66, u67, u68, undef], defers := [] }) ?_ ?_
          rotate_left
          · go_region_held3 (fun w' => w'.cell? ⟨b, off + t * 2, none⟩ = some (.int .u64 (c : Int)) ∧ w'.cell? ⟨b, off + t * 2 + 1, none⟩ = some (.int .u64 (d : Int)) ∧ Below wr.heap.size wr w') (((refine keepS HC1.out HC2.out ?_); (repeat (first | (with_reducible exact q2) | (with_reducible exact q1) | (with_reducible exact Below.refl _ _) | (with_reducible refine Below.drew ?_) | (with_reducible refine Below.setCell ?_ (by first | (with_reducible exact zq2) | (with_reducible exact zq1) | (with_reducible exact Nat.le_refl _) | (dsimp only; omega)) _) | (with_reducible refine ba ?_ _)))))
              (first
              | (go_at_call 43; (with_reducible refine (HPC.out _).mono ?_); rintro e v1 ⟨rfl, hb1⟩; have z1 := hb1.size; have q1 : Below wr.heap.size wr v1 := belS hb1 (by assumption); have zq1 := q1.size; (try (with_reducible have hb1 := undrew8 hb1)); (first | ((with_reducible have hh8 := box8B hb1); (obtain ⟨ya1, ya2, ya3, ya4⟩ := hh8); (with_reducible have hh8 := box8A2 hb1); (obtain ⟨ya5, ya6, ya7, ya8⟩ := hh8)) | ((with_reducible have hh8 := box8A hb1); (obtain ⟨ya1, ya2, ya3, ya4⟩ := hh8)) | skip))
              | (go_at_call 43; (with_reducible refine (HPD.out _).mono ?_); rintro e v2 ⟨rfl, hb2⟩; have z2 := hb2.size; have q2 : Below wr.heap.size wr v2 := belS hb2 (by assumption); have zq2 := q2.size; (try (with_reducible have hb2 := undrew8 hb2)); have hv12 : Below v1.heap.size v1 v2 := (by first | (with_reducible exact hb2) | (with_reducible exact tr8 hb2) | (with_reducible exact tr8 (tr8 hb2))); (first | ((with_reducible have hh8 := box8B hb2); (obtain ⟨yb1, yb2, yb3, yb4⟩ := hh8); (with_reducible have hh8 := box8A2 hb2); (obtain ⟨yb5, yb6, yb7, yb8⟩ := hh8)) | ((with_reducible have hh8 := box8A hb2); (obtain ⟨yb1, yb2, yb3, yb4⟩ := hh8)) | skip); (try ((with_reducible have hh8 := box8T4 hv12 ya1 ya2 ya3 ya4); (obtain ⟨yd1, yd2, yd3, yd4⟩ := hh8))); (try ((with_reducible have hh8 := box8T4 hv12 ya5 ya6 ya7 ya8); (obtain ⟨yd5, yd6, yd7, yd8⟩ := hh8)))))
            all_goals
              refine ⟨rfl, _, _, rfl, ⟨by with_reducible exact belR (by with_reducible assumption), fun j hj => ?_, fun j hj => ?_, ⟨by first | exact Nat.le_refl _ | exact zq1 | exact zq2 | omega, by first | exact Nat.le_refl _ | exact zq1 | exact zq2 | omega⟩⟩⟩
              all_goals
                have hj8 : j = 0 ∨ j = 1 ∨ j = 2 ∨ j = 3 ∨ j = 4 ∨ j = 5 ∨ j = 6 ∨ j = 7 := by omega
                rcases hj8 with rfl | rfl | rfl | rfl | rfl | rfl | rfl | rfl <;> go_simp
          · intro b8 b9 W1 h2
            have hin : ∃ bs, ImgIn bs hs t 0 c d ∧ Blk W1 g 5 (bytC bs) := HIMB.out.imp fun bs hx => ⟨⟨hx.1, fun i hi => by omega, fun i hi => by omega⟩, hx.2.bel h2.bel⟩
            obtain ⟨bs1, him1, hbk1⟩ := hin
            have H3 : Hid (∃ bs, ImgIn bs hs t 0 c d ∧ Blk W1 g 5 (bytC bs) ∧ Below w.heap.size w W1 ∧ (∀ j, j < 8 → W1.cell? ⟨b8, j, none⟩ = some (.int .u8 (byteN c j))) ∧ (∀ j, j < 8 → W1.cell? ⟨b9, j, none⟩ = some (.int .u8 (byteN d j)))) := ⟨bs1, him1, hbk1, HBEL.out.trans (h2.bel.mono HBEL.out.size), h2.c8, h2.c9⟩
            have hgl := HBK.out.lt
            have HB8 := hid (show b8 ≠ g ∧ b9 ≠ g by have := h2.lo; omega)
            clear him1 hbk1 h2 hgl z1 z2
            go_wp2
            go_loopw [10] (fun i W' => ∃ j : Nat, j ≤ 8 ∧ i = .int .i64 j ∧ Hid (∃ bs, ImgIn bs hs t j c d ∧ Blk W' g 5 (bytC bs) ∧ Below w.heap.size w W' ∧ (∀ j, j < 8 → W'.cell? ⟨b8, j, none⟩ = some (.int .u8 (byteN c j))) ∧ (∀ j, j < 8 → W'.cell? ⟨b9, j, none⟩ = some (.int .u8 (byteN d j))))) (fun i _ => (8 - (intOf i).toNat))
            case atStart => exact ⟨0, by omega, rfl, H3⟩
            case round =>
              obtain ⟨j, hj, rfl, hI⟩ := hrel
              clear H3
              by_cases hjl : j < 8
              · obtain ⟨bs2, him2, hbk2, hbel2, h8, h9⟩ := hI.out
                have hN' := HNN.out
                have hn' := HN.out
                have hlen2 : bs2.length = k := by rw [him2.to.len, ← hn', hN']
                obtain ⟨p1, hp1⟩ : ∃ p1, p1 = 1024 * (t + 1) + j := ⟨_, rfl⟩
                obtain ⟨p2, hp2⟩ : ∃ p2, p2 = 1024 * (t + 1) + 8 + j := ⟨_, rfl⟩
                have hstep := him2.step htl' hjl
                rw [← hp1, ← hp2] at hstep
                have q1 : 1024 * ((t : Int) + 1) + (j : Int) = (p1 : Int) := by omega
                have q2 : 1024 * ((t : Int) + 1) + 8 + (j : Int) = (p2 : Int) := by omega
                have q3 : 1024 * ((t : Int) + 1) ≤ 6144 := by omega
                have q4 : (0 : Int) ≤ (j : Int) := by omega
                have q5 : (j : Int) < 8 := by omega
                have q6 : (0 : Int) ≤ (p1 : Int) := by omega
                have q7 : (p1 : Int) < (k : Int) := by omega
                have q8 : (0 : Int) ≤ (p2 : Int) := by omega
                have q9 : (p2 : Int) < (k : Int) := by omega
                have qa : (p1 : Int) ≤ 8000 := by omega
                have qb : (p2 : Int) ≤ 8000 := by omega
                have y8 := h8 j hjl
                obtain ⟨o1, y1⟩ : ∃ o1, wr.cell? ⟨g, p1, none⟩ = some o1 := ⟨_, by rw [hbk2.cell]; exact bytC_get (by omega)⟩
                have f1 := hbk2.frozen p1
                have hbk3 := hbk2.set_ p1 (.int .u8 (byteN c j))
                have y9 : (wr.setCell ⟨g, p1, none⟩ (.int .u8 (byteN c j))).cell? ⟨b9, j, none⟩ = some (.int .u8 (byteN d j)) := (World.cell?_of_block (w := wr) (a := ⟨b9, j, none⟩) (Below.heap_setCell wr ⟨g, p1, none⟩ _ b9 HB8.out.2)).trans (h9 j hjl)
                obtain ⟨o2, y2⟩ : ∃ o2, (wr.setCell ⟨g, p1, none⟩ (.int .u8 (byteN c j))).cell? ⟨g, p2, none⟩ = some o2 := ⟨_, by rw [hbk3.cell, bytC_set]; exact bytC_get (by simp; omega)⟩
                have f2 := hbk3.frozen p2
                have hnx : Hid (∃ bs, ImgIn bs hs t (j + 1) c d ∧ Blk ((wr.setCell ⟨g, p1, none⟩ (.int .u8 (byteN c j))).setCell ⟨g, p2, none⟩ (.int .u8 (byteN d j))) g 5 (bytC bs) ∧ Below w.heap.size w ((wr.setCell ⟨g, p1, none⟩ (.int .u8 (byteN c j))).setCell ⟨g, p2, none⟩ (.int .u8 (byteN d j))) ∧ (∀ i, i < 8 → ((wr.setCell ⟨g, p1, none⟩ (.int .u8 (byteN c j))).setCell ⟨g, p2, none⟩ (.int .u8 (byteN d j))).cell? ⟨b8, i, none⟩ = some (.int .u8 (byteN c i))) ∧ (∀ i, i < 8 → ((wr.setCell ⟨g, p1, none⟩ (.int .u8 (byteN c j))).setCell ⟨g, p2, none⟩ (.int .u8 (byteN d j))).cell? ⟨b9, i, none⟩ = some (.int .u8 (byteN d i)))) := by
                  have hg : w.heap.size ≤ g := by rw [HG.out]; exact Nat.le_refl _
                  have hoth : ∀ (x i : Nat), x ≠ g → ((wr.setCell ⟨g, p1, none⟩ (.int .u8 (byteN c j))).setCell ⟨g, p2, none⟩ (.int .u8 (byteN d j))).cell? ⟨x, i, none⟩ = wr.cell? ⟨x, i, none⟩ := fun x i hx => World.cell?_of_block (w := wr) (a := ⟨x, i, none⟩) ((Below.heap_setCell _ ⟨g, p2, none⟩ _ x hx).trans (Below.heap_setCell wr ⟨g, p1, none⟩ _ x hx))
                  refine ⟨_, hstep, ?_, (hbel2.setCell hg _).setCell hg _, fun i hi => (hoth b8 i HB8.out.1).trans (h8 i hi), fun i hi => (hoth b9 i HB8.out.2).trans (h9 i hi)⟩
                  have := hbk3.set_ p2 (.int .u8 (byteN d j))
                  rw [bytC_set, bytC_set] at this
                  exact this
                clear hI him2 hbk2 hbel2 h8 h9 hlen2 hp1 hp2 hstep hbk3
                go_wp2
                go_roundw
                case rel => exact ⟨j + 1, by omega, by go_num, hnx⟩
                case measure => simp [intOf]; omega
              · obtain rfl : j = 8 := by omega
                have hnx : Hid (∃ bs, ImgTo bs hs (t + 1) ∧ Blk wr g 5 (bytC bs) ∧ Below w.heap.size w wr) := by
                  obtain ⟨bs2, him2, hbk2, hbel2, _⟩ := hI.out
                  rw [HCE.out, HDE.out] at him2
                  exact ⟨bs2, him2.done htl' (by rw [← HCE.out, ← HDE.out]; exact HLE.out), hbk2, hbel2⟩
                clear hI
                go_wp2
                go_roundw
                case rel => exact ⟨t + 1, by omega, by go_num, hnx⟩
                case measure => simp [intOf]; omega
        · obtain rfl : t = n := by omega
          obtain ⟨bs, him, hbk, hbel⟩ := hI.out
          have HR := hid (⟨him, hbk, hbel⟩ : _ ∧ _ ∧ _)
          clear hI him hbk hbel
          go_wp2
          go_ret
          refine ⟨g, bs, ?_, HR.out.2.1, HR.out.1, by rw [HG.out]; exact Nat.le_refl _, HR.out.2.2⟩
          have hl : bs.length = k := by rw [HR.out.1.len, ← HN.out, HNN.out]
          rw [hl]
          rfl

end Go.Proofs.YtbkaemajjaiklaaGreat
