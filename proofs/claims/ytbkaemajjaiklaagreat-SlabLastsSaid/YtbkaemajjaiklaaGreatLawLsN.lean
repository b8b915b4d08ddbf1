/- SlabPlays: the walk. -/
import Derived.Test.YtbkaemajjaiklaaGreatGameC
import Derived.Test.YtbkaemajjaiklaaGreatWholeK
import Derived.Test.YtbkaemajjaiklaaGreatOpensH
import Derived.Test.YtbkaemajjaiklaaGreatLastN
import Derived.Test.YtbkaemajjaiklaaGreatCrashN
import Derived.Test.YtbkaemajjaiklaaGreatOpensI

namespace Go.Proofs.YtbkaemajjaiklaaGreat
open Go.RowKit
set_option linter.unusedVariables false
set_option linter.unusedSimpArgs false

/-- acts handed in: kind, number, address, client -/
structure ActT where
  kd : Int
  nn : Int
  aa : Int
  cc : Int
def ActT.ok (x : ActT) : Prop := (-9223372036854775808 ≤ x.nn ∧ x.nn ≤ 9223372036854775807) ∧ 0 ≤ x.aa ∧ x.aa ≤ 18446744073709551615
structure ActsAt (w : World) (v : Value) (acts : List ActT) : Prop where
  at_ : ∃ ao cap, v = .slice ao acts.length cap ∧ (acts = [] ∨ ∃ b off, ao = some ⟨b, off, none⟩ ∧ b < w.heap.size ∧ ∀ i (h : i < acts.length), w.cell? ⟨b, off + i * 4, none⟩ = some (.int .i64 acts[i].kd) ∧ w.cell? ⟨b, off + i * 4 + 1, none⟩ = some (.int .i64 acts[i].nn) ∧ w.cell? ⟨b, off + i * 4 + 2, none⟩ = some (.int .u64 acts[i].aa) ∧ w.cell? ⟨b, off + i * 4 + 3, none⟩ = some (.int .i64 acts[i].cc))
  ok : ∀ x ∈ acts, x.ok
theorem ActsAt.bel {w w' : World} {v : Value} {acts : List ActT} (h : ActsAt w v acts) (hb : Below w.heap.size w w') : ActsAt w' v acts := by
  obtain ⟨ao, cap, rfl, hc⟩ := h.at_
  refine ⟨⟨ao, cap, rfl, ?_⟩, h.ok⟩
  rcases hc with h0 | ⟨b, off, rfl, hbl, hc⟩
  · exact Or.inl h0
  · refine Or.inr ⟨b, off, rfl, Nat.lt_of_lt_of_le hbl hb.size, fun i hi => ?_⟩
    obtain ⟨c0, c1, c2, c3⟩ := hc i hi
    exact ⟨(hb.cell (p := ⟨b, _, none⟩) hbl).trans c0, (hb.cell (p := ⟨b, _, none⟩) hbl).trans c1, (hb.cell (p := ⟨b, _, none⟩) hbl).trans c2, (hb.cell (p := ⟨b, _, none⟩) hbl).trans c3⟩
def okHd (x : Nat × Nat) : Bool := decide (x.1 ≤ 3) && mayBits x.2 (blocksZ x.1)
def fewG (hs : List (Nat × Nat)) (k most : Nat) : Bool := decide (1 ≤ hs.length ∧ hs.length ≤ 4) && decide (k ≤ most) && hs.all okHd
theorem headsOf {bs : List Int} {hs : List (Nat × Nat)} (h : ImgTo bs hs hs.length) {i : Nat} (hi : i < hs.length) : headOK bs (i + 1) = okHd hs[i] := by
  obtain ⟨h1, h2⟩ := h.ok i hi hi
  unfold headOK okHd
  rw [h1, h2]
theorem headsAll {bs : List Int} {hs : List (Nat × Nat)} (h : ImgTo bs hs hs.length) (hok : hs.all okHd = true) : ∀ i, 1 ≤ i → i ≤ hs.length → headOK bs i = true := by
  intro i h1 h2
  obtain ⟨j, rfl⟩ : ∃ j, i = j + 1 := ⟨i - 1, by omega⟩
  rw [headsOf h (show j < hs.length by omega)]
  rw [List.all_eq_true] at hok
  exact hok _ (List.getElem_mem _)
theorem headsNo {bs : List Int} {hs : List (Nat × Nat)} (h : ImgTo bs hs hs.length) (hok : hs.all okHd = false) : ∃ i, 1 ≤ i ∧ i ≤ hs.length ∧ headOK bs i = false := by
  rw [List.all_eq_false] at hok
  obtain ⟨x, hx, hn⟩ := hok
  obtain ⟨j, hj, rfl⟩ := List.mem_iff_getElem.1 hx
  exact ⟨j + 1, by omega, by omega, by rw [headsOf h hj]; simpa using hn⟩
theorem bytesOfG {w : World} {g : Nat} {bs : List Int} (h : Blk w g 5 (bytC bs)) (hb : isByte bs) : BytesIn w (some ⟨g, 0, none⟩) bs.length bs := by
  refine ⟨Nat.le_refl _, hb, fun _ => ⟨g, 0, rfl, h.lt, fun i x hx => ?_⟩⟩
  rw [Nat.zero_add, h.cell]
  unfold bytC
  rw [List.getElem?_toArray, List.getElem?_map, hx]; rfl

set_option maxRecDepth 100000 in
set_option maxHeartbeats 1000000 in
theorem fewG_r (v : Value) (hs : List (Nat × Nat)) (ao : Option Addr) (k cap most : Nat) (hm : most ≤ 1000) (w : World) (h : HeadsAt w v hs) :
    Calls Tryz.prog 17 #[v, .slice ao k cap, .int .i64 (most : Int)] w fun e w' => e = .returned (.bool (fewG hs k most)) ∧ Below w.heap.size w w' := by
  obtain ⟨ho, hcap, hv, _⟩ := h.at_
  by_cases h1 : hs.length < 1
  · have hf := hid (show fewG hs k most = false by unfold fewG; rw [decide_eq_false (by omega)]; rfl)
    subst hv
    obtain ⟨n, hn⟩ : ∃ n, n = hs.length := ⟨_, rfl⟩
    rw [← hn] at h1 ⊢
    have i1 : (n : Int) < 1 := by omega
    clear h hn h1
    go_enter Tryz.func17, Tryz.ntmps17
    go_wp2
    go_ret
    exact ⟨by rw [hf.out]; rfl, Below.refl _ _⟩
  by_cases h4 : hs.length > 4
  · have hf := hid (show fewG hs k most = false by unfold fewG; rw [decide_eq_false (by omega)]; rfl)
    subst hv
    obtain ⟨n, hn⟩ : ∃ n, n = hs.length := ⟨_, rfl⟩
    rw [← hn] at h1 h4 ⊢
    have i1 : ¬ (n : Int) < 1 := by omega
    have i2 : (n : Int) > 4 := by omega
    clear h hn h1 h4
    go_enter Tryz.func17, Tryz.ntmps17
    go_wp2
    go_ret
    exact ⟨by rw [hf.out]; rfl, Below.refl _ _⟩
  by_cases h5 : k > most
  · have hf := hid (show fewG hs k most = false by unfold fewG; rw [decide_eq_false (show ¬ k ≤ most by omega)]; simp)
    subst hv
    obtain ⟨n, hn⟩ : ∃ n, n = hs.length := ⟨_, rfl⟩
    rw [← hn] at h1 h4 ⊢
    have i1 : ¬ (n : Int) < 1 := by omega
    have i2 : ¬ (n : Int) > 4 := by omega
    have i3 : (k : Int) > (most : Int) := by omega
    clear h hn h1 h4 h5
    go_enter Tryz.func17, Tryz.ntmps17
    go_wp2
    go_ret
    exact ⟨by rw [hf.out]; rfl, Below.refl _ _⟩
  · have hI := hid (image_z v hs 0 (by omega) (by omega) w h)
    have hf := hid (show fewG hs k most = hs.all okHd by unfold fewG; rw [decide_eq_true (show 1 ≤ hs.length ∧ hs.length ≤ 4 by omega), decide_eq_true (show k ≤ most by omega)]; simp)
    have hlen : 1 ≤ hs.length ∧ hs.length ≤ 64 := by omega
    have HLEN := hid hlen
    subst hv
    obtain ⟨n, hn⟩ : ∃ n, n = hs.length := ⟨_, rfl⟩
    rw [← hn] at h1 h4 hI ⊢
    have i1 : ¬ (n : Int) < 1 := by omega
    have i2 : ¬ (n : Int) > 4 := by omega
    have i3 : ¬ (k : Int) > (most : Int) := by omega
    have HN := hid hn
    clear h hn h1 h4 h5 hlen
    go_enter Tryz.func17, Tryz.ntmps17
    go_wp2_with fail
    refine hI.out.mono ?_
    rintro e w1 ⟨g, bs, rfl, hbk, him, hlo, hb⟩
    rw [HN.out] at him
    have hR := ROf_r (some ⟨g, 0, none⟩) bs.length bs hs.length HLEN.out (by rw [him.len]) w1 (bytesOfG hbk him.byt)
    have HR := hid hR
    have HIM := hid him
    have HB := hid hb
    clear hR him hb hbk hlo
    go_wp2_with fail
    refine HR.out.mono ?_
    rintro e w2 hp
    have HB2 := hid (HB.out.trans (hp.bel.mono HB.out.size))
    cases hok : hs.all okHd
    · rw [hok] at hf
      obtain rfl := hp.no (headsNo HIM.out hok)
      clear hp
      go_wp2
      go_ret
      exact ⟨by rw [hf.out]; rfl, HB2.out⟩
    · rw [hok] at hf
      obtain ⟨gg, vC, vL, rfl, _⟩ := hp.yes (headsAll HIM.out hok)
      clear hp
      go_wp2
      go_ret
      exact ⟨by rw [hf.out]; rfl, HB2.out⟩

end Go.Proofs.YtbkaemajjaiklaaGreat

/- How a slice of acts is opened. -/
namespace Go.Proofs.YtbkaemajjaiklaaGreat
open Go.ChangeShapes Go.WideShapes Go.ChangeAt Go.RowKit Go.Joins Go.Deep
set_option linter.unusedVariables false
set_option linter.unusedSimpArgs false

section
variable {H : Type} {enc : TypeId × Value → H} {w : World} {base : Nat} {spare : Nat → Bool} {held : Bool}
theorem oneAct : ∀ {fs}, Tryz.prog.underlying 45 = some (.struct fs) → oneCellFields Tryz.prog fs = true ∧ fs.size = 4 ∧ (fs[0]?.map (·.type)) = some 3 ∧ (fs[1]?.map (·.type)) = some 3 ∧ (fs[2]?.map (·.type)) = some 24 ∧ (fs[3]?.map (·.type)) = some 3 := by
  intro fs h
  rw [Tryz.underlying45] at h
  injection h with h
  injection h with h
  subst h
  refine ⟨by kernel_rfl, rfl, rfl, rfl, rfl, rfl⟩
theorem cellsAct : Tryz.prog.cellsOf 45 = 4 := by kernel_rfl

set_option maxRecDepth 100000 in
theorem open_acts {r : Reach} {b0 : Nat} {v : Value} {d : DataW H} {p : List MemPlace} (hv : Value.okWide Tryz.prog w r b0 39 v) (h : DataW.Trod enc Tryz.prog w base spare held 39 v d p) :
    ∃ acts : List ActT, ActsAt w v acts ∧ acts.length ≤ 9223372036854775807 := by
  obtain ⟨fs, hfs⟩ : ∃ fs, Tryz.prog.underlying 45 = some (.struct fs) := ⟨_, Tryz.underlying45⟩
  obtain ⟨hone, hsz, t0, t1, t2, t3⟩ := oneAct hfs
  have hC : Tryz.prog.cellsOf 45 = fs.size := by rw [hsz]; exact cellsAct
  have h0 : 0 < fs.size := by omega
  obtain ⟨ao, n, cap, rfl, hn, hc⟩ := open_rows Tryz.underlying39 hfs hone hC h0 hv h
  rcases hc with ⟨rfl, hnil⟩ | ⟨b, off, rfl, hb, hc⟩
  · exact ⟨[], ⟨⟨ao, cap, rfl, Or.inl rfl⟩, fun x hx => by cases hx⟩, by simp⟩
  rw [hsz] at hc
  have hf : ∀ j, j < 4 → ∃ f, fs[j]? = some f := fun j hj => ⟨fs[j]'(by omega), Array.getElem?_eq_getElem (by omega)⟩
  have ints : ∀ i, i < n → ∀ (j : Nat), j = 0 ∨ j = 1 ∨ j = 3 → ∃ z : Int, (-9223372036854775808 ≤ z ∧ z ≤ 9223372036854775807) ∧ w.cell? ⟨b, off + i * 4 + j, none⟩ = some (.int .i64 z) := by
    intro i hi j hj
    obtain ⟨f, hfj⟩ := hf j (by omega)
    obtain ⟨x, y, m, h1, h2⟩ := hc i hi j f hfj
    have ht : f.type = 3 := by
      rcases hj with rfl | rfl | rfl
      · rw [hfj] at t0; simpa using t0
      · rw [hfj] at t1; simpa using t1
      · rw [hfj] at t3; simpa using t3
    rw [ht] at h2
    obtain ⟨z, e1, _, wz⟩ := DataW.trod_int Tryz.underlying3 h2
    obtain ⟨z0, z1⟩ := bounds_i64 wz
    obtain rfl : x = .int .i64 z := by simpa using e1
    exact ⟨z, ⟨z0, z1⟩, h1⟩
  have addrs : ∀ i, i < n → ∃ z : Int, (0 ≤ z ∧ z ≤ 18446744073709551615) ∧ w.cell? ⟨b, off + i * 4 + 2, none⟩ = some (.int .u64 z) := by
    intro i hi
    obtain ⟨f, hfj⟩ := hf 2 (by omega)
    obtain ⟨x, y, m, h1, h2⟩ := hc i hi 2 f hfj
    have ht : f.type = 24 := by rw [hfj] at t2; simpa using t2
    rw [ht] at h2
    obtain ⟨z, e1, _, wz⟩ := DataW.trod_int Tryz.underlying24 h2
    obtain ⟨z0, z1⟩ := bounds_u64 wz
    obtain rfl : x = .int .u64 z := by simpa using e1
    exact ⟨z, ⟨z0, z1⟩, h1⟩
  let gg : Nat → ActT := fun i => ⟨gInt (w.cell? ⟨b, off + i * 4 + 0, none⟩), gInt (w.cell? ⟨b, off + i * 4 + 1, none⟩), gInt (w.cell? ⟨b, off + i * 4 + 2, none⟩), gInt (w.cell? ⟨b, off + i * 4 + 3, none⟩)⟩
  have hg : ∀ i, i < n → (gg i).ok ∧ w.cell? ⟨b, off + i * 4, none⟩ = some (.int .i64 (gg i).kd) ∧ w.cell? ⟨b, off + i * 4 + 1, none⟩ = some (.int .i64 (gg i).nn) ∧ w.cell? ⟨b, off + i * 4 + 2, none⟩ = some (.int .u64 (gg i).aa) ∧ w.cell? ⟨b, off + i * 4 + 3, none⟩ = some (.int .i64 (gg i).cc) := by
    intro i hi
    obtain ⟨z0, _, q0⟩ := ints i hi 0 (by omega)
    obtain ⟨z1, r1, q1⟩ := ints i hi 1 (by omega)
    obtain ⟨z2, r2, q2⟩ := addrs i hi
    obtain ⟨z3, _, q3⟩ := ints i hi 3 (by omega)
    have e0 : (gg i).kd = z0 := by show gInt (w.cell? ⟨b, off + i * 4 + 0, none⟩) = z0; rw [q0]
    have e1 : (gg i).nn = z1 := by show gInt (w.cell? ⟨b, off + i * 4 + 1, none⟩) = z1; rw [q1]
    have e2 : (gg i).aa = z2 := by show gInt (w.cell? ⟨b, off + i * 4 + 2, none⟩) = z2; rw [q2]
    have e3 : (gg i).cc = z3 := by show gInt (w.cell? ⟨b, off + i * 4 + 3, none⟩) = z3; rw [q3]
    refine ⟨⟨by rw [e1]; exact r1, by rw [e2]; exact r2⟩, by rw [e0]; exact q0, by rw [e1]; exact q1, by rw [e2]; exact q2, by rw [e3]; exact q3⟩
  refine ⟨(List.range n).map gg, ⟨⟨some ⟨b, off, none⟩, cap, by simp, Or.inr ⟨b, off, rfl, hb, fun i hi => ?_⟩⟩, fun x hx => ?_⟩, by simpa [maxLen] using hn⟩
  · have hi' : i < n := by simpa using hi
    have he : ((List.range n).map gg)[i] = gg i := by simp
    rw [he]
    exact (hg i hi').2
  · obtain ⟨i, hi, rfl⟩ := List.mem_map.1 hx
    exact (hg i (List.mem_range.1 hi)).1
end
end Go.Proofs.YtbkaemajjaiklaaGreat

/- SlabLasts: the walk. -/
namespace Go.Proofs.YtbkaemajjaiklaaGreat
open Go.RowKit
set_option linter.unusedVariables false
set_option linter.unusedSimpArgs false

/-- an image that fits the copy fits what was copied -/
theorem CutI.perm {n : Nat} {m m' : MA} {im : List Int} (hk : MAok m) (hk' : MAok m') (hp : m'.lines.Perm m.lines) (hi : m'.image = m.image) (h : CutI n m' im) : CutI n m im := by
  have hc := CutTo.perm (n := n) hk hk' hp hi
  refine ⟨h.len, h.rng, fun i i1 i2 => ?_⟩
  obtain ⟨k, hk, e1, e2⟩ := h.cut i i1 i2
  have h1 := hc.ps i i1 i2
  have h2 := hc.cl i i1 i2 k
  have h3 := hc.bt i i1 i2 k
  rw [Nat.zero_add] at h2 h3
  exact ⟨k, by omega, e1.trans h2, e2.trans h3⟩
theorem Rng.perm {m m' : MA} (h : Rng m) (hp : m'.lines.Perm m.lines) (hi : m'.image = m.image) : Rng m' :=
  ⟨by rw [hi]; exact h.im, fun l hl => h.pt l (hp.mem_iff.1 hl)⟩
/-- lines are few -/
theorem MAok.few {m : MA} (h : MAok m) : m.lines.length ≤ 8 * m.view.length := by
  have h1 : (m.lines.map fun l => (l.adr : Int)).Nodup := by
    rw [List.nodup_iff_pairwise_ne, List.pairwise_map]
    exact h.keys.imp fun hab e => hab (by omega)
  have h2 := len_in _ ((List.range (8 * m.view.length)).map fun i : Nat => (i : Int)) h1 (fun x hx => by
    obtain ⟨l, hl, rfl⟩ := List.mem_map.1 hx
    obtain ⟨p, hp⟩ := List.exists_mem_of_ne_nil _ (h.ne l hl)
    obtain ⟨p1, p2, p3⟩ := h.puts l hl p hp
    exact List.mem_map.2 ⟨l.adr, List.mem_range.2 (by omega), rfl⟩)
  simpa using h2
/-- a copy that goes on -/
theorem CopyR.mems {w W : World} {M M' : MemS} {m' : Nat} {B' : MB} {K : Nat} (h : CopyR w M m' B' M' W) (hf : ∀ L ∈ M.lines, L.ps.length ≤ K) (h2 : 2 ≤ M.view.length) : Mems W m' B' M' K := by
  refine ⟨h.mem, fun L hL => ?_, by rw [h.view]; exact h2⟩
  have hm : absL L ∈ M'.lines.map absL := List.mem_map.2 ⟨L, hL, rfl⟩
  obtain ⟨L0, h0, e⟩ := List.mem_map.1 (h.ab.mem_iff.1 hm)
  have := hf L0 h0
  have e2 : (absL L0).ps.length = (absL L).ps.length := by rw [e]
  have e3 : L0.ps.length = L.ps.length := e2
  omega
/-- while acts are done -/
structure LsI (w : World) (N n gb k : Nat) (W : World) : Prop where
  g : ∃ l g, GameIs W N n k l g ∧ l.gb = gb ∧ Lst n g ∧ Rng g.ma
  bel : Below w.heap.size w W

theorem bytesIn_bel {w w' : World} {p : Option Addr} {cap : Nat} {bs : List Int} (h : BytesIn w p cap bs) (hb : Below w.heap.size w w') : BytesIn w' p cap bs := by
  refine ⟨h.1, h.2.1, fun h0 => ?_⟩
  obtain ⟨g, o, e, hl, hc⟩ := h.2.2 h0
  exact ⟨g, o, e, Nat.lt_of_lt_of_le hl hb.size, fun i x hx => (hb.cell (p := ⟨g, _, none⟩) hl).trans (hc i x hx)⟩
/-- an image's bytes that fit -/
structure ImgQ (X : World) (n L : Nat) (g : GA) (p : Option Addr) (c : Nat) : Prop where
  out : ∃ bs : List Int, bs.length = L ∧ BytesIn X p c bs ∧ FitP n g.cs g.ls bs
theorem ImgQ.bel {X X' : World} {n L : Nat} {g : GA} {p : Option Addr} {c : Nat} (h : ImgQ X n L g p c) (hb : Below X.heap.size X X') : ImgQ X' n L g p c := by
  obtain ⟨bs, h1, h2, h3⟩ := h.out
  exact ⟨bs, h1, bytesIn_bel h2 hb, h3⟩
/-- what a crash of the copy leaves -/
structure CrQ (w W : World) (n m' : Nat) (ma : MA) : Prop where
  mem : ∃ B2 M2, MemIs W m' B2 M2 ∧ CutI n ma M2.image
  bel : Below w.heap.size w W
theorem CrQ.then {w W W' : World} {n m' : Nat} {ma : MA} (h : CrQ w W n m' ma) (hb : Below W.heap.size W W') : CrQ w W' n m' ma := by
  obtain ⟨B2, M2, h1, h2⟩ := h.mem
  exact ⟨⟨B2, M2, h1.only (Only.of_below hb []) (fun _ _ h => by cases h), h2⟩, h.bel.trans (hb.mono h.bel.size)⟩
/-- a crash of the copy -/
theorem crash_cp {w4 w5 : World} {M M' : MemS} {m' K n : Nat} {B' : MB} (h : CopyR w4 M m' B' M' w5) (hm : MAok (absM M)) (hr : Rng (absM M)) (hf : ∀ L ∈ M.lines, L.ps.length ≤ K) (hK : K ≤ 1000000) (hn : n ≤ 6) (h1 : 1 ≤ n) (hvl : M.view.length = 128 * (1 + n))
    (kp : Option Addr) (kn kc : Nat) (ks : Nat → Int) (X : World) (hX : Below w5.heap.size w5 X) (hk2 : kn = 0 ∨ kn = 2) (hks : ∀ i, i < kn → ∃ g, kp = some ⟨g, 0, none⟩ ∧ X.cell? ⟨g, i, none⟩ = some (.int .i64 (ks i)) ∧ w5.heap.size ≤ g) (hkr : ∀ i, -9223372036854775808 ≤ ks i ∧ ks i ≤ 9223372036854775807) :
    Calls Tryz.prog 29 #[ptrV m', .slice kp kn kc] X fun e W' => (∃ v, e = .returned v) ∧ CrQ w4 W' n m' (absM M) := by
  have hmm : MAok (absM M') := MAok.of h.mem
  have hX5 : Mems X m' B' M' K := (h.mems hf (by omega)).only (Only.of_below hX []) (fun _ _ h => by cases h)
  have hl : M'.lines.length ≤ 8 * M'.view.length := by
    have := hmm.few
    have e : (absM M').lines.length = M'.lines.length := by show (M'.lines.map absL).length = _; rw [List.length_map]
    rw [e] at this
    exact this
  have hlt := h.mem.foot_lt
  have hc := Crash_in m' B' M' K n kp kn kc ks X hX5 hK (by have := h.view; rw [this] at hl; omega) (hr.perm h.ab h.image) (by rw [h.view]; exact hvl) hk2 (fun i hi => by
    obtain ⟨g, e1, e2, e3⟩ := hks i hi
    exact ⟨g, 0, e1, by rw [Nat.zero_add]; exact e2, fun hm => by have := hlt g hm; omega⟩) hkr
  refine (callsIn_wide.1 hc).mono ?_
  rintro e W' ⟨hv, ⟨B2, M2, h2, h3⟩, ho⟩
  refine ⟨hv, ⟨B2, M2, h2, h3.perm hm hmm h.ab h.image⟩, ?_⟩
  have hb1 : Below w4.heap.size X W' := ho.below (fun k hk => h.lo k hk) (Nat.le_trans h.bel.size hX.size)
  exact h.bel.trans ((hX.mono h.bel.size).trans hb1)

theorem crash_two {w4 w5 : World} {M M' : MemS} {m' K n : Nat} {B' : MB} (h : CopyR w4 M m' B' M' w5) (hm : MAok (absM M)) (hr : Rng (absM M)) (hf : ∀ L ∈ M.lines, L.ps.length ≤ K) (hK : K ≤ 1000000) (hn : n ≤ 6) (h1 : 1 ≤ n) (hvl : M.view.length = 128 * (1 + n))
    (x1 x2 : Int) (hx1 : -9223372036854775808 ≤ x1 ∧ x1 ≤ 9223372036854775807) (hx2 : -9223372036854775808 ≤ x2 ∧ x2 ≤ 9223372036854775807) (X : World) (g c : Nat) (hX : Below w5.heap.size w5 X) (hg : w5.heap.size ≤ g) (c1 : X.cell? ⟨g, 0, none⟩ = some (.int .i64 x1)) (c2 : X.cell? ⟨g, 1, none⟩ = some (.int .i64 x2)) :
    Calls Tryz.prog 29 #[ptrV m', .slice (some ⟨g, 0, none⟩) 2 c] X fun e W' => (∃ v, e = .returned v) ∧ CrQ w4 W' n m' (absM M) :=
  crash_cp h hm hr hf hK hn h1 hvl (some ⟨g, 0, none⟩) 2 c (fun i => if i = 0 then x1 else x2) X hX (Or.inr rfl) (fun i hi => ⟨g, rfl, by
    rcases (by omega : i = 0 ∨ i = 1) with rfl | rfl
    · exact c1
    · exact c2, hg⟩) (fun i => by split <;> assumption)
theorem crash_none {w4 w5 : World} {M M' : MemS} {m' K n : Nat} {B' : MB} (h : CopyR w4 M m' B' M' w5) (hm : MAok (absM M)) (hr : Rng (absM M)) (hf : ∀ L ∈ M.lines, L.ps.length ≤ K) (hK : K ≤ 1000000) (hn : n ≤ 6) (h1 : 1 ≤ n) (hvl : M.view.length = 128 * (1 + n)) :
    Calls Tryz.prog 29 #[ptrV m', .slice none 0 0] w5 fun e W' => (∃ v, e = .returned v) ∧ CrQ w4 W' n m' (absM M) :=
  crash_cp h hm hr hf hK hn h1 hvl none 0 0 (fun _ => 0) w5 (Below.refl _ _) (Or.inl rfl) (fun i hi => absurd hi (Nat.not_lt_zero _)) (fun i => by decide)
theorem tmod_nat (k q : Nat) : (k : Int).tmod (q : Int) = ((k % q : Nat) : Int) := by
  rw [Int.tmod_eq_emod_of_nonneg (by omega)]; rfl
/-- images that are asked for, and held against the world -/
structure LsC (w4 : World) (N n L m1 m2 wd : Nat) (g : GA) (w6 : World) : Prop where
  im : ∀ X a, (a = m1 ∨ a = m2) → Below w6.heap.size w6 X → Calls Tryz.prog 25 #[.pointer (some ⟨a, 0, none⟩)] X fun e W => ∃ p c, e = .returned (.slice p L c) ∧ ImgQ W n L g p c ∧ Below X.heap.size X W
  fi : ∀ X p c, Below w6.heap.size w6 X → ImgQ X n L g p c → Calls Tryz.prog 30 #[.pointer (some ⟨wd, 0, none⟩), .slice p L c] X fun e W => e = .returned (.bool true) ∧ Below X.heap.size X W
theorem lsC {w4 w6 : World} {N n K m' : Nat} {l : GL} {g : GA} (hg : GameIs w4 N n K l g) (hl : Lst n g) (hr : Rng g.ma) (hc : CrQ w4 w6 n m' (absM l.M)) : LsC w4 N n (8 * (128 * (1 + n))) m' l.m l.wd g w6 := by
  obtain ⟨B2, M2, hm2, hcut⟩ := hc.mem
  have hma := hg.ma
  have hvl := hg.work.vl
  have hgok := hg.gok
  have hrl : ∀ x ∈ l.M.image, 0 ≤ x ∧ x < 18446744073709551616 := fun x hx => hr.im x (by rw [← hma]; exact hx)
  have il : l.M.image.length = 128 * (1 + n) := hg.work.mem.is.len.trans hvl
  rw [hma] at hcut
  refine ⟨fun X a ha hX => ?_, fun X p c hX hi => ?_⟩
  · have hb : Below w4.heap.size w4 X := hc.bel.trans (hX.mono hc.bel.size)
    rcases ha with rfl | rfl
    · refine (Image_z a B2 M2 X (hm2.only (Only.of_below hX []) (fun _ _ h => by cases h)) (fun x hx => hcut.rng x hx)).mono ?_
      rintro e W ⟨p, c, rfl, h1, _, h3⟩
      have hlen : (bytesW M2.image).length = 8 * (128 * (1 + n)) := by rw [bytesW_len, hcut.len]
      exact ⟨p, c, by rw [hlen], ⟨_, hlen, h1, hcut.fits hl hgok⟩, h3⟩
    · refine (Image_z l.m l.Q l.M X (hg.work.mem.is.only (Only.of_below hb []) (fun _ _ h => by cases h)) hrl).mono ?_
      rintro e W ⟨p, c, rfl, h1, _, h3⟩
      have hlen : (bytesW l.M.image).length = 8 * (128 * (1 + n)) := by rw [bytesW_len, il]
      refine ⟨p, c, by rw [hlen], ⟨_, hlen, h1, ?_⟩, h3⟩
      have := (CutI.now hgok hr).fits hl hgok
      rw [← hma] at this
      exact this
  · have hb : Below w4.heap.size w4 X := hc.bel.trans (hX.mono hc.bel.size)
    obtain ⟨bs, e1, e2, e3⟩ := hi.out
    have hw := hg.wo.bel hb
    rw [hvl, ← e1] at hw
    have hf := Fits_r N l.wd n g.cs g.ls l.vC l.vL p c bs X ⟨hgok.n1, by have := hgok.n6; omega⟩ hw hg.al.cl (by have := hg.fewT.2; omega) e2 e3
    rw [e1] at hf
    exact hf

set_option maxRecDepth 100000 in
set_option maxHeartbeats 8000000 in
theorem SlabLasts_z (v : Value) (hs : List (Nat × Nat)) (v2 : Value) (acts : List ActT) (v3 : Value) (xs : List Int) (w : World) (h : HeadsAt w v hs) (h2 : ActsAt w v2 acts) (h3 : NumsAt .i64 w v3 xs) (hxs : ∀ x ∈ xs, -9223372036854775808 ≤ x ∧ x ≤ 9223372036854775807) :
    Calls Tryz.prog 6 #[v, v2, v3] w fun e w' => e = .returned (.bool true) ∧ Below w.heap.size w w' := by
  obtain ⟨ao, acap, rfl, _⟩ := h2.at_
  have hF := hid (fewG_r v hs ao acts.length acap 80 (by decide) w h)
  have H := hid h
  have HA := hid h2
  obtain ⟨vo, vcap, rfl, hva⟩ := h3
  obtain ⟨m, hm⟩ : ∃ m, m = acts.length := ⟨_, rfl⟩
  obtain ⟨q, hq⟩ : ∃ q, q = xs.length := ⟨_, rfl⟩
  rw [← hm] at hF ⊢
  rw [← hq]
  have HM := hid hm
  have HQ := hid hq
  have HVA := hid hva
  have HXS := hid hxs
  clear h h2 hm hq hva hxs
  by_cases hq100 : q > 100
  · have iq : (q : Int) > 100 := by omega
    clear hq100
    cases hfw : fewG hs m 80
    · rw [hfw] at hF
      clear hfw
      go_enter Tryz.func6, Tryz.ntmps6
      go_wp2_with fail
      refine hF.out.mono ?_
      rintro e w1 ⟨rfl, hb1⟩
      have HB1 := hid hb1
      clear hb1
      go_wp2_with fail
      refine (known6_z w1).mono ?_
      rintro e w2 ⟨rfl, hb2⟩
      have HB2 := hid (HB1.out.trans (hb2.mono HB1.out.size))
      clear hb2
      go_wp2
      go_ret
      exact ⟨rfl, HB2.out⟩
    · rw [hfw] at hF
      clear hfw
      go_enter Tryz.func6, Tryz.ntmps6
      go_wp2_with fail
      refine hF.out.mono ?_
      rintro e w1 ⟨rfl, hb1⟩
      have HB1 := hid hb1
      clear hb1
      go_wp2_with fail
      refine (known6_z _).mono ?_
      rintro e w2 ⟨rfl, hb2⟩
      have HB2 := hid (HB1.out.trans (Below.trans (by exact Below.refl _ _) (hb2.mono HB1.out.size)))
      clear hb2
      go_wp2
      go_ret
      exact ⟨rfl, HB2.out⟩
  have iq : ¬ (q : Int) > 100 := by omega
  have HQ100 := hid (show q ≤ 100 by omega)
  clear hq100
  cases hfw : fewG hs m 80
  · rw [hfw] at hF
    clear hfw
    go_enter Tryz.func6, Tryz.ntmps6
    go_wp2_with fail
    refine hF.out.mono ?_
    rintro e w1 ⟨rfl, hb1⟩
    have HB1 := hid hb1
    clear hb1
    go_wp2_with fail
    refine (known6_z w1).mono ?_
    rintro e w2 ⟨rfl, hb2⟩
    have HB2 := hid (HB1.out.trans (hb2.mono HB1.out.size))
    clear hb2
    go_wp2
    go_ret
    exact ⟨rfl, HB2.out⟩
  · have hfw' := hfw
    unfold fewG at hfw'
    rw [Bool.and_eq_true, Bool.and_eq_true] at hfw'
    have HLEN := hid (show 1 ≤ hs.length ∧ hs.length ≤ 4 from of_decide_eq_true hfw'.1.1)
    have hm80 : m ≤ 80 := of_decide_eq_true hfw'.1.2
    have HALL := hid hfw'.2
    rw [hfw] at hF
    clear hfw hfw'
    go_enter Tryz.func6, Tryz.ntmps6
    go_wp2_with fail
    refine hF.out.mono ?_
    rintro e w1 ⟨rfl, hb1⟩
    have HI := hid (image_z v hs 0 (by omega) (by have := HLEN.out; omega) w1 (H.out.bel hb1))
    have HB1 := hid hb1
    clear hb1
    go_wp2_with fail
    refine HI.out.mono ?_
    rintro e w2 ⟨gg, bs, rfl, hbk, him, hlo, hb2⟩
    have HB2 := hid (HB1.out.trans (hb2.mono HB1.out.size))
    have hlen := him.len
    have hG := gbegin_z (some ⟨gg, 0, none⟩) bs.length bs hs.length (by have := HLEN.out; omega) hlen (by have := HLEN.out; omega) (headsAll him HALL.out) w2 (bytesOfG hbk him.byt)
    have hL0 := Lst.begin (n := hs.length) (by have := HLEN.out; omega) hlen him.byt (headsAll him HALL.out)
    have hR0 := Rng.begin (n := hs.length) him.byt
    obtain ⟨L, hL⟩ : ∃ L, L = bs.length := ⟨_, rfl⟩
    rw [← hL] at hG ⊢
    have HG := hid hG
    have HLR := hid (⟨hL0, hR0⟩ : _ ∧ _)
    clear hG him hlen hb2 hbk hlo hL hL0 hR0
    go_wp2_with fail
    refine HG.out.mono ?_
    rintro e w3 ⟨l, rfl, hgm, hb3⟩
    obtain ⟨gb, hgb⟩ : ∃ gb, gb = l.gb := ⟨_, rfl⟩
    rw [← hgb]
    have HN := hid HB2.out.size
    have HP0 := hid (⟨⟨l, _, hgm, hgb.symm, HLR.out.1, HLR.out.2⟩, HB2.out.trans (hb3.mono HB2.out.size)⟩ : LsI w w2.heap.size hs.length gb 0 w3)
    clear hgm hb3 hgb
    obtain ⟨n, hn⟩ : ∃ n, n = hs.length := ⟨_, rfl⟩
    rw [← hn] at HP0
    have HN14 := hid (show 1 ≤ n ∧ n ≤ 4 by rw [hn]; exact HLEN.out)
    clear hn
    go_wp2
    go_loopw [8] (fun i wr => ∃ k : Nat, k ≤ m ∧ i = .int .i64 k ∧ Hid (LsI w w2.heap.size n gb k wr)) (fun i _ => (m - (intOf i).toNat))
    case atStart => exact ⟨0, by omega, rfl, HP0⟩
    case round =>
      obtain ⟨k, hk, rfl, hI⟩ := hrel
      by_cases hlt : k < m
      · have i1 : (k : Int) < (m : Int) := by omega
        have i0 : (0 : Int) ≤ (k : Int) := by omega
        have HLT := hid hlt
        have ha := HA.out.bel hI.out.bel
        obtain ⟨ao', cap', e, hc⟩ := ha.at_
        injection e with e1 e2 e3
        have hne : acts ≠ [] := by intro e; have := HM.out; rw [e] at this; simp at this; omega
        obtain ⟨b, off, hao, hbl, hcl⟩ := hc.resolve_left hne
        rw [hao] at e1
        subst e1
        have hkl : k < acts.length := by rw [← HM.out]; exact hlt
        obtain ⟨c0, c1, c2, c3⟩ := hcl k hkl
        have hok := ha.ok _ (List.getElem_mem hkl)
        obtain ⟨x, hx⟩ : ∃ x, x = acts[k] := ⟨_, rfl⟩
        rw [← hx] at c0 c1 c2 c3 hok
        obtain ⟨l, g, hg, hgb, hls, hrg⟩ := hI.out.g
        have D := do_z w2.heap.size n k l g x.kd x.nn x.aa x.cc wr hg (by omega) hok.2 hok.1.2
        rw [hgb] at D
        have HGB := hid (⟨hgb, hls, hrg, hg.gok⟩ : _ ∧ _ ∧ _ ∧ _)
        have HD := hid D
        have HK := hid (show k ≤ 80 by omega)
        clear ha hc hne hbl hcl hok hx hg hgb D hk hlt e2 e3 hao hls hrg
        go_wp2_with fail
        refine HD.out.mono ?_
        rintro e w4 ⟨rfl, l', g', hg', hd', hgb', hbel⟩
        have hls' := HGB.out.2.1.did HGB.out.2.2.2 hd'
        have hrg' := HGB.out.2.2.1.did hd'
        have hgb2 : l'.gb = gb := hgb'.trans HGB.out.1
        have y0 : w4.cell? ⟨gb, 0, none⟩ = some (.pointer (some ⟨l'.m, 0, none⟩)) := by rw [← hgb2]; exact hg'.gblk.cell 0
        have CP := hid (Copy_z l'.m l'.Q l'.M (fun L hL => Nat.le_trans (hg'.work.mem.few L hL) (by have := HK.out; omega)) w4 hg'.work.mem.is)
        have HB4 := hid (hI.out.bel.trans (hbel.mono HN.out))
        have HG' := hid (⟨hg', hgb2, hls', hrg'⟩ : _ ∧ _ ∧ _ ∧ _)
        clear hg' hd' hgb' hbel hls' hrg' hgb2
        go_wp2_with fail
        refine CP.out.mono ?_
        rintro e w5 ⟨m', B', M', rfl, hcp⟩
        have hrl : Rng (absM l'.M) := by rw [HG'.out.1.ma]; exact HG'.out.2.2.2
        have hmk : MAok (absM l'.M) := MAok.of HG'.out.1.work.mem.is
        have LS := hid (fun w6 (hc : CrQ w4 w6 n m' (absM l'.M)) => lsC HG'.out.1 HG'.out.2.2.1 HG'.out.2.2.2 hc)
        have C2 := hid (fun x1 x2 h1 h2 => crash_two hcp hmk hrl HG'.out.1.work.mem.few (by have := HK.out; omega) (by have := HN14.out; omega) HN14.out.1 HG'.out.1.work.vl x1 x2 h1 h2)
        have C0 := hid (crash_none hcp hmk hrl HG'.out.1.work.mem.few (by have := HK.out; omega) (by have := HN14.out; omega) HN14.out.1 HG'.out.1.work.vl)
        have HCP := hid hcp
        clear hcp y0 hrl hmk
        by_cases hq0 : q = 0
        · have iq0 : ¬ (q : Int) > 0 := by omega
          clear hq0
          go_wp2_with fail
          refine C0.out.mono ?_
          rintro e w6 ⟨⟨vv, rfl⟩, hcr⟩
          have HCR := hid hcr
          clear hcr
          go_upto_region 17 with fail
          have y0 : w6.cell? ⟨gb, 0, none⟩ = some (.pointer (some ⟨l'.m, 0, none⟩)) := by rw [← HG'.out.2.1]; exact (HG'.out.1.bel HCR.out.bel).gblk.cell 0
          have y2 : w6.cell? ⟨gb, 2, none⟩ = some (.pointer (some ⟨l'.wd, 0, none⟩)) := by rw [← HG'.out.2.1]; exact (HG'.out.1.bel HCR.out.bel).gblk.cell 2
          have LC := hid (LS.out w6 HCR.out)
          have gl : gb < w6.heap.size := World.block_lt_of_cell? w6 _ y0
          have B0 : Below w6.heap.size w6 w6.drew := (show Below w6.heap.size w6 w6.drew from ⟨rfl, rfl, rfl, Nat.le_refl _, fun _ _ => rfl⟩)
          have z0 : w6.drew.cell? ⟨gb, 0, none⟩ = some (.pointer (some ⟨l'.m, 0, none⟩)) := y0
          have z2 : w6.drew.cell? ⟨gb, 2, none⟩ = some (.pointer (some ⟨l'.wd, 0, none⟩)) := y2
          have KS := hid (fun (X : World) (hb : Below w6.heap.size w6 X) => (⟨(hb.cell (p := ⟨gb, 0, none⟩) gl).trans y0, (hb.cell (p := ⟨gb, 2, none⟩) gl).trans y2, hb⟩ : X.cell? ⟨gb, 0, none⟩ = some (.pointer (some ⟨l'.m, 0, none⟩)) ∧ X.cell? ⟨gb, 2, none⟩ = some (.pointer (some ⟨l'.wd, 0, none⟩)) ∧ Below w6.heap.size w6 X))
          clear y0 y2
          go_region_held3 (fun X => X.cell? ⟨gb, 0, none⟩ = some (.pointer (some ⟨l'.m, 0, none⟩)) ∧ X.cell? ⟨gb, 2, none⟩ = some (.pointer (some ⟨l'.wd, 0, none⟩)) ∧ Below w6.heap.size w6 X) (first | (with_reducible exact ⟨z0, z2, B0⟩) | (with_reducible exact KS.out _ (by with_reducible assumption)))
            (first
            | (go_at_call 25; (with_reducible refine (LC.out.im _ _ (by first | exact Or.inl rfl | exact Or.inr rfl) (by with_reducible assumption)).mono ?_); rintro e x1 ⟨p1, c1, rfl, q1, hb1⟩; have Q1 := hid q1; have bS := bx (by with_reducible assumption) hb1; clear q1)
            | (go_at_call 30; (with_reducible refine (LC.out.fi _ _ _ (by with_reducible assumption) (by first | exact Q1.out | exact Q1.out.bel (by assumption))).mono ?_); rintro e x2 ⟨rfl, hb2⟩; have bS := bx (by with_reducible assumption) hb2))
          have HNX : ∀ X, Below w6.heap.size w6 X → LsI w w2.heap.size n gb (k + 1) X := fun X hb => ⟨⟨l', g', (HG'.out.1.bel HCR.out.bel).bel hb, HG'.out.2.1, HG'.out.2.2.1, HG'.out.2.2.2⟩, HB4.out.trans ((HCR.out.bel.trans (hb.mono HCR.out.bel.size)).mono HB4.out.size)⟩
          have HNX2 := hid (HNX _ (by with_reducible assumption))
          clear HNX
          go_wp2
          go_roundw
          case rel => exact ⟨k + 1, HLT.out, by go_num, HNX2⟩
          case measure => simp [intOf]; have := HLT.out; omega
        · have iq0 : (q : Int) > 0 := by omega
          have HQ0 := hid (show 0 < q by omega)
          obtain ⟨ka, hka⟩ : ∃ ka, ka = k % q := ⟨_, rfl⟩
          obtain ⟨kb, hkb⟩ : ∃ kb, kb = (k + 1) % q := ⟨_, rfl⟩
          have ta : (k : Int).tmod (q : Int) = (ka : Int) := by rw [hka]; exact tmod_nat k q
          have tb : ((k : Int) + 1).tmod (q : Int) = (kb : Int) := by rw [hkb]; exact tmod_nat (k + 1) q
          have la : ka < q := by rw [hka]; exact Nat.mod_lt _ HQ0.out
          have lb : kb < q := by rw [hkb]; exact Nat.mod_lt _ HQ0.out
          obtain ⟨b3, off3, hvo, hbl3, hcl3⟩ := HVA.out.resolve_left (fun e => by have := HQ.out; have := HQ0.out; rw [e] at *; simp at *; omega)
          subst hvo
          obtain ⟨x1, hx1⟩ : ∃ x, xs[ka]? = some x := ⟨_, List.getElem?_eq_getElem (by rw [← HQ.out]; exact la)⟩
          obtain ⟨x2, hx2⟩ : ∃ x, xs[kb]? = some x := ⟨_, List.getElem?_eq_getElem (by rw [← HQ.out]; exact lb)⟩
          have KC := hid (fun (X : World) (hb : Below w4.heap.size w4 X) => (⟨((HB4.out.trans (hb.mono HB4.out.size)).cell (p := ⟨b3, off3 + ka, none⟩) hbl3).trans (hcl3 ka x1 hx1), ((HB4.out.trans (hb.mono HB4.out.size)).cell (p := ⟨b3, off3 + kb, none⟩) hbl3).trans (hcl3 kb x2 hx2), hb⟩ : X.cell? ⟨b3, off3 + ka, none⟩ = some (.int .i64 x1) ∧ X.cell? ⟨b3, off3 + kb, none⟩ = some (.int .i64 x2) ∧ Below w4.heap.size w4 X))
          have CC := hid (C2.out x1 x2 (HXS.out x1 (List.mem_of_getElem? hx1)) (HXS.out x2 (List.mem_of_getElem? hx2)))
          have b1 : (0 : Int) ≤ (ka : Int) := by omega
          have b2 : (ka : Int) < (q : Int) := by omega
          have b4 : (0 : Int) ≤ (kb : Int) := by omega
          have b5 : (kb : Int) < (q : Int) := by omega
          have hne : ((q : Int) == 0) = false := by have := HQ0.out; simp; omega
          have nla : ¬ q ≤ ka := by omega
          have nlb : ¬ q ≤ kb := by omega
          have wk1 : IntKind.i64.wrap ((k : Int) + 1) = (k : Int) + 1 := IntWalk.i64_in _ (by have := HK.out; constructor <;> omega)
          clear hka hkb hbl3 hcl3 hx1 hx2
          go_upto_region 15 with fail
          have B0 : Below w5.heap.size w5 w5.drew := (show Below w5.heap.size w5 w5.drew from ⟨rfl, rfl, rfl, Nat.le_refl _, fun _ _ => rfl⟩)
          have B1 : Below w5.heap.size w5 (w5.alloc (.cells #[.int .i64 x1, .int .i64 x2] 3)).drew := (ba (Below.refl _ _) _).trans ((below_drew _).mono (by simp))
          have K0 := KC.out _ (HCP.out.bel.trans (B0.mono HCP.out.bel.size))
          have K1 := KC.out _ (HCP.out.bel.trans (B1.mono HCP.out.bel.size))
          have wa : IntKind.i64.wrap (ka : Int) = (ka : Int) := IntWalk.i64_in _ ⟨by omega, by omega⟩
          have wb : IntKind.i64.wrap (kb : Int) = (kb : Int) := IntWalk.i64_in _ ⟨by omega, by omega⟩
          have hqz : ¬ (q : Int) = 0 := by have := HQ0.out; omega
          have CX := hid (CC.out (w5.alloc (.cells #[.int .i64 x1, .int .i64 x2] 3)).drew w5.heap.size 2 B1 (Nat.le_refl _) ((Blk.new w5 3 #[.int .i64 x1, .int .i64 x2]).cell 0) ((Blk.new w5 3 #[.int .i64 x1, .int .i64 x2]).cell 1))
          go_region_held3 (fun X => X.cell? ⟨b3, off3 + ka, none⟩ = some (.int .i64 x1) ∧ X.cell? ⟨b3, off3 + kb, none⟩ = some (.int .i64 x2) ∧ Below w4.heap.size w4 X) (first | (with_reducible exact K0) | (with_reducible exact K1) | (with_reducible exact KC.out _ (by with_reducible assumption)))
            (first
            | (go_at_call 29; (with_reducible refine CX.out.mono ?_); rintro e w6 ⟨⟨vv, rfl⟩, hcr⟩; have HCR := hid hcr; have bS : Below w4.heap.size w4 w6 := hcr.bel; clear hcr))
          clear K0 K1 B0 B1 CX wa wb hqz nla nlb wk1 KC CC iq0 ta tb b1 b2 b4 b5 hne hq0 la lb
          go_upto_region 17 with fail
          have y0 : w6.cell? ⟨gb, 0, none⟩ = some (.pointer (some ⟨l'.m, 0, none⟩)) := by rw [← HG'.out.2.1]; exact (HG'.out.1.bel HCR.out.bel).gblk.cell 0
          have y2 : w6.cell? ⟨gb, 2, none⟩ = some (.pointer (some ⟨l'.wd, 0, none⟩)) := by rw [← HG'.out.2.1]; exact (HG'.out.1.bel HCR.out.bel).gblk.cell 2
          have LC := hid (LS.out w6 HCR.out)
          have gl : gb < w6.heap.size := World.block_lt_of_cell? w6 _ y0
          have B0 : Below w6.heap.size w6 w6.drew := (show Below w6.heap.size w6 w6.drew from ⟨rfl, rfl, rfl, Nat.le_refl _, fun _ _ => rfl⟩)
          have z0 : w6.drew.cell? ⟨gb, 0, none⟩ = some (.pointer (some ⟨l'.m, 0, none⟩)) := y0
          have z2 : w6.drew.cell? ⟨gb, 2, none⟩ = some (.pointer (some ⟨l'.wd, 0, none⟩)) := y2
          have KS := hid (fun (X : World) (hb : Below w6.heap.size w6 X) => (⟨(hb.cell (p := ⟨gb, 0, none⟩) gl).trans y0, (hb.cell (p := ⟨gb, 2, none⟩) gl).trans y2, hb⟩ : X.cell? ⟨gb, 0, none⟩ = some (.pointer (some ⟨l'.m, 0, none⟩)) ∧ X.cell? ⟨gb, 2, none⟩ = some (.pointer (some ⟨l'.wd, 0, none⟩)) ∧ Below w6.heap.size w6 X))
          clear y0 y2
          go_region_held3 (fun X => X.cell? ⟨gb, 0, none⟩ = some (.pointer (some ⟨l'.m, 0, none⟩)) ∧ X.cell? ⟨gb, 2, none⟩ = some (.pointer (some ⟨l'.wd, 0, none⟩)) ∧ Below w6.heap.size w6 X) (first | (with_reducible exact ⟨z0, z2, B0⟩) | (with_reducible exact KS.out _ (by with_reducible assumption)))
            (first
            | (go_at_call 25; (with_reducible refine (LC.out.im _ _ (by first | exact Or.inl rfl | exact Or.inr rfl) (by with_reducible assumption)).mono ?_); rintro e x1 ⟨p1, c1, rfl, q1, hb1⟩; have Q1 := hid q1; have bS := bx (by with_reducible assumption) hb1; clear q1)
            | (go_at_call 30; (with_reducible refine (LC.out.fi _ _ _ (by with_reducible assumption) (by first | exact Q1.out | exact Q1.out.bel (by assumption))).mono ?_); rintro e x2 ⟨rfl, hb2⟩; have bS := bx (by with_reducible assumption) hb2))
          have HNX : ∀ X, Below w6.heap.size w6 X → LsI w w2.heap.size n gb (k + 1) X := fun X hb => ⟨⟨l', g', (HG'.out.1.bel HCR.out.bel).bel hb, HG'.out.2.1, HG'.out.2.2.1, HG'.out.2.2.2⟩, HB4.out.trans ((HCR.out.bel.trans (hb.mono HCR.out.bel.size)).mono HB4.out.size)⟩
          have HNX2 := hid (HNX _ (by with_reducible assumption))
          clear HNX
          go_wp2
          go_roundw
          case rel => exact ⟨k + 1, HLT.out, by go_num, HNX2⟩
          case measure => simp [intOf]; have := HLT.out; omega
      · obtain rfl : k = m := by omega
        have i1 : ¬ (k : Int) < (k : Int) := by omega
        clear hlt hk
        go_wp2_with fail
        refine (known6_z wr).mono ?_
        rintro e w4 ⟨rfl, hb4⟩
        have HB4 := hid (hI.out.bel.trans (hb4.mono hI.out.bel.size))
        clear hb4
        go_wp2
        go_ret
        exact ⟨rfl, HB4.out⟩

end Go.Proofs.YtbkaemajjaiklaaGreat

/- SlabLasts as it is called. -/
namespace Go.Proofs.YtbkaemajjaiklaaGreat
open Go.ChangeShapes Go.WideShapes Go.ChangeAt Go.RowKit Go.Joins Go.Deep
set_option linter.unusedVariables false
set_option linter.unusedSimpArgs false

set_option maxRecDepth 100000 in
theorem open_intsI {H : Type} {enc : TypeId × Value → H} {w : World} {base : Nat} {spare : Nat → Bool} {held : Bool} {r : Reach} {b0 : Nat} {v : Value} {d : DataW H} {p : List MemPlace} (hv : Value.okWide Tryz.prog w r b0 47 v) (h : DataW.Trod enc Tryz.prog w base spare held 47 v d p) :
    ∃ xs : List Int, IntsAt .i64 w v xs ∧ xs.length ≤ 9223372036854775807 := open_nums Tryz.underlying47 Tryz.underlying3 (by kernel_rfl) hv h
theorem IntsAt.most {w : World} {v : Value} {xs : List Int} (h : IntsAt .i64 w v xs) : ∀ x ∈ xs, -9223372036854775808 ≤ x ∧ x ≤ 9223372036854775807 := fun x hx => bounds_i64 (h.le x hx)
theorem SlabLasts_l (v : Value) (hs : List (Nat × Nat)) (v2 : Value) (acts : List ActT) (v3 : Value) (xs : List Int) (w : World) (h : HeadsAt w v hs) (_ : hs.length ≤ 9223372036854775807) (h2 : ActsAt w v2 acts) (_ : acts.length ≤ 9223372036854775807) (h3 : IntsAt .i64 w v3 xs) (_ : xs.length ≤ 9223372036854775807) :
    Calls Tryz.prog 6 #[v, v2, v3] w fun e w' => e = .returned (.bool true) ∧ Below w.heap.size w w' := SlabLasts_z v hs v2 acts v3 xs w h h2 h3.nums h3.most

end Go.Proofs.YtbkaemajjaiklaaGreat
