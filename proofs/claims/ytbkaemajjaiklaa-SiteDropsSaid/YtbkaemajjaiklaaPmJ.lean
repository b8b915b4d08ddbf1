/- A memory of words: some of a line's stores last. -/
import Derived.Deep.Cut
import Derived.Lib.MinMax
import Derived.Test.YtbkaemajjaiklaaPmI
namespace Go.Proofs.Ytbkaemajjaiklaa
open Go.RowKit
set_option linter.unusedVariables false
set_option linter.unusedSimpArgs false

def applyPuts (im : List Int) (ps : List (Nat × Int)) : List Int := ps.foldl (fun im p => im.set (p.1 / 8) p.2) im
theorem applyPuts_length (im : List Int) (ps : List (Nat × Int)) : (applyPuts im ps).length = im.length := by
  induction ps generalizing im with
  | nil => rfl
  | cons p ps ih => exact (ih _).trans List.length_set
theorem applyPuts_snoc (im : List Int) (ps : List (Nat × Int)) (p : Nat × Int) : applyPuts im (ps ++ [p]) = (applyPuts im ps).set (p.1 / 8) p.2 := by simp [applyPuts]
def cutL (L : LineA) (k : Nat) : LineA := { L with o := L.o + k * 2, cap := L.ps.length - k, ps := L.ps.drop k, ks := L.ks.map (· - k) }
def lastM (M : MemS) (pre : List LineA) (L : LineA) (post : List LineA) (k : Nat) : MemS :=
  { M with image := applyPuts M.image (L.ps.take k), lines := pre ++ (if k = L.ps.length then [] else [cutL L k]) ++ post }

def lineX (Pt : Option Addr) (r : Nat) (ks : List Nat) : Array Value := (Value.slice Pt r r :: marksC ks).toArray
theorem lineX_of (L : LineA) (Pt : Option Addr) (r : Nat) : (lineC L).setIfInBounds 0 (.slice Pt r r) = lineX Pt r L.ks := by simp [lineC, lineX]
theorem lineX_mark {Pt : Option Addr} {r : Nat} {ks : List Nat} {c : Nat} (k : Nat) : (lineX Pt r ks).setIfInBounds (c + 1) (.int .i64 (k : Int)) = lineX Pt r (ks.set c k) := by
  unfold lineX marksC
  rw [List.setIfInBounds_toArray, List.set_cons_succ, List.map_set]
def mixK (ks : List Nat) (k j : Nat) : List Nat := (ks.take j).map (· - k) ++ ks.drop j
theorem mixK_get {ks : List Nat} {k j a : Nat} (h : ks[j]? = some a) : (mixK ks k j)[j]? = some a := by
  have hl : j < ks.length := (List.getElem?_eq_some_iff.1 h).1
  unfold mixK
  rw [List.getElem?_append_right (by simp; omega)]
  simp [Nat.min_eq_left (Nat.le_of_lt hl), h]
theorem mixK_set {ks : List Nat} {k j a : Nat} (h : ks[j]? = some a) : (mixK ks k j).set j (a - k) = mixK ks k (j + 1) := by
  obtain ⟨hl, he⟩ := List.getElem?_eq_some_iff.1 h
  unfold mixK
  rw [List.set_append_right _ _ (by simp; omega), List.drop_eq_getElem_cons hl, List.take_succ_eq_append_getElem hl]
  simp [Nat.min_eq_left (Nat.le_of_lt hl), he]
theorem mixK_all {ks : List Nat} {k j : Nat} (h : ks.length ≤ j) : mixK ks k j = ks.map (· - k) := by
  unfold mixK
  rw [List.take_of_length_le h, List.drop_eq_nil_of_le h, List.append_nil]
/-- other words have lasted -/
theorem MemIs.img {w w' : World} {m X : Nat} {B : MB} {M : MemS} (h : MemIs w m B M) (ho : Only [B.ib, X] w w') (hX : ∀ k ∈ footM m B M, k ≠ X) {im : List Int} (hi : WordsAt w' B.ib im) (hl : im.length = M.view.length) : MemIs w' m B { M with image := im } := by
  have h1 := h.apart
  simp only [footM, List.nodup_cons, List.mem_cons, not_or, List.mem_map, not_exists, not_and] at h1
  have g : ∀ k ∈ footM m B M, k ≠ B.ib → k ∉ [B.ib, X] := fun k hk hne hm => by
    simp at hm
    rcases hm with e | e
    · exact hne e
    · exact hX k hk e
  have hLf : ∀ L ∈ M.lines, L.g ∈ footM m B M := fun L hL => by simp only [footM, List.mem_cons, List.mem_map]; exact Or.inr (Or.inr (Or.inr (Or.inr ⟨L, hL, rfl⟩)))
  exact { h with
    blk := ho.blk h.blk (g m (by simp [footM]) h1.1.2.1)
    len := hl
    view := h.view.only ho (g B.vb (by simp [footM]) h1.2.1.1)
    image := hi
    map := (ho.block _ (h.foot_lt _ (by simp [footM])) (g B.lb (by simp [footM]) (fun e => h1.2.2.1.1 e.symm))).trans h.map
    rows := fun L hL => (h.rows L hL).only ho (g L.g (hLf L hL) (h1.2.2.1.2 L hL)) }
/-- a line let go -/
theorem MemIs.dropL {w w' : World} {m : Nat} {B : MB} {M : MemS} {pre post : List LineA} {L : LineA} (h : MemIs w m B M) (hM : M.lines = pre ++ L :: post)
    (hw : w' = w.putObj B.lb (.map ((pre ++ post).map lineE).toArray M.clock)) : MemIs w' m B { M with lines := pre ++ post } := by
  obtain ⟨f0, f1, f2, f3⟩ := h.lb_far
  have ho : Only [B.lb] w w' := by rw [hw]; exact (Only.refl _ _).putObj (Or.inl (by simp)) _
  have hs : List.Sublist (pre ++ post) M.lines := by rw [hM]; exact List.Sublist.append_left (List.sublist_cons_self ..) _
  have mem : ∀ x ∈ pre ++ post, x ∈ M.lines := fun x hx => hs.subset hx
  exact { h with
    blk := ho.blk h.blk (by simpa using f0)
    view := h.view.only ho (by simpa using f1)
    image := h.image.only ho (by simpa using f2)
    map := by rw [hw]; exact putObj_at h.map
    rows := fun x hx => (h.rows x (mem x hx)).only ho (by simpa using f3 x (mem x hx))
    ok := fun x hx => h.ok x (mem x hx)
    keys := h.keys.sublist hs
    born := h.born.sublist hs
    old := fun x hx => h.old x (mem x hx)
    apart := h.apart.sublist (by
      simp only [footM]
      exact ((((hs.map _).cons_cons _).cons_cons _).cons_cons _).cons_cons _) }
theorem putC2_drop : ∀ (ps : List (Nat × Int)) (k : Nat), putC2 (ps.drop k) = (putC2 ps).drop (k * 2)
  | [], k => by simp [putC2]
  | p :: ps, 0 => by simp
  | p :: ps, k + 1 => by
    have e : putC2 (p :: ps) = .int .u64 (p.1 : Int) :: .int .u64 p.2 :: putC2 ps := rfl
    rw [e, List.drop_succ_cons, putC2_drop ps k, show (k + 1) * 2 = k * 2 + 1 + 1 by omega, List.drop_succ_cons, List.drop_succ_cons]
theorem RowP.cut {w : World} {L : LineA} (h : RowP w L) (k : Nat) (hk : k ≤ L.ps.length) : RowP w (cutL L k) := by
  obtain ⟨cur, h1, h2, h3, h4⟩ := h
  refine ⟨cur, h1, by simp [cutL], by simp only [cutL]; omega, ?_⟩
  have e : putC2 (L.ps.drop k) = (putC2 L.ps).drop (k * 2) := putC2_drop L.ps k
  simp only [cutL]
  rw [e, ← h4, List.drop_take, List.drop_drop]
  congr 1
  simp; omega
theorem LineOK.cut {n : Nat} {L : LineA} (h : LineOK n L) (k : Nat) (hk : k < L.ps.length) : LineOK n (cutL L k) := by
  refine ⟨h.adr, fun hc => ?_, fun p hp => h.puts p (List.mem_of_mem_drop hp), by simp [cutL, h.marks], fun q hq => ?_⟩
  · have := congrArg List.length hc
    simp [cutL] at this
    omega
  · simp only [cutL, List.mem_map] at hq
    obtain ⟨y, hy, rfl⟩ := hq
    have := h.most y hy
    simp [cutL]; omega
theorem lineX_cut {L : LineA} {k : Nat} : lineX (some ⟨L.g, L.o + k * 2, none⟩) (L.ps.length - k) (L.ks.map (· - k)) = lineC (cutL L k) := by simp [lineX, lineC, cutL]
theorem erase_mid {α : Type} (x : α) (post : List α) : ∀ pre : List α, (pre ++ x :: post).eraseIdx pre.length = pre ++ post
  | [] => by simp
  | p :: pre => by simp [erase_mid x post pre]
theorem add_off (g o j : Nat) : (⟨g, o, none⟩ : Addr).add j = ⟨g, o + j, none⟩ := by unfold Addr.add; split <;> simp_all
theorem putC2_get : ∀ {ps : List (Nat × Int)} {k : Nat} (h : k < ps.length), (putC2 ps)[k * 2]? = some (.int .u64 (ps[k].1 : Int)) ∧ (putC2 ps)[k * 2 + 1]? = some (.int .u64 ps[k].2)
  | p :: ps, 0, h => by simp [putC2]
  | p :: ps, k + 1, h => by
    have := putC2_get (ps := ps) (k := k) (by simpa using h)
    have e : putC2 (p :: ps) = .int .u64 (p.1 : Int) :: .int .u64 p.2 :: putC2 ps := rfl
    rw [e, show (k + 1) * 2 = k * 2 + 1 + 1 by omega]
    simpa using this

set_option maxRecDepth 100000 in
set_option maxHeartbeats 2000000 in
theorem last_some (m : Nat) (B : MB) (M : MemS) (n0 n : Nat) (pre post : List LineA) (L : LineA) (hM : M.lines = pre ++ L :: post) (hlen : L.ps.length ≤ 1000000000) (hn0 : (n0 : Int) < 9223372036854775808) (hn : n = min n0 L.ps.length) (w : World) (h : MemIs w m B M) :
    Calls Try.prog 99 #[ptrV m, .int .u64 (L.adr : Int), .int .i64 (n0 : Int)] w fun e w' =>
      e = .returned (.int .i64 (n : Int)) ∧ MemIs w' m B (lastM M pre L post n) ∧ Only [B.ib, B.lb] w w' := by
  have hL : L ∈ M.lines := by rw [hM]; simp
  have hok := h.ok L hL
  have x2 : w.cell? ⟨m, 2, none⟩ = some (.map (some B.lb)) := h.blk.cell 2
  have a378 := line_isAgg
  obtain ⟨N, hN⟩ : ∃ N, N = 66 := ⟨_, rfl⟩
  have z378 := line_zero
  have s378 : ∀ w, (sizeOf 167).run Try.prog w = .ok N w := by rw [hN]; exact line_sizeOf
  have n378 : lineZ.size = N := lineZ_size.trans hN.symm
  have n2 : (lineC L).size = N := (lineC_size hok).trans hN.symm
  have hlk : (Instr.lookup 128 (.map (some B.lb)) (.int .u64 (L.adr : Int)) false).run Try.prog w = .ok (.agg (lineC L)) w :=
    run_lookU_some (P := Try.prog) w 128 47 167 Try.underlying128 Try.underlying47 B.lb _ _ h.map (L.adr : Int) pre.length (.agg (lineC L)) false (by simpa using find_line hM h.keys)
  have hst : (storeCells ⟨w.heap.size, 0, none⟩ (lineC L).toList 0).run Try.prog (w.alloc (.cells lineZ 167)) = .ok () (w.alloc (.cells (lineC L) 167)) :=
    run_storeCells_new (P := Try.prog) w 167 lineZ (lineC L) (by rw [line_size, lineC_size hok]) (by rw [lineC_size hok]; rfl) (lineC_one L)
  have b2 := Blk.new w 167 (lineC L)
  have H2 := hid (h.only ((Only.refl [] w).alloc (.cells (lineC L) 167)) (fun k _ hk => by cases hk))
  have O2 := hid (show Only [] w (w.alloc (.cells (lineC L) 167)) from (Only.refl [] w).alloc _)
  have N3 := hid (show ∀ k ∈ footM m B M, k ≠ w.heap.size from fun k hk e => by have := h.foot_lt k hk; omega)
  obtain ⟨ln, hln⟩ : ∃ ln, ln = L.ps.length := ⟨_, rfl⟩
  have HLN := hid hln
  have HN := hid hN
  have HM := hid hM
  have HMIN := hid hn
  have z0 : (w.alloc (.cells (lineC L) 167)).cell? ⟨w.heap.size, 0, none⟩ = some (.slice (some ⟨L.g, L.o, none⟩) ln L.cap) := by rw [hln]; exact b2.cell 0
  rw [← hln] at hlen
  have B2 := hid b2
  have hmin : min (n0 : Int) (ln : Int) = (n : Int) := by omega
  obtain ⟨cur, hc1, hc2, hc3, hc4⟩ := id (h.rows L hL)
  rw [← hln] at hc2
  have i1 : (0 : Int) ≤ (n : Int) := by omega
  have i2 : (n : Int) ≤ (L.cap : Int) := by omega
  have i2' : n ≤ L.cap := by omega
  have i3 : n ≤ ln := by omega
  have i4 : (n : Int) ≤ (ln : Int) := by omega
  have i5 : (ln : Int) ≤ (L.cap : Int) := by omega
  have i6 : (0 : Int) ≤ (ln : Int) := by omega
  have i7 : ln ≤ L.cap := by omega
  clear hc1 hc2 hc3 hc4
  clear h hM hN hln hn b2 hok hL
  go_enter Try.func99, Try.ntmps99
  go_wp2
  obtain ⟨X, hX⟩ : ∃ X, X = w.heap.size := ⟨_, rfl⟩
  obtain ⟨W2, hW2⟩ : ∃ W2, W2 = w.alloc (.cells (lineC L) 167) := ⟨_, rfl⟩
  rw [← hX] at z0
  rw [← hW2] at z0
  have N3' : Hid (∀ k ∈ footM m B M, k ≠ X) := by rw [hX]; exact N3
  have H2' : Hid (MemIs W2 m B M) := by rw [hW2]; exact H2
  have O2' : Hid (Only [] w W2) := by rw [hW2]; exact O2
  have B2' : Hid (Blk W2 X 167 (lineC L)) := by rw [hW2, hX]; exact B2
  have HX := hid hX
  rw [← hX, ← hW2]
  clear hW2 hX B2 N3 H2 O2 z0 hlk hst x2
  have lg : L.g ≠ B.ib := by
    have h1 := H2'.out.apart
    have e1 : footM m B M = (m :: B.vb :: B.ib :: B.lb :: pre.map (·.g)) ++ L.g :: post.map (·.g) := by simp only [footM, HM.out, List.map_append, List.map_cons, List.cons_append]
    rw [e1, List.nodup_append] at h1
    exact fun hc => h1.2.2 B.ib (by simp) L.g (List.mem_cons_self ..) hc.symm
  have mib : m ≠ B.ib ∧ B.ib ≠ B.lb := by
    have h1 := H2'.out.apart
    simp only [footM, List.nodup_cons, List.mem_cons, not_or] at h1
    exact ⟨h1.1.2.1, h1.2.2.1.1⟩
  have hLm : L ∈ M.lines := by rw [HM.out]; simp
  have OK := hid (H2'.out.ok L hLm)
  obtain ⟨ic, hic⟩ : ∃ ic, ic = B.ic := ⟨_, rfl⟩
  obtain ⟨vl, hvl⟩ : ∃ vl, vl = M.view.length := ⟨_, rfl⟩
  have HVL := hid hvl
  have LG := hid lg
  have MIB := hid mib
  have LM := hid hLm
  have HMN := hid hmin
  clear lg mib hLm hic hvl hmin
  go_loopw [27] (fun i wr => ∃ k : Nat, k ≤ n ∧ i = .int .i64 k ∧ Hid (WordsAt wr B.ib (applyPuts M.image (L.ps.take k))) ∧ Hid (Only [B.ib] W2 wr)) (fun i _ => (n - (intOf i).toNat))
  case atStart => exact ⟨0, by omega, rfl, H2'.out.image, Only.refl _ _⟩
  case round =>
    obtain ⟨k, hk, rfl, hIm, hO⟩ := hrel
    by_cases hlt : k < n
    · have hkl : k < L.ps.length := by have := HLN.out; omega
      obtain ⟨q, v, hp⟩ : ∃ q v, L.ps[k] = (8 * q, v) ∧ q < vl := by
        have h1 := OK.out.puts L.ps[k] (List.getElem_mem hkl)
        refine ⟨L.ps[k].1 / 8, L.ps[k].2, ?_, by rw [HVL.out]; exact h1.2.1⟩
        refine Prod.ext ?_ rfl
        show _ = 8 * _
        omega
      obtain ⟨hp, hq⟩ := hp
      have hT := hid (show applyPuts M.image (L.ps.take (k + 1)) = (applyPuts M.image (L.ps.take k)).set q v by rw [List.take_succ_eq_append_getElem hkl, applyPuts_snoc, hp]; simp)
      have hrow : RowP wr L := (H2'.out.rows L LM.out).only hO.out (by simpa using LG.out)
      have y0 : wr.cell? ⟨L.g, L.o + k * 2, none⟩ = some (.int .u64 (8 * (q : Int))) := by
        have := hrow.cells (k * 2) (.int .u64 ((8 * q : Nat) : Int)) (by have := putC2_get hkl; rw [hp] at this; exact this.1)
        rwa [add_off] at this
      have y1 : wr.cell? ⟨L.g, L.o + k * 2 + 1, none⟩ = some (.int .u64 v) := by
        have := hrow.cells (k * 2 + 1) (.int .u64 v) (by have := putC2_get hkl; rw [hp] at this; exact this.2)
        rwa [add_off, ← Nat.add_assoc] at this
      have hb : Blk (wr.alloc (.cells #[.int .u64 (8 * (q : Int)), .int .u64 v] 170)) m 133 (memC B M.view.length M.st) := (hO.out.blk H2'.out.blk (by simpa using MIB.out.1)).alloc _
      have y2 : (wr.alloc (.cells #[.int .u64 (8 * (q : Int)), .int .u64 v] 170)).cell? ⟨m, 1, none⟩ = some (.slice (some ⟨B.ib, 0, none⟩) vl B.ic) := by rw [HVL.out]; exact hb.cell 1
      have hIm' : WordsAt (wr.alloc (.cells #[.int .u64 (8 * (q : Int)), .int .u64 v] 170)) B.ib (applyPuts M.image (L.ps.take k)) := hIm.out.only ((Only.refl [] wr).alloc _) (fun h => by cases h)
      have hql : q < (applyPuts M.image (L.ps.take k)).length := by rw [applyPuts_length, H2'.out.len, ← HVL.out]; exact hq
      obtain ⟨z, hz⟩ : ∃ z, (applyPuts M.image (L.ps.take k))[q]? = some z := ⟨_, List.getElem?_eq_getElem hql⟩
      have y3 := hIm'.cell hz
      have y4 := hIm'.frozen q
      have j1 : (8 * (q : Int)) / 8 = q := by omega
      have j2 : (0 : Int) ≤ q := by omega
      have j6 : IntKind.u64.wrap (q : Int) = q := IntWalk.u64_in _ (by have := HVL.out; have := H2'.out.big; omega)
      have j3 : (q : Int) < (vl : Int) := by omega
      have j4 : (0 : Int) ≤ k := by omega
      have j5 : (k : Int) < (n : Int) := by omega
      have HP := hid hp
      clear hrow hb hIm' hp hql hz
      go_wp2
      go_region
      go_wp2
      have hIm2 : Hid (WordsAt ((wr.alloc (.cells #[.int .u64 (8 * (q : Int)), .int .u64 v] 170)).setCell ⟨B.ib, q, none⟩ (.int .u64 v)).drew B.ib (applyPuts M.image (L.ps.take (k + 1)))) := by
        rw [hT.out]
        exact ((hIm.out.only ((Only.refl [] wr).alloc _) (fun h => by cases h)).set_ q v).only ((Only.refl [] _).drew) (fun h => by cases h)
      have hO2 : Hid (Only [B.ib] W2 ((wr.alloc (.cells #[.int .u64 (8 * (q : Int)), .int .u64 v] 170)).setCell ⟨B.ib, q, none⟩ (.int .u64 v)).drew) := ((hO.out.alloc _).setCell (Or.inl (by simp)) _).drew
      clear hIm hO
      go_roundw
      case rel => exact ⟨k + 1, by omega, by go_num, hIm2, hO2⟩
      case measure => simp [intOf]; omega
    · obtain rfl : k = n := by omega
      have b3 : Blk wr X 167 (lineC L) := hO.out.blk B2'.out (by simpa using (N3'.out B.ib (by simp [footM])).symm)
      have z0 : wr.cell? ⟨X, 0, none⟩ = some (.slice (some ⟨L.g, L.o, none⟩) ln L.cap) := by rw [HLN.out]; exact b3.cell 0
      have zf := b3.frozen 0
      have B3 := hid b3
      have HLT : Hid (k ≤ ln) := i3
      have HIM := hid (show Only [B.ib] W2 wr from hO.out)
      clear b3 hk hlt hO
      go_upto_region 8 with (fail)
      repeat go_step
      generalize hPt : (if ln = k then some ({ block := L.g, off := L.o } : Addr) else some { block := L.g, off := L.o + k * 2 }) = Pt
      have HPT := hid hPt
      clear hPt
      obtain ⟨r, hr⟩ : ∃ r, r = ln - k := ⟨_, rfl⟩
      rw [← hr]
      obtain ⟨W3, hW3⟩ : ∃ W3, W3 = wr.setCell ⟨X, 0, none⟩ (.slice Pt r r) := ⟨_, rfl⟩
      rw [← hW3]
      have B4 : Hid (Blk W3 X 167 (lineX Pt r L.ks)) := by rw [hW3, ← lineX_of]; exact B3.out.set_ 0 _
      have O3 : Hid (Only [B.ib, X] W2 W3) := by
        rw [hW3]
        exact (HIM.out.mono (fun x hx => by simp at hx; simp [hx])).setCell (Or.inl (by simp)) _
      have I3 : Hid (WordsAt W3 B.ib (applyPuts M.image (L.ps.take k))) := by
        rw [hW3]
        exact hIm.out.only ((Only.refl [X] wr).setCell (Or.inl (by simp)) _) (by simpa using (N3'.out B.ib (by simp [footM])))
      have HR := hid hr
      have KL := hid OK.out.marks
      clear hW3 hr z0 zf HIM hIm B3
      clear wr
      go_loopw [53] (fun i wr => ∃ j : Nat, j ≤ 65 ∧ i = .int .i64 j ∧ Hid (Blk wr X 167 (lineX Pt r (mixK L.ks k j))) ∧ Hid (Only [X] W3 wr)) (fun i _ => (65 - (intOf i).toNat))
      case atStart => exact ⟨0, by omega, rfl, by simpa [mixK] using B4, Only.refl _ _⟩
      case round =>
        obtain ⟨j, hj, rfl, hB, hO⟩ := hrel
        by_cases hlt : j < 65
        · obtain ⟨a, ha⟩ : ∃ a, L.ks[j]? = some a := ⟨_, List.getElem?_eq_getElem (by rw [KL.out]; exact hlt)⟩
          have hal : a ≤ ln := by rw [HLN.out]; exact OK.out.most a (List.mem_of_getElem? ha)
          have y0 : wr.cell? ⟨X, 1 + j, none⟩ = some (.int .i64 (a : Int)) := by
            rw [hB.out.cell, Nat.add_comm]
            simp [lineX, marksC, mixK_get ha]
          have y1 := hB.out.frozen (1 + j)
          have hw : IntKind.i64.wrap ((a : Int) - (k : Int)) = (a : Int) - (k : Int) := IntWalk.i64_in _ (by omega)
          have hmx : max ((a : Int) - (k : Int)) 0 = ((a - k : Nat) : Int) := by omega
          have j1 : (0 : Int) ≤ j := by omega
          have j2 : (j : Int) < 65 := by omega
          have HA := hid ha
          clear ha
          obtain ⟨wq, hwq⟩ : ∃ wq, wq = wr.setCell ⟨X, 1 + j, none⟩ (.int .i64 ((a - k : Nat) : Int)) := ⟨_, rfl⟩
          have hB2 : Hid (Blk wq X 167 (lineX Pt r (mixK L.ks k (j + 1)))) := by
            rw [hwq, Nat.add_comm, ← mixK_set HA.out, ← lineX_mark]; exact hB.out.set_ (j + 1) _
          have hO2 : Hid (Only [X] W3 wq) := by rw [hwq]; exact hO.out.setCell (Or.inl (by simp)) _
          have HWQ := hid hwq
          clear hwq hB hO
          go_wp2
          go_roundw
          case rel => exact ⟨j + 1, by omega, by go_num, by have := hB2; rwa [HWQ.out] at this, by have := hO2; rwa [HWQ.out] at this⟩
          case measure => simp [intOf]; omega
        · obtain rfl : j = 65 := by omega
          rw [mixK_all (by rw [KL.out]; exact Nat.le_refl _)] at hB
          have z0 : wr.cell? ⟨X, 0, none⟩ = some (.slice Pt r r) := hB.out.cell 0
          have h5 : Hid (MemIs wr m B { M with image := applyPuts M.image (L.ps.take k) }) := by
            have h4 := H2'.out.img O3.out N3'.out I3.out (by rw [applyPuts_length]; exact H2'.out.len)
            exact h4.only hO.out (fun y hy hm => N3'.out y hy (by simpa using hm))
          have O5 : Hid (Only [B.ib, B.lb] w wr) := by
            have h1 : Only [B.ib, X] W2 wr := O3.out.trans hO.out (fun y hy => Or.inl (by simp at hy; simp [hy]))
            refine (O2'.out.mono (g := [B.ib, B.lb]) (fun y hy => by cases hy)).trans h1 (fun y hy => ?_)
            simp at hy
            rcases hy with rfl | rfl
            · exact Or.inl (by simp)
            · exact Or.inr (by rw [HX.out]; exact Nat.le_refl _)
          have HB := hid hB
          have yd : ∀ W : World, W = wr ∨ W = wr.drew → W.cell? ⟨m, 2, none⟩ = some (.map (some B.lb)) := fun W hW => by
            rcases hW with rfl | rfl
            · exact h5.out.blk.cell 2
            · exact h5.out.blk.drew.cell 2
          clear hlt hj hB hO I3 O3
          by_cases hfull : r = 0
          · have y2 := yd wr (Or.inl rfl)
            have hdel : (Builtin.delete_ #[128, 47] 0 #[.map (some B.lb), .int .u64 (L.adr : Int)]).run Try.prog wr = .ok (.tuple #[]) (wr.putObj B.lb (.map ((pre ++ post).map lineE).toArray M.clock)) := by
              have := run_delU (P := Try.prog) wr 128 47 167 47 0 Try.underlying128 Try.underlying47 B.lb _ _ h5.out.map (L.adr : Int) pre.length (.agg (lineC L)) (by simpa using find_line HM.out H2'.out.keys)
              rw [this]
              congr 3
              apply Array.ext'
              rw [Array.toList_eraseIdxIfInBounds]
              simp only [HM.out, List.map_append, List.map_cons]
              rw [show pre.length = (pre.map lineE).length by simp, erase_mid]
            have HF := hid hfull
            clear yd
            go_wp2
            go_ret
            refine ⟨rfl, ?_, O5.out.putObj (Or.inl (by simp)) _⟩
            have h6 := MemIs.dropL h5.out HM.out rfl
            have e : lastM M pre L post k = { M with image := applyPuts M.image (L.ps.take k), lines := pre ++ post } := by
              unfold lastM
              rw [if_pos (by have := HF.out; have := HR.out; have := HLN.out; have := HLT.out; omega)]
              simp
            rw [e]
            simpa only [List.map_append] using h6
          · have e2 : Pt = some ⟨L.g, L.o + k * 2, none⟩ := by rw [← HPT.out, if_neg (by have := HR.out; omega)]
            have hkl : k < L.ps.length := by have := HR.out; have := HLN.out; omega
            have e3 : lineX Pt r (L.ks.map (· - k)) = lineC (cutL L k) := by rw [e2, HR.out, HLN.out]; exact lineX_cut
            rw [e3] at HB
            have y2 := yd wr.drew (Or.inr rfl)
            have ok' := OK.out.cut k hkl
            have hld : (loadCellsFrom ⟨X, 0, none⟩ 0 N #[]).run Try.prog wr.drew = .ok (lineC (cutL L k)) wr.drew := loadCells_blk HB.out.drew ((lineC_size ok').trans HN.out.symm)
            have hup : (Instr.mapUpdate 128 (.map (some B.lb)) (.int .u64 (L.adr : Int)) (.agg (lineC (cutL L k)))).run Try.prog wr.drew =
                .ok () (wr.drew.putObj B.lb (.map ((pre ++ cutL L k :: post).map lineE).toArray M.clock)) := by
              have := run_updU_old (P := Try.prog) wr.drew 128 47 167 Try.underlying128 Try.underlying47 B.lb _ _ h5.out.map (L.adr : Int) (.agg (lineC (cutL L k))) pre.length (.agg (lineC L)) (by simpa using find_line HM.out H2'.out.keys) (by simp [HM.out, lineE])
              rw [this, HM.out]
              congr 3
              exact modify_lines (pre := pre) (post := post) (L := L) (L' := cutL L k) rfl rfl
            have fin : MemIs (wr.drew.putObj B.lb (.map ((pre ++ cutL L k :: post).map lineE).toArray M.clock)) m B { M with image := applyPuts M.image (L.ps.take k), lines := pre ++ cutL L k :: post } :=
              MemIs.reline (L := L) (L' := cutL L k) (h5.out.only ((Only.refl [] wr).drew) (fun k _ hk => by cases hk)) HM.out rfl rfl rfl rfl (fun h => h.cut k (by omega)) ok'
            have FIN := hid fin
            have HF := hid hfull
            have HKL := hid hkl
            have HPT2 := hid e2
            clear yd fin ok' e2 e3 hkl HPT
            have hbe : ((r : Int) == 0) = false := by simpa using hfull
            clear n378 n2 z378 hfull
            go_upto_region 16 with (fail)
            go_region_with fail
            all_goals
              try go_simp
              try simp only [Act.put, List.setIfInBounds_toArray, List.set_cons_zero, List.set_cons_succ]
              go_wp2
              go_ret
              refine ⟨rfl, ?_, (O5.out.drew).putObj (Or.inl (by simp)) _⟩
              have e : lastM M pre L post k = { M with image := applyPuts M.image (L.ps.take k), lines := pre ++ cutL L k :: post } := by
                unfold lastM
                rw [if_neg (by have := HKL.out; omega)]
                simp
              rw [e]
              simpa only [List.map_append, List.map_cons] using FIN.out

end Go.Proofs.Ytbkaemajjaiklaa
