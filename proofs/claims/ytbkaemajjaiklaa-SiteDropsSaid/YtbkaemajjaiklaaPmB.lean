/- A memory of words: its lines; loads. -/
import Derived.Test.YtbkaemajjaiklaaPmA
import Derived.Test.YtbkaemajjaiklaaPmM
namespace Go.Proofs.Ytbkaemajjaiklaa
open Go.RowKit
set_option linter.unusedVariables false
set_option linter.unusedSimpArgs false

def WordsAt (w : World) (b : Nat) (xs : List Int) : Prop := ∃ cur : Array Value, Blk w b 46 cur ∧ ∀ (i : Nat) (x : Int), xs[i]? = some x → cur[i]? = some (Value.int .u64 x)
theorem WordsAt.cell {w : World} {b : Nat} {xs : List Int} (h : WordsAt w b xs) {i : Nat} {x : Int} (hx : xs[i]? = some x) : w.cell? ⟨b, i, none⟩ = some (.int .u64 x) := by
  obtain ⟨cur, h1, h2⟩ := h
  rw [h1.cell]; exact h2 i x hx
theorem WordsAt.frozen {w : World} {b : Nat} {xs : List Int} (h : WordsAt w b xs) (i : Nat) : w.frozen? ⟨b, i, none⟩ = false := by
  obtain ⟨cur, h1, h2⟩ := h
  exact h1.frozen i
theorem WordsAt.lt {w : World} {b : Nat} {xs : List Int} (h : WordsAt w b xs) : b < w.heap.size := by obtain ⟨cur, h1, _⟩ := h; exact h1.lt
theorem WordsAt.only {f : List Nat} {w w' : World} {b : Nat} {xs : List Int} (h : WordsAt w b xs) (ho : Only f w w') (hb : b ∉ f) : WordsAt w' b xs := by
  obtain ⟨cur, h1, h2⟩ := h
  exact ⟨cur, ho.blk h1 hb, h2⟩
theorem WordsAt.set_ {w : World} {b : Nat} {xs : List Int} (h : WordsAt w b xs) (i : Nat) (x : Int) : WordsAt (w.setCell ⟨b, i, none⟩ (.int .u64 x)) b (xs.set i x) := by
  obtain ⟨cur, h1, h2⟩ := h
  refine ⟨_, h1.set_ i (.int .u64 x), fun j y hy => ?_⟩
  rw [List.getElem?_set] at hy
  rw [Array.getElem?_setIfInBounds]
  split at hy
  · rename_i e
    subst e
    split at hy
    · rename_i hl
      injection hy with hy; subst hy
      obtain ⟨z, hz⟩ : ∃ z, xs[i]? = some z := ⟨xs[i], List.getElem?_eq_getElem hl⟩
      have := (Array.getElem?_eq_some_iff.1 (h2 i z hz)).1
      simp [this]
    · cases hy
  · rename_i e
    rw [if_neg e]; exact h2 j y hy

/-- what is pending of a line: where it begins, the row's block, place and room, the stores, the marks, the map's stamp -/
structure LineA where
  adr : Nat
  g : Nat
  o : Nat
  cap : Nat
  ps : List (Nat × Int)
  ks : List Nat
  born : Nat
def marksC (ks : List Nat) : List Value := ks.map fun (k : Nat) => Value.int .i64 (k : Int)
def lineC (L : LineA) : Array Value := (Value.slice (some ⟨L.g, L.o, none⟩) L.ps.length L.cap :: marksC L.ks).toArray
def lineE (L : LineA) : MapEntry := { key := .int .u64 (L.adr : Int), val := .agg (lineC L), born := L.born }
def putC2 (ps : List (Nat × Int)) : List Value := ps.flatMap fun p => [.int .u64 (p.1 : Int), .int .u64 p.2]
def RowP (w : World) (L : LineA) : Prop := ∃ cur : Array Value, Blk w L.g 170 cur ∧ L.ps.length ≤ L.cap ∧ L.o + L.cap * 2 ≤ cur.size ∧ (cur.toList.drop L.o).take (L.ps.length * 2) = putC2 L.ps
theorem RowP.only {f : List Nat} {w w' : World} {L : LineA} (h : RowP w L) (ho : Only f w w') (hb : L.g ∉ f) : RowP w' L := by
  obtain ⟨cur, h1, h2⟩ := h
  exact ⟨cur, ho.blk h1 hb, h2⟩
structure LineOK (n : Nat) (L : LineA) : Prop where
  adr : L.adr % 64 = 0
  some_ : L.ps ≠ []
  puts : ∀ p ∈ L.ps, p.1 % 8 = 0 ∧ p.1 / 8 < n ∧ p.1 - p.1 % 64 = L.adr
  marks : L.ks.length = 65
  most : ∀ k ∈ L.ks, k ≤ L.ps.length
structure MemS where
  view : List Int
  image : List Int
  lines : List LineA
  clock : Nat
  st : St4
def footM (m : Nat) (B : MB) (M : MemS) : List Nat := m :: B.vb :: B.ib :: B.lb :: M.lines.map (·.g)
structure MemIs (w : World) (m : Nat) (B : MB) (M : MemS) : Prop where
  blk : Blk w m 133 (memC B M.view.length M.st)
  pos : 0 < M.view.length
  big : M.view.length ≤ 131072
  len : M.image.length = M.view.length
  view : WordsAt w B.vb M.view
  image : WordsAt w B.ib M.image
  map : w.heap[B.lb]? = some (.map (M.lines.map lineE).toArray M.clock)
  rows : ∀ L ∈ M.lines, RowP w L
  ok : ∀ L ∈ M.lines, LineOK M.view.length L
  keys : M.lines.Pairwise fun a b => a.adr ≠ b.adr
  born : M.lines.Pairwise fun a b => a.born ≠ b.born
  old : ∀ L ∈ M.lines, L.born < M.clock
  apart : (footM m B M).Nodup
theorem MemIs.foot_lt {w : World} {m : Nat} {B : MB} {M : MemS} (h : MemIs w m B M) : ∀ k ∈ footM m B M, k < w.heap.size := by
  intro k hk
  simp only [footM, List.mem_cons, List.mem_map] at hk
  rcases hk with rfl | rfl | rfl | rfl | ⟨L, hL, rfl⟩
  · exact h.blk.lt
  · exact h.view.lt
  · exact h.image.lt
  · exact (Array.getElem?_eq_some_iff.1 h.map).1
  · obtain ⟨cur, h1, _⟩ := h.rows L hL; exact h1.lt
theorem MemIs.only {f : List Nat} {w w' : World} {m : Nat} {B : MB} {M : MemS} (h : MemIs w m B M) (ho : Only f w w') (hf : ∀ k ∈ footM m B M, k ∉ f) : MemIs w' m B M := by
  have f0 := hf m (by simp [footM])
  have f1 := hf B.vb (by simp [footM])
  have f2 := hf B.ib (by simp [footM])
  have f3 := hf B.lb (by simp [footM])
  exact { h with
    blk := ho.blk h.blk f0
    view := h.view.only ho f1
    image := h.image.only ho f2
    map := (ho.block _ (h.foot_lt _ (by simp [footM])) f3).trans h.map
    rows := fun L hL => (h.rows L hL).only ho (hf L.g (by simp only [footM, List.mem_cons, List.mem_map]; exact Or.inr (Or.inr (Or.inr (Or.inr ⟨L, hL, rfl⟩))))) }
/-- other counts -/
theorem MemIs.counts {w w' : World} {m : Nat} {B : MB} {M : MemS} (h : MemIs w m B M) (ho : Only [m] w w') {s : St4} (hb : Blk w' m 133 (memC B M.view.length s)) : MemIs w' m B { M with st := s } := by
  have hnd : m ∉ B.vb :: B.ib :: B.lb :: M.lines.map (·.g) := (List.nodup_cons.1 h.apart).1
  have ne : ∀ k ∈ B.vb :: B.ib :: B.lb :: M.lines.map (·.g), k ∉ [m] := fun k hk hm => by
    rw [List.mem_singleton] at hm; subst hm; exact hnd hk
  exact { h with
    blk := hb
    view := h.view.only ho (ne _ (by simp))
    image := h.image.only ho (ne _ (by simp))
    map := (ho.block _ (h.foot_lt _ (by simp [footM])) (ne _ (by simp))).trans h.map
    rows := fun L hL => (h.rows L hL).only ho (ne L.g (by simp only [List.mem_cons, List.mem_map]; exact Or.inr (Or.inr (Or.inr ⟨L, hL, rfl⟩)))) }

set_option maxRecDepth 100000 in
set_option maxHeartbeats 400000 in
theorem Load_z (m : Nat) (B : MB) (M : MemS) (k : Nat) (hk : k < M.view.length) (w : World) (h : MemIs w m B M) :
    Calls Try.prog 64 #[ptrV m, .int .u64 (8 * (k : Int))] w fun e w' =>
      e = .returned (.tuple #[.int .u64 (M.view[k]'hk), .int .i64 0]) ∧ ∃ s, s.a = (M.st.a + 1) % 18446744073709551616 ∧ s.b = M.st.b ∧ s.c = M.st.c ∧ s.d = M.st.d ∧ MemIs w' m B { M with st := s } ∧ Only [m] w w' := by
  have hbig := h.big
  have x0 : w.cell? ⟨m, 0, none⟩ = some (.slice (some ⟨B.vb, 0, none⟩) M.view.length B.vc) := h.blk.cell 0
  have x3 : w.cell? ⟨m, 3, none⟩ = some (.int .u64 M.st.a) := h.blk.cell 3
  have x3f := h.blk.frozen 3
  have xv : w.cell? ⟨B.vb, k, none⟩ = some (.int .u64 (M.view[k]'hk)) := h.view.cell (List.getElem?_eq_getElem hk)
  have ne : B.vb ≠ m := fun e => (List.nodup_cons.1 h.apart).1 (by rw [← e]; simp)
  have i1 : (8 * (k : Int)) / 8 = k := by omega
  have i2 : (8 * (k : Int)) % 8 = 0 := by omega
  have i3 : (0 : Int) ≤ k := by omega
  have i4 : (k : Int) < (M.view.length : Int) := by omega
  have hz := hid (show atE M.view.length (8 * (k : Int)) = 0 from if_pos ⟨by omega, by omega⟩)
  obtain ⟨n, hn⟩ : ∃ n, n = M.view.length := ⟨_, rfl⟩
  obtain ⟨V, hV⟩ : ∃ V, V = M.view[k]'hk := ⟨_, rfl⟩
  have H := hid h
  have HV := hid hV
  clear h
  go_enter Try.func64, Try.ntmps64
  go_wp2_with fail
  refine (at_z m B M.view.length M.st H.out.pos hbig (8 * (k : Int)) (by omega) (by omega) _ H.out.blk).mono ?_
  rintro e w1 ⟨rfl, rfl⟩
  rw [hz.out]
  go_wp2
  go_ret2
  refine ⟨rfl, ⟨(M.st.a + 1) % 18446744073709551616, M.st.b, M.st.c, M.st.d⟩, rfl, rfl, rfl, rfl, ?_, ?_⟩
  · exact H.out.counts ((Only.refl _ _).setCell (Or.inl (by simp)) _) (H.out.blk.set_ 3 _)
  · exact (Only.refl _ _).setCell (Or.inl (by simp)) _

end Go.Proofs.Ytbkaemajjaiklaa
