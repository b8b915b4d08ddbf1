/- slab.Of: what it comes to, of any bytes. -/
import Derived.Test.YtbkaemajjaiklaaGreatSlabB
import Derived.Test.YtbkaemajjaiklaaGreatBitD
import Derived.Test.YtbkaemajjaiklaaGreatGeoB
namespace Go.Proofs.YtbkaemajjaiklaaGreat
open Go.RowKit Go.Shelf
set_option linter.unusedVariables false
set_option linter.unusedSimpArgs false

attribute [local go_sem] Oper.semAt_some

def clsAt (bs : List Int) (i : Nat) : Nat := (leW ((bs.drop (1024 * i)).take 8)).toNat
def bitAt (bs : List Int) (i : Nat) : Nat := (leW ((bs.drop (1024 * i + 8)).take 8)).toNat
def useSA (A : SA) (i c j : Nat) : SA := { A with fr := updN A.fr c (dropA (A.fr c) (blockZ i c j)), is := isSet A.is (blockZ i c j) 2 }
def bitsSA (A : SA) (i c : Nat) (l : List (Fin 64)) : SA := l.foldl (fun A j => useSA A i c j.val) A
def hdSA (A : SA) (i b : Nat) : SA := { A with hd := A.hd.set i ((A.hd.getD i (0, 0)).1, (b : Int)) }
def oneSA (A : SA) (i c b : Nat) : SA := bitsSA (giveSA (hdSA A i b) i c) i c (setBits b)
def newSA (n : Nat) : SA := ⟨List.replicate (1 + n) (0, 0), fun _ => [], []⟩
def ofTo (bs : List Int) (n : Nat) : Nat → SA
  | 0 => newSA n
  | k + 1 => oneSA (ofTo bs n k) (k + 1) (clsAt bs (k + 1)) (bitAt bs (k + 1))
def headOK (bs : List Int) (i : Nat) : Bool := decide (clsAt bs i ≤ 3) && mayBits (bitAt bs i) (blocksZ (clsAt bs i))
theorem bitsSA_hd (A : SA) (i c : Nat) (l : List (Fin 64)) : (bitsSA A i c l).hd = A.hd := by
  unfold bitsSA
  induction l generalizing A with
  | nil => rfl
  | cons x l ih => rw [List.foldl_cons, ih]; rfl
theorem bitsSA_len (A : SA) (i c : Nat) (l : List (Fin 64)) (d : Nat) : ((bitsSA A i c l).fr d).length ≤ (A.fr d).length := by
  unfold bitsSA
  induction l generalizing A with
  | nil => exact Nat.le_refl _
  | cons x l ih =>
    rw [List.foldl_cons]
    refine Nat.le_trans (ih _) ?_
    show ((updN A.fr c (dropA (A.fr c) (blockZ i c x.val))) d).length ≤ _
    unfold updN
    split
    · rename_i e; subst e; exact dropA_length _ _
    · exact Nat.le_refl _
theorem bitsSA_snoc (A : SA) (i c : Nat) (l : List (Fin 64)) (x : Fin 64) : bitsSA A i c (l ++ [x]) = useSA (bitsSA A i c l) i c x.val := by
  unfold bitsSA; rw [List.foldl_append]; rfl
theorem ofTo_hd (bs : List Int) (n k : Nat) : (ofTo bs n k).hd.length = 1 + n := by
  induction k with
  | zero => simp [ofTo, newSA]
  | succ k ih => simp [ofTo, oneSA, bitsSA_hd, giveSA, giveTo_hd, hdSA, ih]
theorem nb_le (c : Nat) : nb c ≤ 15 := by
  have := blocksZ_le c
  unfold nb; omega
theorem ofTo_len (bs : List Int) (n k d : Nat) : ((ofTo bs n k).fr d).length ≤ 15 * k := by
  induction k with
  | zero => simp [ofTo, newSA]
  | succ k ih =>
    refine Nat.le_trans (bitsSA_len _ _ _ _ d) ?_
    refine Nat.le_trans (giveTo_len _ _ _ _ d) ?_
    have := nb_le (clsAt bs (k + 1))
    show ((ofTo bs n k).fr d).length + _ ≤ _
    omega

/-- while the sets are made -/
structure Made (w : World) (size : Int) (n k : Nat) (f : Nat → Nat) (W : World) : Prop where
  bel : Below w.heap.size w W
  st : Blk W (w.heap.size + 2) 95 #[.int .i64 size, .slice (some ⟨w.heap.size, 0, none⟩) (1 + n) (1 + n), .pointer (if 0 < k then some ⟨f 0, 0, none⟩ else none), .pointer (if 1 < k then some ⟨f 1, 0, none⟩ else none), .pointer (if 2 < k then some ⟨f 2, 0, none⟩ else none), .pointer (if 3 < k then some ⟨f 3, 0, none⟩ else none), .map (some (w.heap.size + 1))]
  hdr : Blk W w.heap.size 101 (headC (List.replicate (1 + n) (0, 0))).toArray
  mp : W.heap[w.heap.size + 1]? = some (.map #[] 0)
  box : Blk W (w.heap.size + 3) 28 #[.pointer (some ⟨w.heap.size + 2, 0, none⟩)]
  fre : ∀ c, c < k → FreeRow W (f c) (.slice none 0 0) []
  inj : ∀ c d, c < k → d < k → f c = f d → c = d
  far : ∀ c, c < k → w.heap.size + 4 ≤ f c
theorem Made.done {w W : World} {size : Int} {n : Nat} {f : Nat → Nat} (h : Made w size n 4 f W) : SlabIs W w.heap.size ⟨w.heap.size + 2, w.heap.size, w.heap.size + 1, f 0, f 1, f 2, f 3⟩ (fun _ => .slice none 0 0) size (newSA n) := by
  have hf : ∀ c, c < 4 → SB.f ⟨w.heap.size + 2, w.heap.size, w.heap.size + 1, f 0, f 1, f 2, f 3⟩ c = f c := by
    intro c hc
    have : c = 0 ∨ c = 1 ∨ c = 2 ∨ c = 3 := by omega
    rcases this with rfl | rfl | rfl | rfl <;> rfl
  have hr : ∀ i k, role ⟨w.heap.size + 2, w.heap.size, w.heap.size + 1, f 0, f 1, f 2, f 3⟩ (fun _ => Value.slice none 0 0) i = some k → (i = 0 ∧ k = w.heap.size + 2) ∨ (i = 1 ∧ k = w.heap.size) ∨ (i = 2 ∧ k = w.heap.size + 1) ∨ ∃ c, c < 4 ∧ i = 3 + c ∧ k = f c := by
    intro i k hk
    unfold role at hk
    split at hk
    · exact Or.inl ⟨by assumption, by injection hk with hk; exact hk.symm⟩
    · split at hk
      · exact Or.inr (Or.inl ⟨by assumption, by injection hk with hk; exact hk.symm⟩)
      · split at hk
        · exact Or.inr (Or.inr (Or.inl ⟨by assumption, by injection hk with hk; exact hk.symm⟩))
        · split at hk
          · injection hk with hk
            rw [hf _ (by omega)] at hk
            exact Or.inr (Or.inr (Or.inr ⟨i - 3, by omega, by omega, hk.symm⟩))
          · split at hk
            · cases hk
            · cases hk
  refine ⟨?_, h.hdr, fun c hc => ?_, ⟨_, _, h.mp, rfl, by simp [BornOK]⟩, ?_, ?_⟩
  · have := h.st
    simp only [show (0 : Nat) < 4 by omega, show (1 : Nat) < 4 by omega, show (2 : Nat) < 4 by omega, show (3 : Nat) < 4 by omega, if_true] at this
    simpa [slabC, newSA] using this
  · rw [hf c hc]; exact h.fre c hc
  · intro i j k hi hj
    have h1 := hr i k hi
    have h2 := hr j k hj
    rcases h1 with ⟨a1, a2⟩ | ⟨a1, a2⟩ | ⟨a1, a2⟩ | ⟨c, a0, a1, a2⟩ <;> rcases h2 with ⟨b1, b2⟩ | ⟨b1, b2⟩ | ⟨b1, b2⟩ | ⟨d, b0, b1, b2⟩ <;> try omega
    · have := h.far d b0; omega
    · have := h.far d b0; omega
    · have := h.far d b0; omega
    · have := h.far c a0; omega
    · have := h.far c a0; omega
    · have := h.far c a0; omega
    · have := h.inj c d a0 b0 (by omega); omega
  · intro i k hi
    rcases hr i k hi with ⟨a1, a2⟩ | ⟨a1, a2⟩ | ⟨a1, a2⟩ | ⟨c, a0, a1, a2⟩ <;> try omega
    have := h.far c a0; omega

theorem headC_rep (n : Nat) : headC (List.replicate n (0, 0)) = (List.replicate n [Value.int .i64 0, .int .u64 0]).flatten := by
  induction n with
  | zero => rfl
  | succ n ih => rw [List.replicate_succ, List.replicate_succ, List.flatten_cons, ← ih]; rfl
theorem made_heads (n : Nat) : madeCells #[Value.int .i64 0, .int .u64 0] (n * 2) = (headC (List.replicate n (0, 0))).toArray := by
  apply Array.ext
  · rw [size_madeCells]; simp [headC_length]; omega
  · intro i h1 h2
    rw [size_madeCells] at h1
    have hi : i = 2 * (i / 2) ∨ i = 2 * (i / 2) + 1 := by omega
    have hlt : i / 2 < (List.replicate n ((0 : Int), (0 : Int))).length := by simp; omega
    have hg := headC_get (List.replicate n ((0 : Int), (0 : Int))) (i / 2) hlt
    simp only [List.getElem_replicate] at hg
    have e2 : (headC (List.replicate n (0, 0))).toArray[i]? = some (if i % 2 = 0 then Value.int .i64 0 else .int .u64 0) := by
      rw [List.getElem?_toArray]
      rcases hi with hi | hi
      · rw [hi, hg.1, if_pos (by omega)]
      · rw [hi, hg.2, if_neg (by omega)]
    have e1 : (headC (List.replicate n (0, 0))).toArray[i] = if i % 2 = 0 then Value.int .i64 0 else .int .u64 0 := by
      have := Array.getElem?_eq_getElem h2
      rw [e2] at this
      exact (Option.some.inj this).symm
    rw [e1]
    simp only [madeCells, Array.getElem_map, Array.getElem_range]
    have h3 : i % 2 = 0 ∨ i % 2 = 1 := by omega
    rcases h3 with h3 | h3
    · simp [h3]
    · simp [h3]

theorem heads_info : ∃ i, Tryz.prog.info? 101 = some i ∧ i.zero = some (.agg #[.int .i64 0, .int .u64 0]) ∧ i.size = 2 ∧ i.bytes = 16 := by
  have h : (Tryz.prog.info? 101).map (fun i => (i.zero, i.size, i.bytes)) = some (some (.agg #[.int .i64 0, .int .u64 0]), 2, 16) := by kernel_rfl
  obtain ⟨i, hi, hz⟩ := Option.map_eq_some_iff.1 h
  simp only [Prod.mk.injEq] at hz
  exact ⟨i, hi, hz.1, hz.2.1, hz.2.2⟩
theorem run_heads (n : Nat) (hn : n ≤ 1000) (w : World) : (Instr.makeSlice 90 (.int .i64 (n : Int)) (.int .i64 (n : Int))).run Tryz.prog w = .ok (.slice (some ⟨w.heap.size, 0, none⟩) n n) (w.alloc (.cells (headC (List.replicate n (0, 0))).toArray 101)) := by
  obtain ⟨i, h1, h2, h3, h4⟩ := heads_info
  have := run_make (P := Tryz.prog) w 90 101 i _ Tryz.underlying90 h1 h2 .i64 .i64 (n : Int) (n : Int) (by omega) (Int.le_refl _) (by rw [h4]; omega) (by omega)
  rw [Int.toNat_natCast, h3] at this
  rw [this]
  show Result.ok _ (w.alloc (.cells (madeCells #[Value.int .i64 0, .int .u64 0] (n * 2)) _)) = _
  rw [made_heads]

end Go.Proofs.YtbkaemajjaiklaaGreat
