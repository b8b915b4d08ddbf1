/- A turn's steps, done whole. -/
import Derived.Test.YtbkaemajjaiklaaGreatPlN
import Derived.Test.YtbkaemajjaiklaaGreatPmT
import Derived.Test.YtbkaemajjaiklaaGreatGameC

namespace Go.Proofs.YtbkaemajjaiklaaGreat
open Go.RowKit
set_option linter.unusedVariables false
set_option linter.unusedSimpArgs false

/-- the blocks behind so many steps of a turn -/
def stepsSA (A : SA) (i j b : Nat) (tb : Int) (ph : Nat) : SA := if ph ≤ 1 then A else hdSA A i (newB tb b j)
def bitS (b j : Nat) (tb : Int) (ph : Nat) : Nat := if ph ≤ 1 then b else newB tb b j
def stepsMA (m : MA) (i c j b : Nat) (tb : Int) (cl : Nat) : Nat → MA
  | 0 => m
  | ph + 1 => nextMA (stepsMA m i c j b tb cl ph) i c j (bitS b j tb ph) tb cl ph
/-- behind ph steps -/
structure WhI (w : World) (N : Nat) (B : SB) (V : Nat → Value) (A : SA) (n m : Nat) (Q : MB) (M : MemS) (K t cl : Nat) (a tb : Int) (i c j b ph : Nat) (W : World) (M' : MemS) (V' : Nat → Value) : Prop where
  work : Work W N B V' (stepsSA A i j b tb ph) n m Q M' (K + ph)
  turn : TurnOK W B V' (stepsSA A i j b tb ph) n m Q M' t cl a tb i c j (bitS b j tb ph) ph
  st : Stept t B V V' m Q M M' w W
  ma : absM M' = stepsMA (absM M) i c j b tb cl ph
theorem Stept.join {t : Nat} {B : SB} {V V1 V2 : Nat → Value} {m : Nat} {Q : MB} {M M1 M2 : MemS} {w w1 w2 : World} (h : Stept t B V V1 m Q M M1 w w1) (k : Stept t B V1 V2 m Q M1 M2 w1 w2) : Stept t B V V2 m Q M M2 w w2 := by
  have hs := h.only.size
  refine ⟨h.only.trans k.only (fun x hx => ?_), fun x hx => ?_, fun x hx => ?_⟩
  · simp only [List.cons_append, List.mem_cons, List.mem_append] at hx ⊢
    rcases hx with rfl | hx | hx
    · exact Or.inl (Or.inl rfl)
    · exact (h.fm x hx).imp (fun hh => Or.inr (Or.inl hh)) id
    · exact (h.fs x hx).imp (fun hh => Or.inr (Or.inr hh)) id
  · rcases k.fm x hx with h1 | h1
    · exact h.fm x h1
    · exact Or.inr (by omega)
  · rcases k.fs x hx with h1 | h1
    · exact h.fs x h1
    · exact Or.inr (by omega)
theorem Stept.refl (t : Nat) (B : SB) (V : Nat → Value) (m : Nat) (Q : MB) (M : MemS) (w : World) : Stept t B V V m Q M M w w := ⟨Only.refl _ _, fun _ h => Or.inl h, fun _ h => Or.inl h⟩
theorem nextSA_steps (A : SA) (i c j b : Nat) (a tb : Int) (ph : Nat) (hp : ph < 3) : nextSA (stepsSA A i j b tb ph) i c j (bitS b j tb ph) a tb ph = stepsSA A i j b tb (ph + 1) := by
  rcases (by omega : ph = 0 ∨ ph = 1 ∨ ph = 2) with rfl | rfl | rfl <;> rfl
theorem WhI.next {w : World} {N : Nat} {B : SB} {V : Nat → Value} {A : SA} {n m : Nat} {Q : MB} {M : MemS} {K t cl : Nat} {a tb : Int} {i c j b ph : Nat} {W W' : World} {M1 M2 : MemS} {V1 V2 : Nat → Value} (h : WhI w N B V A n m Q M K t cl a tb i c j b ph W M1 V1) (hp : ph < 3)
    (hs : StepW W N B V1 (stepsSA A i j b tb ph) n m Q M1 (K + ph) t cl a tb i c j (bitS b j tb ph) ph W' M2 V2) : WhI w N B V A n m Q M K t cl a tb i c j b (ph + 1) W' M2 V2 := by
  have hw := hs.work
  rw [nextSA_steps _ _ _ _ _ _ _ _ hp] at hw
  have ht := h.turn
  have htl := ht.blk.lt
  have hi := ht.i1
  have hl := h.work.hl
  refine ⟨hw, ⟨hs.blk, by omega, fun hm => ?_, fun hm => ?_, ht.ii, ht.i1, ?_, ht.c3, ht.jj, ht.j64, ?_, ?_, ht.aa, ht.cl64, ht.tbb, ?_, ?_⟩, h.st.join hs.st, ?_⟩
  · rcases hs.st.fm _ hm with h1 | h1
    · exact ht.fm h1
    · omega
  · rcases hs.st.fs _ hm with h1 | h1
    · exact ht.fs h1
    · omega
  · have hcc := ht.cc
    unfold stepsSA at hcc ⊢
    split <;> split at hcc <;> simpa [hdSA_cls] using hcc
  · rcases (by omega : ph = 0 ∨ ph = 1 ∨ ph = 2) with rfl | rfl | rfl
    · exact ht.bb
    · show ((A.hd.set i ((A.hd.getD i (0, 0)).1, ((newB tb b j : Nat) : Int))).getD i (0, 0)).2 = _
      have hl' : A.hd.length = 1 + n := h.work.hl
      rw [List.getD_eq_getElem?_getD, List.getElem?_set_self (by omega)]; rfl
    · exact ht.bb
  · have h64 := ht.b64
    unfold bitS at h64 ⊢
    rcases (by omega : ph = 0 ∨ ph = 1 ∨ ph = 2) with rfl | rfl | rfl
    · exact h64
    · exact newB_lt h64 ht.j64
    · exact h64
  · have := ht.is
    unfold stepsSA at this ⊢
    split <;> split at this <;> exact this
  · have := ht.fr
    unfold stepsSA at this ⊢
    split <;> split at this <;> exact this
  · show absM M2 = nextMA (stepsMA (absM M) i c j b tb cl ph) i c j (bitS b j tb ph) tb cl ph
    rw [← h.ma]; exact hs.ma
/-- behind all four -/
structure WhE (w : World) (N : Nat) (B : SB) (V : Nat → Value) (A : SA) (n m : Nat) (Q : MB) (M : MemS) (K t cl : Nat) (a tb : Int) (i c j b : Nat) (W : World) (M' : MemS) (V' : Nat → Value) : Prop where
  work : Work W N B V' (nextSA (stepsSA A i j b tb 3) i c j (bitS b j tb 3) a tb 3) n m Q M' (K + 4)
  blk : Blk W t 162 (turnC B.s m t cl a tb 4)
  st : Stept t B V V' m Q M M' w W
  ma : absM M' = stepsMA (absM M) i c j b tb cl 4

end Go.Proofs.YtbkaemajjaiklaaGreat

/- The chapter's rows of layer 6 (known), by contracts. -/
namespace Go.Proofs.YtbkaemajjaiklaaGreat
open Go.RowKit
set_option linter.unusedVariables false
set_option linter.unusedSimpArgs false

theorem bytesW_zeros (n : Nat) : bytesW (List.replicate n 0) = List.replicate (8 * n) 0 := by
  induction n with
  | zero => rfl
  | succ n ih => rw [List.replicate_succ, show bytesW (0 :: List.replicate n 0) = wB 0 ++ bytesW (List.replicate n 0) from rfl, ih, show wB 0 = List.replicate 8 0 from rfl, List.replicate_append_replicate]; congr 1; omega
theorem clsAt_zeros (n i : Nat) : clsAt (List.replicate n 0) i = 0 := by
  unfold clsAt; rw [List.drop_replicate, List.take_replicate, leW_zeros]; rfl
theorem bitAt_zeros (n i : Nat) : bitAt (List.replicate n 0) i = 0 := by
  unfold bitAt; rw [List.drop_replicate, List.take_replicate, leW_zeros]; rfl
/-- the memory and the blocks, apart -/
structure K6 (w : World) (N : Nat) (B : SB) (V : Nat → Value) (A : SA) (m : Nat) (Q : MB) (M : MemS) (W : World) : Prop where
  work : Work W N B V A 2 m Q M 0
  bel : Below w.heap.size w W
  lo : w.heap.size ≤ N
  loM : ∀ k ∈ footM m Q M, w.heap.size ≤ k
theorem K6.moved {w : World} {N : Nat} {B : SB} {V V' : Nat → Value} {A A' : SA} {m : Nat} {Q : MB} {M : MemS} {W W' : World} (h : K6 w N B V A m Q M W) (hs : SlabIs W' N B V' ((8 * M.view.length : Nat) : Int) A') (hm : Moved B V V' W W') (hl : A'.hd.length = A.hd.length) : K6 w N B V' A' m Q M W' :=
  ⟨h.work.moved hs hm hl, h.bel.trans (hm.only.below (fun k hk => by obtain ⟨i, hi⟩ := foot_mem.1 hk; exact Nat.le_trans h.lo (h.work.sl.lo i k hi)) h.bel.size), h.lo, h.loM⟩

end Go.Proofs.YtbkaemajjaiklaaGreat
