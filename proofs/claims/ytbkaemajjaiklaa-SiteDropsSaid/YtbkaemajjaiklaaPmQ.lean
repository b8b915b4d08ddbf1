/- A memory of words: its primitives, loosely: what they count, that they hold the memory. -/
import Derived.Test.YtbkaemajjaiklaaPmN
import Derived.Test.YtbkaemajjaiklaaPmE
namespace Go.Proofs.Ytbkaemajjaiklaa
open Go.RowKit
set_option linter.unusedVariables false
set_option linter.unusedSimpArgs false

def tot (M : MemS) : Int := M.st.a + M.st.b + M.st.c + M.st.d
/-- a memory with few stores pending in each line -/
structure Mems (w : World) (m : Nat) (B : MB) (M : MemS) (K : Nat) : Prop where
  is : MemIs w m B M
  few : ∀ L ∈ M.lines, L.ps.length ≤ K
  two : 2 ≤ M.view.length
/-- what d primitives turn -/
structure Went (m : Nat) (B : MB) (w : World) (M : MemS) (w' : World) (M' : MemS) (d : Nat) : Prop where
  only : Only (footM m B M) w w'
  foot : ∀ k ∈ footM m B M', k ∈ footM m B M ∨ w.heap.size ≤ k
  tot : tot M' % 18446744073709551616 = (tot M + d) % 18446744073709551616
theorem Went.refl (m : Nat) (B : MB) (w : World) (M : MemS) : Went m B w M w M 0 := ⟨Only.refl _ _, fun k hk => Or.inl hk, by simp⟩
theorem Went.trans {m : Nat} {B : MB} {w w1 w2 : World} {M M1 M2 : MemS} {d e : Nat} (h : Went m B w M w1 M1 d) (k : Went m B w1 M1 w2 M2 e) : Went m B w M w2 M2 (d + e) := by
  refine ⟨h.only.trans k.only h.foot, fun x hx => ?_, ?_⟩
  · rcases k.foot x hx with hx | hx
    · exact h.foot x hx
    · exact Or.inr (Nat.le_trans h.only.size hx)
  · have h1 := h.tot
    have h2 := k.tot
    omega
/-- a block that is none of the memory's stands -/
theorem Went.blk {m : Nat} {B : MB} {w w' : World} {M M' : MemS} {d : Nat} (h : Went m B w M w' M' d) {g : Nat} {t : TypeId} {cs : Array Value} (hg : Blk w g t cs) (hn : g ∉ footM m B M) : Blk w' g t cs := h.only.blk hg hn
theorem Went.far {m : Nat} {B : MB} {w w' : World} {M M' : MemS} {d : Nat} (h : Went m B w M w' M' d) {g : Nat} (hg : g < w.heap.size) (hn : g ∉ footM m B M) : g ∉ footM m B M' := fun hc => by
  rcases h.foot g hc with hc | hc
  · exact hn hc
  · omega
theorem Mems.only {f : List Nat} {w w' : World} {m : Nat} {B : MB} {M : MemS} {K : Nat} (h : Mems w m B M K) (ho : Only f w w') (hf : ∀ k ∈ footM m B M, k ∉ f) : Mems w' m B M K := ⟨h.is.only ho hf, h.few, h.two⟩
theorem Mems.mono {w : World} {m : Nat} {B : MB} {M : MemS} {K K' : Nat} (h : Mems w m B M K) (hk : K ≤ K') : Mems w m B M K' := ⟨h.is, fun L hL => Nat.le_trans (h.few L hL) hk, h.two⟩
theorem lineG_mem {m : Nat} {B : MB} {M : MemS} {L : LineA} (h : L ∈ M.lines) : L.g ∈ footM m B M := by
  simp only [footM, List.mem_cons, List.mem_map]
  exact Or.inr (Or.inr (Or.inr (Or.inr ⟨L, h, rfl⟩)))
theorem mem_foot {m : Nat} {B : MB} {M : MemS} {k : Nat} : k ∈ footM m B M ↔ k = m ∨ k = B.vb ∨ k = B.ib ∨ k = B.lb ∨ ∃ L ∈ M.lines, L.g = k := by
  simp only [footM, List.mem_cons, List.mem_map]
/-- what a primitive comes to -/
def Prim (m : Nat) (B : MB) (w : World) (M : MemS) (K : Nat) (e : Ending) (w' : World) : Prop :=
  (∃ v, e = .returned v) ∧ ∃ M', Mems w' m B M' (K + 1) ∧ Went m B w M w' M' 1

theorem Load_p (m : Nat) (B : MB) (M : MemS) (K : Nat) (w : World) (h : Mems w m B M K) : Calls Try.prog 64 #[ptrV m, .int .u64 0] w (Prim m B w M K) := by
  refine (Load_z m B M 0 (by have := h.two; omega) w h.is).mono fun e w' hp => ?_
  obtain ⟨rfl, s, h1, h2, h3, h4, h5, h6⟩ := hp
  refine ⟨⟨_, rfl⟩, _, ⟨h5, fun L hL => Nat.le_succ_of_le (h.few L hL), h.two⟩, ⟨h6.mono (fun x hx => by simp at hx; subst hx; simp [footM]), fun k hk => Or.inl hk, ?_⟩⟩
  simp only [tot, h1, h2, h3, h4]
  omega
theorem Store_p (m : Nat) (B : MB) (M : MemS) (K : Nat) (x : Int) (w : World) (h : Mems w m B M K) (hK : K ≤ 1000000000) : Calls Try.prog 65 #[ptrV m, .int .u64 8, .int .u64 x] w (Prim m B w M K) := by
  by_cases hl : ∃ L ∈ M.lines, L.adr = 8 * 1 - 8 * 1 % 64
  · obtain ⟨L, hL, ha⟩ := hl
    obtain ⟨pre, post, hM⟩ := List.append_of_mem hL
    refine (Store_some m B M 1 x (by have := h.two; omega) pre post L hM ha (Nat.le_trans (h.few L hL) hK) w h.is).mono fun e w' hp => ?_
    obtain ⟨rfl, s, g, o, cap, h1, h2, h3, h4, h5, h6, h7⟩ := hp
    refine ⟨⟨_, rfl⟩, _, ⟨h5, fun L' hL' => ?_, by simpa using h.two⟩, ⟨h6.mono (fun y hy => ?_), fun k hk => ?_, ?_⟩⟩
    · simp only [List.mem_append, List.mem_cons] at hL'
      rcases hL' with h' | rfl | h'
      · exact Nat.le_succ_of_le (h.few L' (by rw [hM]; simp [h']))
      · simp; exact h.few L hL
      · exact Nat.le_succ_of_le (h.few L' (by rw [hM]; simp [h']))
    · simp at hy
      rw [mem_foot]
      rcases hy with rfl | rfl | rfl | rfl
      · simp
      · simp
      · simp
      · exact Or.inr (Or.inr (Or.inr (Or.inr ⟨L, hL, rfl⟩)))
    · rw [mem_foot] at hk ⊢
      rcases hk with hk | hk | hk | hk | ⟨L', hL', rfl⟩
      · exact Or.inl (Or.inl hk)
      · exact Or.inl (Or.inr (Or.inl hk))
      · exact Or.inl (Or.inr (Or.inr (Or.inl hk)))
      · exact Or.inl (Or.inr (Or.inr (Or.inr (Or.inl hk))))
      · simp only [List.mem_append, List.mem_cons] at hL'
        rcases hL' with h' | rfl | h'
        · exact Or.inl (Or.inr (Or.inr (Or.inr (Or.inr ⟨L', by rw [hM]; simp [h'], rfl⟩))))
        · rcases h7 with h7 | h7
          · exact Or.inl (Or.inr (Or.inr (Or.inr (Or.inr ⟨L, hL, h7.symm⟩))))
          · exact Or.inr h7
        · exact Or.inl (Or.inr (Or.inr (Or.inr (Or.inr ⟨L', by rw [hM]; simp [h'], rfl⟩))))
    · simp only [tot, h1, h2, h3, h4]
      omega
  · refine (Store_none m B M 1 x (by have := h.two; omega) (fun L hL hc => hl ⟨L, hL, hc⟩) w h.is).mono fun e w' hp => ?_
    obtain ⟨rfl, s, g, cap, h1, h2, h3, h4, h5, h6, h7⟩ := hp
    refine ⟨⟨_, rfl⟩, _, ⟨h5, fun L' hL' => ?_, by simpa using h.two⟩, ⟨h6.mono (fun y hy => ?_), fun k hk => ?_, ?_⟩⟩
    · simp only [List.mem_append, List.mem_singleton] at hL'
      rcases hL' with h' | rfl
      · exact Nat.le_succ_of_le (h.few L' h')
      · simp
    · simp at hy
      rw [mem_foot]
      rcases hy with rfl | rfl | rfl <;> simp
    · rw [mem_foot] at hk ⊢
      rcases hk with hk | hk | hk | hk | ⟨L', hL', rfl⟩
      · exact Or.inl (Or.inl hk)
      · exact Or.inl (Or.inr (Or.inl hk))
      · exact Or.inl (Or.inr (Or.inr (Or.inl hk)))
      · exact Or.inl (Or.inr (Or.inr (Or.inr (Or.inl hk))))
      · simp only [List.mem_append, List.mem_singleton] at hL'
        rcases hL' with h' | rfl
        · exact Or.inl (Or.inr (Or.inr (Or.inr (Or.inr ⟨L', h', rfl⟩))))
        · exact Or.inr h7
    · simp only [tot, h1, h2, h3, h4]
      omega
theorem Flush_p (m : Nat) (B : MB) (M : MemS) (K : Nat) (w : World) (h : Mems w m B M K) (hK : K ≤ 1000000000) : Calls Try.prog 66 #[ptrV m, .int .i64 3, .int .u64 0] w (Prim m B w M K) := by
  by_cases hl : ∃ L ∈ M.lines, L.adr = 8 * 0 - 8 * 0 % 64
  · obtain ⟨L, hL, ha⟩ := hl
    obtain ⟨pre, post, hM⟩ := List.append_of_mem hL
    refine (Flush_some m B M 3 0 (by omega) (by have := h.two; omega) pre post L hM ha (Nat.le_trans (h.few L hL) hK) w h.is).mono fun e w' hp => ?_
    obtain ⟨rfl, s, h1, h2, h3, h4, h5, h6⟩ := hp
    refine ⟨⟨_, rfl⟩, _, ⟨h5, fun L' hL' => ?_, h.two⟩, ⟨h6.mono (fun y hy => ?_), fun k hk => ?_, ?_⟩⟩
    · simp only [List.mem_append, List.mem_cons] at hL'
      rcases hL' with h' | rfl | h'
      · exact Nat.le_succ_of_le (h.few L' (by rw [hM]; simp [h']))
      · exact Nat.le_succ_of_le (h.few L hL)
      · exact Nat.le_succ_of_le (h.few L' (by rw [hM]; simp [h']))
    · simp at hy
      rw [mem_foot]
      rcases hy with rfl | rfl <;> simp
    · refine Or.inl ?_
      rw [mem_foot] at hk ⊢
      rcases hk with hk | hk | hk | hk | ⟨L', hL', rfl⟩
      · exact Or.inl hk
      · exact Or.inr (Or.inl hk)
      · exact Or.inr (Or.inr (Or.inl hk))
      · exact Or.inr (Or.inr (Or.inr (Or.inl hk)))
      · simp only [List.mem_append, List.mem_cons] at hL'
        rcases hL' with h' | rfl | h'
        · exact Or.inr (Or.inr (Or.inr (Or.inr ⟨L', by rw [hM]; simp [h'], rfl⟩)))
        · exact Or.inr (Or.inr (Or.inr (Or.inr ⟨L, hL, rfl⟩)))
        · exact Or.inr (Or.inr (Or.inr (Or.inr ⟨L', by rw [hM]; simp [h'], rfl⟩)))
    · simp only [tot, h1, h2, h3, h4]
      omega
  · refine (Flush_none m B M 3 0 (by omega) (by have := h.two; omega) (fun L hL hc => hl ⟨L, hL, hc⟩) w h.is).mono fun e w' hp => ?_
    obtain ⟨rfl, s, h1, h2, h3, h4, h5, h6⟩ := hp
    refine ⟨⟨_, rfl⟩, _, ⟨h5, fun L hL => Nat.le_succ_of_le (h.few L hL), h.two⟩, ⟨h6.mono (fun x hx => by simp at hx; subst hx; simp [footM]), fun k hk => Or.inl hk, ?_⟩⟩
    simp only [tot, h1, h2, h3, h4]
    omega
theorem Fence_p (m : Nat) (B : MB) (M : MemS) (K : Nat) (w : World) (h : Mems w m B M K) (hK : K ≤ 1000000000) : Calls Try.prog 67 #[ptrV m, .int .i64 3] w (Prim m B w M K) := by
  refine (Fence_z m B M 3 (by omega) (fun L hL => Nat.le_trans (h.few L hL) hK) w h.is).mono fun e w' hp => ?_
  obtain ⟨rfl, s, h1, h2, h3, h4, h5, h6⟩ := hp
  refine ⟨⟨_, rfl⟩, _, ⟨h5, fun L' hL' => ?_, h.two⟩, ⟨h6.mono (fun y hy => ?_), fun k hk => Or.inl ?_, ?_⟩⟩
  · simp only [partM, List.mem_flatMap] at hL'
    obtain ⟨L, hL, hm⟩ := hL'
    have := h.few L hL
    simp only [if_true, cutO] at hm
    split at hm
    · cases hm
    · rw [List.mem_singleton] at hm; subst hm
      simp [cutL]; omega
  · simp at hy
    rw [mem_foot]
    rcases hy with rfl | rfl | rfl <;> simp
  · exact part_foot (M := { M with st := s }) k hk
  · simp only [tot, partM, h1, h2, h3, h4]
    omega

end Go.Proofs.Ytbkaemajjaiklaa
