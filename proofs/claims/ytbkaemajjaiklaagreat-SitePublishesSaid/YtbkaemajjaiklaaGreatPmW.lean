/- A memory of words: its primitives, loosely: what they count, that they hold the memory. -/
import Derived.Test.YtbkaemajjaiklaaGreatPmV
import Derived.Test.YtbkaemajjaiklaaGreatPmE

namespace Go.Proofs.YtbkaemajjaiklaaGreat
open Go.RowKit
set_option linter.unusedVariables false
set_option linter.unusedSimpArgs false

def tot (M : MemS) : Int := M.st.a + M.st.b + M.st.c + M.st.d
/-- a memory with few stores pending in each line -/
structure Mems (w : World) (m : Nat) (B : MB) (M : MemS) (K : Nat) : Prop where
  is : MemIs w m B M
  few : ∀ L ∈ M.lines, L.ps.length ≤ K
  two : 2 ≤ M.view.length
/-- what d primitives turn -/
structure Went (m : Nat) (B : MB) (w : World) (M : MemS) (w' : World) (M' : MemS) (d : Nat) : Prop where
  only : Only (footM m B M) w w'
  foot : ∀ k ∈ footM m B M', k ∈ footM m B M ∨ w.heap.size ≤ k
  tot : tot M' % 18446744073709551616 = (tot M + d) % 18446744073709551616
theorem Went.refl (m : Nat) (B : MB) (w : World) (M : MemS) : Went m B w M w M 0 := ⟨Only.refl _ _, fun k hk => Or.inl hk, by simp⟩
theorem Went.trans {m : Nat} {B : MB} {w w1 w2 : World} {M M1 M2 : MemS} {d e : Nat} (h : Went m B w M w1 M1 d) (k : Went m B w1 M1 w2 M2 e) : Went m B w M w2 M2 (d + e) := by
  refine ⟨h.only.trans k.only h.foot, fun x hx => ?_, ?_⟩
  · rcases k.foot x hx with hx | hx
    · exact h.foot x hx
    · exact Or.inr (Nat.le_trans h.only.size hx)
  · have h1 := h.tot
    have h2 := k.tot
    omega
/-- a block that is none of the memory's stands -/
theorem Went.blk {m : Nat} {B : MB} {w w' : World} {M M' : MemS} {d : Nat} (h : Went m B w M w' M' d) {g : Nat} {t : TypeId} {cs : Array Value} (hg : Blk w g t cs) (hn : g ∉ footM m B M) : Blk w' g t cs := h.only.blk hg hn
theorem Went.far {m : Nat} {B : MB} {w w' : World} {M M' : MemS} {d : Nat} (h : Went m B w M w' M' d) {g : Nat} (hg : g < w.heap.size) (hn : g ∉ footM m B M) : g ∉ footM m B M' := fun hc => by
  rcases h.foot g hc with hc | hc
  · exact hn hc
  · omega
theorem Mems.only {f : List Nat} {w w' : World} {m : Nat} {B : MB} {M : MemS} {K : Nat} (h : Mems w m B M K) (ho : Only f w w') (hf : ∀ k ∈ footM m B M, k ∉ f) : Mems w' m B M K := ⟨h.is.only ho hf, h.few, h.two⟩
theorem Mems.mono {w : World} {m : Nat} {B : MB} {M : MemS} {K K' : Nat} (h : Mems w m B M K) (hk : K ≤ K') : Mems w m B M K' := ⟨h.is, fun L hL => Nat.le_trans (h.few L hL) hk, h.two⟩
theorem lineG_mem {m : Nat} {B : MB} {M : MemS} {L : LineA} (h : L ∈ M.lines) : L.g ∈ footM m B M := by
  simp only [footM, List.mem_cons, List.mem_map]
  exact Or.inr (Or.inr (Or.inr (Or.inr ⟨L, h, rfl⟩)))
theorem mem_foot {m : Nat} {B : MB} {M : MemS} {k : Nat} : k ∈ footM m B M ↔ k = m ∨ k = B.vb ∨ k = B.ib ∨ k = B.lb ∨ ∃ L ∈ M.lines, L.g = k := by
  simp only [footM, List.mem_cons, List.mem_map]
/-- what a primitive comes to -/
def Prim (m : Nat) (B : MB) (w : World) (M : MemS) (K : Nat) (e : Ending) (w' : World) : Prop :=
  (∃ v, e = .returned v) ∧ ∃ M', Mems w' m B M' (K + 1) ∧ Went m B w M w' M' 1

theorem Load_p (m : Nat) (B : MB) (M : MemS) (K : Nat) (w : World) (h : Mems w m B M K) : Calls Tryz.prog 111 #[ptrV m, .int .u64 0] w (Prim m B w M K) := by
  refine (Load_z m B M 0 (by have := h.two; omega) w h.is).mono fun e w' hp => ?_
  obtain ⟨rfl, s, h1, h2, h3, h4, h5, h6⟩ := hp
  refine ⟨⟨_, rfl⟩, _, ⟨h5, fun L hL => Nat.le_succ_of_le (h.few L hL), h.two⟩, ⟨h6.mono (fun x hx => by simp at hx; subst hx; simp [footM]), fun k hk => Or.inl hk, ?_⟩⟩
  simp only [tot, h1, h2, h3, h4]
  omega
theorem Store_p (m : Nat) (B : MB) (M : MemS) (K : Nat) (x : Int) (w : World) (h : Mems w m B M K) (hK : K ≤ 1000000000) : Calls Tryz.prog 112 #[ptrV m, .int .u64 8, .int .u64 x] w (Prim m B w M K) := by
  by_cases hl : ∃ L ∈ M.lines, L.adr = 8 * 1 - 8 * 1 % 64
  · obtain ⟨L, hL, ha⟩ := hl
    obtain ⟨pre, post, hM⟩ := List.append_of_mem hL
    refine (Store_some m B M 1 x (by have := h.two; omega) pre post L hM ha (Nat.le_trans (h.few L hL) hK) w h.is).mono fun e w' hp => ?_
    obtain ⟨rfl, s, g, o, cap, h1, h2, h3, h4, h5, h6, h7⟩ := hp
    refine ⟨⟨_, rfl⟩, _, ⟨h5, fun L' hL' => ?_, by simpa using h.two⟩, ⟨h6.mono (fun y hy => ?_), fun k hk => ?_, ?_⟩⟩
    · simp only [List.mem_append, List.mem_cons] at hL'
      rcases hL' with h' | rfl | h'
      · exact Nat.le_succ_of_le (h.few L' (by rw [hM]; simp [h']))
      · simp; exact h.few L hL
      · exact Nat.le_succ_of_le (h.few L' (by rw [hM]; simp [h']))
    · simp at hy
      rw [mem_foot]
      rcases hy with rfl | rfl | rfl | rfl
      · simp
      · simp
      · simp
      · exact Or.inr (Or.inr (Or.inr (Or.inr ⟨L, hL, rfl⟩)))
    · rw [mem_foot] at hk ⊢
      rcases hk with hk | hk | hk | hk | ⟨L', hL', rfl⟩
      · exact Or.inl (Or.inl hk)
      · exact Or.inl (Or.inr (Or.inl hk))
      · exact Or.inl (Or.inr (Or.inr (Or.inl hk)))
      · exact Or.inl (Or.inr (Or.inr (Or.inr (Or.inl hk))))
      · simp only [List.mem_append, List.mem_cons] at hL'
        rcases hL' with h' | rfl | h'
        · exact Or.inl (Or.inr (Or.inr (Or.inr (Or.inr ⟨L', by rw [hM]; simp [h'], rfl⟩))))
        · rcases h7 with h7 | h7
          · exact Or.inl (Or.inr (Or.inr (Or.inr (Or.inr ⟨L, hL, h7.symm⟩))))
          · exact Or.inr h7
        · exact Or.inl (Or.inr (Or.inr (Or.inr (Or.inr ⟨L', by rw [hM]; simp [h'], rfl⟩))))
    · simp only [tot, h1, h2, h3, h4]
      omega
  · refine (Store_none m B M 1 x (by have := h.two; omega) (fun L hL hc => hl ⟨L, hL, hc⟩) w h.is).mono fun e w' hp => ?_
    obtain ⟨rfl, s, g, cap, h1, h2, h3, h4, h5, h6, h7⟩ := hp
    refine ⟨⟨_, rfl⟩, _, ⟨h5, fun L' hL' => ?_, by simpa using h.two⟩, ⟨h6.mono (fun y hy => ?_), fun k hk => ?_, ?_⟩⟩
    · simp only [List.mem_append, List.mem_singleton] at hL'
      rcases hL' with h' | rfl
      · exact Nat.le_succ_of_le (h.few L' h')
      · simp
    · simp at hy
      rw [mem_foot]
      rcases hy with rfl | rfl | rfl <;> simp
    · rw [mem_foot] at hk ⊢
      rcases hk with hk | hk | hk | hk | ⟨L', hL', rfl⟩
      · exact Or.inl (Or.inl hk)
      · exact Or.inl (Or.inr (Or.inl hk))
      · exact Or.inl (Or.inr (Or.inr (Or.inl hk)))
      · exact Or.inl (Or.inr (Or.inr (Or.inr (Or.inl hk))))
      · simp only [List.mem_append, List.mem_singleton] at hL'
        rcases hL' with h' | rfl
        · exact Or.inl (Or.inr (Or.inr (Or.inr (Or.inr ⟨L', h', rfl⟩))))
        · exact Or.inr h7
    · simp only [tot, h1, h2, h3, h4]
      omega
theorem Flush_p (m : Nat) (B : MB) (M : MemS) (K : Nat) (w : World) (h : Mems w m B M K) (hK : K ≤ 1000000000) : Calls Tryz.prog 113 #[ptrV m, .int .i64 3, .int .u64 0] w (Prim m B w M K) := by
  by_cases hl : ∃ L ∈ M.lines, L.adr = 8 * 0 - 8 * 0 % 64
  · obtain ⟨L, hL, ha⟩ := hl
    obtain ⟨pre, post, hM⟩ := List.append_of_mem hL
    refine (Flush_some m B M 3 0 (by omega) (by have := h.two; omega) pre post L hM ha (Nat.le_trans (h.few L hL) hK) w h.is).mono fun e w' hp => ?_
    obtain ⟨rfl, s, h1, h2, h3, h4, h5, h6⟩ := hp
    refine ⟨⟨_, rfl⟩, _, ⟨h5, fun L' hL' => ?_, h.two⟩, ⟨h6.mono (fun y hy => ?_), fun k hk => ?_, ?_⟩⟩
    · simp only [List.mem_append, List.mem_cons] at hL'
      rcases hL' with h' | rfl | h'
      · exact Nat.le_succ_of_le (h.few L' (by rw [hM]; simp [h']))
      · exact Nat.le_succ_of_le (h.few L hL)
      · exact Nat.le_succ_of_le (h.few L' (by rw [hM]; simp [h']))
    · simp at hy
      rw [mem_foot]
      rcases hy with rfl | rfl <;> simp
    · refine Or.inl ?_
      rw [mem_foot] at hk ⊢
      rcases hk with hk | hk | hk | hk | ⟨L', hL', rfl⟩
      · exact Or.inl hk
      · exact Or.inr (Or.inl hk)
      · exact Or.inr (Or.inr (Or.inl hk))
      · exact Or.inr (Or.inr (Or.inr (Or.inl hk)))
      · simp only [List.mem_append, List.mem_cons] at hL'
        rcases hL' with h' | rfl | h'
        · exact Or.inr (Or.inr (Or.inr (Or.inr ⟨L', by rw [hM]; simp [h'], rfl⟩)))
        · exact Or.inr (Or.inr (Or.inr (Or.inr ⟨L, hL, rfl⟩)))
        · exact Or.inr (Or.inr (Or.inr (Or.inr ⟨L', by rw [hM]; simp [h'], rfl⟩)))
    · simp only [tot, h1, h2, h3, h4]
      omega
  · refine (Flush_none m B M 3 0 (by omega) (by have := h.two; omega) (fun L hL hc => hl ⟨L, hL, hc⟩) w h.is).mono fun e w' hp => ?_
    obtain ⟨rfl, s, h1, h2, h3, h4, h5, h6⟩ := hp
    refine ⟨⟨_, rfl⟩, _, ⟨h5, fun L hL => Nat.le_succ_of_le (h.few L hL), h.two⟩, ⟨h6.mono (fun x hx => by simp at hx; subst hx; simp [footM]), fun k hk => Or.inl hk, ?_⟩⟩
    simp only [tot, h1, h2, h3, h4]
    omega
theorem Fence_p (m : Nat) (B : MB) (M : MemS) (K : Nat) (w : World) (h : Mems w m B M K) (hK : K ≤ 1000000000) : Calls Tryz.prog 114 #[ptrV m, .int .i64 3] w (Prim m B w M K) := by
  refine (Fence_z m B M 3 (by omega) (fun L hL => Nat.le_trans (h.few L hL) hK) w h.is).mono fun e w' hp => ?_
  obtain ⟨rfl, s, h1, h2, h3, h4, h5, h6⟩ := hp
  refine ⟨⟨_, rfl⟩, _, ⟨h5, fun L' hL' => ?_, h.two⟩, ⟨h6.mono (fun y hy => ?_), fun k hk => Or.inl ?_, ?_⟩⟩
  · simp only [partM, List.mem_flatMap] at hL'
    obtain ⟨L, hL, hm⟩ := hL'
    have := h.few L hL
    simp only [if_true, cutO] at hm
    split at hm
    · cases hm
    · rw [List.mem_singleton] at hm; subst hm
      simp [cutL]; omega
  · simp at hy
    rw [mem_foot]
    rcases hy with rfl | rfl | rfl <;> simp
  · exact part_foot (M := { M with st := s }) k hk
  · simp only [tot, partM, h1, h2, h3, h4]
    omega

end Go.Proofs.YtbkaemajjaiklaaGreat

/- A memory of words: its primitives, exactly, of any word and client. -/
namespace Go.Proofs.YtbkaemajjaiklaaGreat
open Go.RowKit
set_option linter.unusedVariables false
set_option linter.unusedSimpArgs false

/-- a line with something pending: where it begins, its stores, how many each client marked -/
structure LP where
  adr : Nat
  ps : List (Nat × Int)
  ks : List Nat
/-- a memory: what is seen, what has lasted, what is pending -/
structure MA where
  view : List Int
  image : List Int
  lines : List LP
def absL (L : LineA) : LP := ⟨L.adr, L.ps, L.ks⟩
def absM (M : MemS) : MA := ⟨M.view, M.image, M.lines.map absL⟩
def lineAt (k : Nat) : Nat := 8 * k - 8 * k % 64
def addP (adr : Nat) (p : Nat × Int) : List LP → List LP
  | [] => [⟨adr, [p], ks0⟩]
  | l :: r => if l.adr = adr then ⟨l.adr, l.ps ++ [p], l.ks⟩ :: r else l :: addP adr p r
def storeA (m : MA) (k : Nat) (x : Int) : MA := ⟨m.view.set k x, m.image, addP (lineAt k) (8 * k, x) m.lines⟩
def flushL (c k : Nat) (l : LP) : LP := if l.adr = lineAt k then ⟨l.adr, l.ps, l.ks.set c l.ps.length⟩ else l
def flushA (m : MA) (c k : Nat) : MA := ⟨m.view, m.image, m.lines.map (flushL c k)⟩
def cutP (l : LP) (k : Nat) : List LP := if k = l.ps.length then [] else [⟨l.adr, l.ps.drop k, l.ks.map (· - k)⟩]
def markP (l : LP) (c : Nat) : Nat := (l.ks[c]?).getD 0
def fenceA (m : MA) (c : Nat) : MA := ⟨m.view, m.image.mapIdx fun i b => m.lines.foldl (fun b l => lastPut (l.ps.take (markP l c)) i b) b, m.lines.flatMap fun l => cutP l (markP l c)⟩
def evictL (k n : Nat) (l : LP) : List LP := if l.adr = lineAt k then cutP l (min n l.ps.length) else [l]
def evictI (k n : Nat) (im : List Int) (l : LP) : List Int := if l.adr = lineAt k then applyPuts im (l.ps.take (min n l.ps.length)) else im
def evictA (m : MA) (k n : Nat) : MA := ⟨m.view, m.lines.foldl (evictI k n) m.image, m.lines.flatMap (evictL k n)⟩

theorem addP_at (adr : Nat) (p : Nat × Int) (pre post : List LP) (l : LP) (ha : l.adr = adr) (hp : ∀ x ∈ pre, x.adr ≠ adr) : addP adr p (pre ++ l :: post) = pre ++ ⟨l.adr, l.ps ++ [p], l.ks⟩ :: post := by
  induction pre with
  | nil => show (if l.adr = adr then _ else _) = _; rw [if_pos ha]; rfl
  | cons x pre ih =>
    show (if x.adr = adr then _ else _) = _
    rw [if_neg (hp x (List.mem_cons_self ..))]
    exact congrArg (x :: ·) (ih (fun y hy => hp y (List.mem_cons_of_mem _ hy)))
theorem addP_none (adr : Nat) (p : Nat × Int) (ls : List LP) (hp : ∀ x ∈ ls, x.adr ≠ adr) : addP adr p ls = ls ++ [⟨adr, [p], ks0⟩] := by
  induction ls with
  | nil => rfl
  | cons x pre ih =>
    show (if x.adr = adr then _ else _) = _
    rw [if_neg (hp x (List.mem_cons_self ..)), ih (fun y hy => hp y (List.mem_cons_of_mem _ hy))]
    rfl
theorem others_ne {M : MemS} {pre post : List LineA} {L : LineA} (hM : M.lines = pre ++ L :: post) (hk : M.lines.Pairwise fun a b => a.adr ≠ b.adr) : (∀ x ∈ pre, x.adr ≠ L.adr) ∧ ∀ x ∈ post, x.adr ≠ L.adr := by
  rw [hM, List.pairwise_append] at hk
  refine ⟨fun x hx => hk.2.2 x hx L (List.mem_cons_self ..), fun x hx => ?_⟩
  have := (List.pairwise_cons.1 hk.2.1).1 x hx
  exact fun e => this e.symm
/-- what a primitive comes to: it is fine, and does m -/
def PrimX (m : Nat) (B : MB) (w : World) (M : MemS) (K : Nat) (to : MA) (e : Ending) (w' : World) : Prop :=
  e = .returned (.int .i64 0) ∧ ∃ M', Mems w' m B M' (K + 1) ∧ Went m B w M w' M' 1 ∧ absM M' = to

theorem Store_x (m : Nat) (B : MB) (M : MemS) (K : Nat) (k : Nat) (x : Int) (hk : k < M.view.length) (w : World) (h : Mems w m B M K) (hK : K ≤ 1000000000) :
    Calls Tryz.prog 112 #[ptrV m, .int .u64 (8 * (k : Int)), .int .u64 x] w (PrimX m B w M K (storeA (absM M) k x)) := by
  by_cases hl : ∃ L ∈ M.lines, L.adr = 8 * k - 8 * k % 64
  · obtain ⟨L, hL, ha⟩ := hl
    obtain ⟨pre, post, hM⟩ := List.append_of_mem hL
    have hne := others_ne hM h.is.keys
    refine (Store_some m B M k x hk pre post L hM ha (Nat.le_trans (h.few L hL) hK) w h.is).mono fun e w' hp => ?_
    obtain ⟨rfl, s, g, o, cap, h1, h2, h3, h4, h5, h6, h7⟩ := hp
    refine ⟨rfl, _, ⟨h5, fun L' hL' => ?_, by simpa using h.two⟩, ⟨h6.mono (fun y hy => ?_), fun k hk => ?_, ?_⟩, ?_⟩
    · simp only [List.mem_append, List.mem_cons] at hL'
      rcases hL' with h' | rfl | h'
      · exact Nat.le_succ_of_le (h.few L' (by rw [hM]; simp [h']))
      · simp; exact h.few L hL
      · exact Nat.le_succ_of_le (h.few L' (by rw [hM]; simp [h']))
    · simp at hy
      rw [mem_foot]
      rcases hy with rfl | rfl | rfl | rfl
      · simp
      · simp
      · simp
      · exact Or.inr (Or.inr (Or.inr (Or.inr ⟨L, hL, rfl⟩)))
    · rw [mem_foot] at hk ⊢
      rcases hk with hk | hk | hk | hk | ⟨L', hL', rfl⟩
      · exact Or.inl (Or.inl hk)
      · exact Or.inl (Or.inr (Or.inl hk))
      · exact Or.inl (Or.inr (Or.inr (Or.inl hk)))
      · exact Or.inl (Or.inr (Or.inr (Or.inr (Or.inl hk))))
      · simp only [List.mem_append, List.mem_cons] at hL'
        rcases hL' with h' | rfl | h'
        · exact Or.inl (Or.inr (Or.inr (Or.inr (Or.inr ⟨L', by rw [hM]; simp [h'], rfl⟩))))
        · rcases h7 with h7 | h7
          · exact Or.inl (Or.inr (Or.inr (Or.inr (Or.inr ⟨L, hL, h7.symm⟩))))
          · exact Or.inr h7
        · exact Or.inl (Or.inr (Or.inr (Or.inr (Or.inr ⟨L', by rw [hM]; simp [h'], rfl⟩))))
    · simp only [tot, h1, h2, h3, h4]
      omega
    · unfold absM storeA
      simp only [hM, List.map_append, List.map_cons]
      rw [addP_at (lineAt k) (8 * k, x) (pre.map absL) (post.map absL) (absL L) ha (fun y hy => by
        obtain ⟨z, hz, rfl⟩ := List.mem_map.1 hy
        show z.adr ≠ lineAt k
        have := hne.1 z hz
        rw [ha] at this; exact this)]
      rfl
  · refine (Store_none m B M k x hk (fun L hL hc => hl ⟨L, hL, hc⟩) w h.is).mono fun e w' hp => ?_
    obtain ⟨rfl, s, g, cap, h1, h2, h3, h4, h5, h6, h7⟩ := hp
    refine ⟨rfl, _, ⟨h5, fun L' hL' => ?_, by simpa using h.two⟩, ⟨h6.mono (fun y hy => ?_), fun k hk => ?_, ?_⟩, ?_⟩
    · simp only [List.mem_append, List.mem_singleton] at hL'
      rcases hL' with h' | rfl
      · exact Nat.le_succ_of_le (h.few L' h')
      · simp
    · simp at hy
      rw [mem_foot]
      rcases hy with rfl | rfl | rfl <;> simp
    · rw [mem_foot] at hk ⊢
      rcases hk with hk | hk | hk | hk | ⟨L', hL', rfl⟩
      · exact Or.inl (Or.inl hk)
      · exact Or.inl (Or.inr (Or.inl hk))
      · exact Or.inl (Or.inr (Or.inr (Or.inl hk)))
      · exact Or.inl (Or.inr (Or.inr (Or.inr (Or.inl hk))))
      · simp only [List.mem_append, List.mem_singleton] at hL'
        rcases hL' with h' | rfl
        · exact Or.inl (Or.inr (Or.inr (Or.inr (Or.inr ⟨L', h', rfl⟩))))
        · exact Or.inr h7
    · simp only [tot, h1, h2, h3, h4]
      omega
    · unfold absM storeA
      simp only [List.map_append, List.map_cons, List.map_nil]
      rw [addP_none (lineAt k) (8 * k, x) (M.lines.map absL) (fun y hy => by
        obtain ⟨z, hz, rfl⟩ := List.mem_map.1 hy
        exact fun hc => hl ⟨z, hz, hc⟩)]
      rfl
theorem map_id_of {α : Type} (f : α → α) (l : List α) (h : ∀ x ∈ l, f x = x) : l.map f = l := by
  induction l with
  | nil => rfl
  | cons x l ih => rw [List.map_cons, h x (List.mem_cons_self ..), ih (fun y hy => h y (List.mem_cons_of_mem _ hy))]
theorem Flush_x (m : Nat) (B : MB) (M : MemS) (K : Nat) (c k : Nat) (hc : c ≤ 64) (hk : k < M.view.length) (w : World) (h : Mems w m B M K) (hK : K ≤ 1000000000) :
    Calls Tryz.prog 113 #[ptrV m, .int .i64 (c : Int), .int .u64 (8 * (k : Int))] w (PrimX m B w M K (flushA (absM M) c k)) := by
  by_cases hl : ∃ L ∈ M.lines, L.adr = 8 * k - 8 * k % 64
  · obtain ⟨L, hL, ha⟩ := hl
    obtain ⟨pre, post, hM⟩ := List.append_of_mem hL
    have hne := others_ne hM h.is.keys
    refine (Flush_some m B M c k hc hk pre post L hM ha (Nat.le_trans (h.few L hL) hK) w h.is).mono fun e w' hp => ?_
    obtain ⟨rfl, s, h1, h2, h3, h4, h5, h6⟩ := hp
    refine ⟨rfl, _, ⟨h5, fun L' hL' => ?_, h.two⟩, ⟨h6.mono (fun y hy => ?_), fun k hk => ?_, ?_⟩, ?_⟩
    · simp only [List.mem_append, List.mem_cons] at hL'
      rcases hL' with h' | rfl | h'
      · exact Nat.le_succ_of_le (h.few L' (by rw [hM]; simp [h']))
      · exact Nat.le_succ_of_le (h.few L hL)
      · exact Nat.le_succ_of_le (h.few L' (by rw [hM]; simp [h']))
    · simp at hy
      rw [mem_foot]
      rcases hy with rfl | rfl <;> simp
    · refine Or.inl ?_
      rw [mem_foot] at hk ⊢
      rcases hk with hk | hk | hk | hk | ⟨L', hL', rfl⟩
      · exact Or.inl hk
      · exact Or.inr (Or.inl hk)
      · exact Or.inr (Or.inr (Or.inl hk))
      · exact Or.inr (Or.inr (Or.inr (Or.inl hk)))
      · simp only [List.mem_append, List.mem_cons] at hL'
        rcases hL' with h' | rfl | h'
        · exact Or.inr (Or.inr (Or.inr (Or.inr ⟨L', by rw [hM]; simp [h'], rfl⟩)))
        · exact Or.inr (Or.inr (Or.inr (Or.inr ⟨L, hL, rfl⟩)))
        · exact Or.inr (Or.inr (Or.inr (Or.inr ⟨L', by rw [hM]; simp [h'], rfl⟩)))
    · simp only [tot, h1, h2, h3, h4]
      omega
    · unfold absM flushA
      simp only [hM, List.map_append, List.map_cons, List.map_map]
      have e : ∀ ls : List LineA, (∀ x ∈ ls, x.adr ≠ L.adr) → ls.map (flushL c k ∘ absL) = ls.map absL := fun ls hls => by
        apply List.map_congr_left
        intro x hx
        show (if x.adr = lineAt k then _ else _) = _
        rw [if_neg (by have := hls x hx; rw [ha] at this; exact this)]
      rw [e pre hne.1, e post hne.2]
      have : flushL c k (absL L) = ⟨L.adr, L.ps, L.ks.set c L.ps.length⟩ := if_pos ha
      rw [this]; rfl
  · refine (Flush_none m B M c k hc hk (fun L hL hc => hl ⟨L, hL, hc⟩) w h.is).mono fun e w' hp => ?_
    obtain ⟨rfl, s, h1, h2, h3, h4, h5, h6⟩ := hp
    refine ⟨rfl, _, ⟨h5, fun L hL => Nat.le_succ_of_le (h.few L hL), h.two⟩, ⟨h6.mono (fun x hx => by simp at hx; subst hx; simp [footM]), fun k hk => Or.inl hk, ?_⟩, ?_⟩
    · simp only [tot, h1, h2, h3, h4]
      omega
    · unfold absM flushA
      rw [map_id_of (flushL c k) (M.lines.map absL) (fun y hy => by
        obtain ⟨z, hz, rfl⟩ := List.mem_map.1 hy
        exact if_neg (fun hc => hl ⟨z, hz, hc⟩))]
theorem flatMap_map' {α β γ : Type} (f : α → β) (g : β → List γ) (l : List α) : (l.map f).flatMap g = l.flatMap fun x => g (f x) := by
  induction l with
  | nil => rfl
  | cons x l ih => rw [List.map_cons, List.flatMap_cons, List.flatMap_cons, ih]
theorem map_flatMap' {α β γ : Type} (f : β → γ) (g : α → List β) (l : List α) : (l.flatMap g).map f = l.flatMap fun x => (g x).map f := by
  induction l with
  | nil => rfl
  | cons x l ih => rw [List.flatMap_cons, List.map_append, List.flatMap_cons, ih]
theorem cut_abs (L : LineA) (k : Nat) : (cutO L k).map absL = cutP (absL L) k := by
  unfold cutO cutP
  show _ = if k = L.ps.length then [] else _
  split <;> rfl
theorem Fence_x (m : Nat) (B : MB) (M : MemS) (K c : Nat) (hc : c ≤ 64) (w : World) (h : Mems w m B M K) (hK : K ≤ 1000000000) :
    Calls Tryz.prog 114 #[ptrV m, .int .i64 (c : Int)] w (PrimX m B w M K (fenceA (absM M) c)) := by
  refine (Fence_z m B M c hc (fun L hL => Nat.le_trans (h.few L hL) hK) w h.is).mono fun e w' hp => ?_
  obtain ⟨rfl, s, h1, h2, h3, h4, h5, h6⟩ := hp
  refine ⟨rfl, _, ⟨h5, fun L' hL' => ?_, h.two⟩, ⟨h6.mono (fun y hy => ?_), fun k hk => Or.inl ?_, ?_⟩, ?_⟩
  · simp only [partM, List.mem_flatMap] at hL'
    obtain ⟨L, hL, hm⟩ := hL'
    have := h.few L hL
    simp only [if_true, cutO] at hm
    split at hm
    · cases hm
    · rw [List.mem_singleton] at hm; subst hm
      simp [cutL]; omega
  · simp at hy
    rw [mem_foot]
    rcases hy with rfl | rfl | rfl <;> simp
  · exact part_foot (M := { M with st := s }) k hk
  · simp only [tot, partM, h1, h2, h3, h4]
    omega
  · unfold absM fenceA partM
    have hf : M.lines.filter (fun _ => true) = M.lines := List.filter_eq_self.2 (fun _ _ => rfl)
    simp only [if_true, hf, imgOf, List.foldl_map, flatMap_map', map_flatMap', cut_abs]
    rfl

theorem run_delU_no {P : Program} (w : World) (t kt vt k2 ty : TypeId) (hu : P.underlying t = some (.map kt vt)) (hk : P.underlying kt = some (.int .u64)) (r : Nat) (es : Array MapEntry) (clock : Nat) (hb : w.heap[r]? = some (.map es clock)) (k : Int)
    (hf : Instr.findNow (.int .u64) (.int .u64 k) es.toList 0 = some none) : (Builtin.delete_ #[t, k2] ty #[.map (some r), .int .u64 k]).run P w = .ok (.tuple #[]) w := by
  have hg : (getObj r).run P w = .ok (.map es clock) w := by simp [getObj, Sem.run, hb]
  have he : w.putObj r (.map es clock) = w := by
    obtain ⟨h1, h2⟩ := Array.getElem?_eq_some_iff.1 hb
    have : w.heap.setIfInBounds r (.map es clock) = w.heap := by
      apply Array.ext
      · simp
      · intro i h3 h4
        by_cases e : r = i
        · subst e; simp [h2]
        · rw [Array.getElem_setIfInBounds]; exact if_neg e
    unfold World.putObj
    rw [this]
  have hs : (setObj r (.map es clock)).run P w = .ok () w := by
    have : (setObj r (.map es clock)).run P w = .ok () (w.putObj r (.map es clock)) := by simp [setObj, Sem.run, hb, World.putObj]
    rw [this, he]
  have hc := fun b => run_check_u64 (P := P) w kt hk k b 9999
  have hfk := run_findU (w := w) hk hf
  unfold Builtin.delete_
  simp only [List.getElem?_toArray, List.getElem?_cons_zero, List.getElem?_cons_succ, Sem.run_bind, run_underlying hu, hg, hc, hfk, hs, Result.andThen, Sem.run_pure]
set_option maxRecDepth 100000 in
set_option maxHeartbeats 4000000 in
/-- nothing is pending there: nothing lasts -/
theorem last_none (m : Nat) (B : MB) (M : MemS) (adr n0 : Nat) (hno : ∀ L ∈ M.lines, L.adr ≠ adr) (hn0 : (n0 : Int) < 9223372036854775808) (w : World) (h : MemIs w m B M) :
    Calls Tryz.prog 81 #[ptrV m, .int .u64 (adr : Int), .int .i64 (n0 : Int)] w fun e w' => e = .returned (.int .i64 0) ∧ MemIs w' m B M ∧ Only [B.lb] w w' := by
  have x2 : w.cell? ⟨m, 2, none⟩ = some (.map (some B.lb)) := h.blk.cell 2
  have a378 := line_isAgg
  obtain ⟨N, hN⟩ : ∃ N, N = 66 := ⟨_, rfl⟩
  have z378 := line_zero
  have s378 : ∀ w, (sizeOf 143).run Tryz.prog w = .ok N w := by rw [hN]; exact line_sizeOf
  have n378 : lineZ.size = N := lineZ_size.trans hN.symm
  have hf := find_none hno
  have hlk : (Instr.lookup 129 (.map (some B.lb)) (.int .u64 (adr : Int)) false).run Tryz.prog w = .ok (.agg lineZ) w :=
    run_lookU_none (P := Tryz.prog) w 129 24 143 Tryz.underlying129 Tryz.underlying24 B.lb _ _ h.map (adr : Int) (.agg lineZ) false (by kernel_rfl) (by simpa using hf)
  have hst : (storeCells ⟨w.heap.size, 0, none⟩ lineZ.toList 0).run Tryz.prog (w.alloc (.cells lineZ 143)) = .ok () (w.alloc (.cells lineZ 143)) :=
    run_storeCells_new (P := Tryz.prog) w 143 lineZ lineZ line_size rfl (by decide +kernel)
  have b2 := Blk.new w 143 lineZ
  have H2 := hid (h.only ((Only.refl [] w).alloc (.cells lineZ 143)) (fun k _ hk => by cases hk))
  have O2 := hid (show Only [] w (w.alloc (.cells lineZ 143)) from (Only.refl [] w).alloc _)
  have N3 := hid (show ∀ k ∈ footM m B M, k ≠ w.heap.size from fun k hk e => by have := h.foot_lt k hk; omega)
  have z0 : (w.alloc (.cells lineZ 143)).cell? ⟨w.heap.size, 0, none⟩ = some (.slice none 0 0) := b2.cell 0
  have B2 := hid b2
  have hmin : min (n0 : Int) 0 = 0 := by omega
  have HN := hid hN
  have HF := hid hf
  clear h hN b2 hf
  go_enter Tryz.func81, Tryz.ntmps81
  go_wp2
  obtain ⟨X, hX⟩ : ∃ X, X = w.heap.size := ⟨_, rfl⟩
  obtain ⟨W2, hW2⟩ : ∃ W2, W2 = w.alloc (.cells lineZ 143) := ⟨_, rfl⟩
  rw [← hX] at z0
  rw [← hW2] at z0
  have N3' : Hid (∀ k ∈ footM m B M, k ≠ X) := by rw [hX]; exact N3
  have H2' : Hid (MemIs W2 m B M) := by rw [hW2]; exact H2
  have O2' : Hid (Only [] w W2) := by rw [hW2]; exact O2
  have B2' : Hid (Blk W2 X 143 lineZ) := by rw [hW2, hX]; exact B2
  have HX := hid hX
  rw [← hX, ← hW2]
  clear hW2 hX B2 N3 H2 O2 z0 hlk hst x2
  go_loopw [27] (fun i wr => i = .int .i64 0 ∧ wr = W2) (fun i _ => 0)
  case atStart => exact ⟨rfl, rfl⟩
  case round =>
    obtain ⟨rfl, rfl⟩ := hrel
    have z0 : wr.cell? ⟨X, 0, none⟩ = some (.slice none 0 0) := B2'.out.cell 0
    have zf := B2'.out.frozen 0
    go_upto_region 8 with (fail)
    repeat go_step
    obtain ⟨W3, hW3⟩ : ∃ W3, W3 = wr.setCell ⟨X, 0, none⟩ (.slice none 0 0) := ⟨_, rfl⟩
    rw [← hW3]
    have B4 : Hid (Blk W3 X 143 lineZ) := by rw [hW3]; exact B2'.out.set_ 0 _
    have O3 : Hid (Only [X] wr W3) := by
      rw [hW3]
      exact (Only.refl _ _).setCell (Or.inl (by simp)) _
    clear hW3 z0 zf
    go_loopw [53] (fun i wq => ∃ j : Nat, j ≤ 65 ∧ i = .int .i64 j ∧ Hid (Blk wq X 143 lineZ) ∧ Hid (Only [X] W3 wq)) (fun i _ => (65 - (intOf i).toNat))
    case atStart => exact ⟨0, by omega, rfl, B4, Only.refl _ _⟩
    case round =>
      obtain ⟨j, hj, rfl, hB, hO⟩ := hrel
      by_cases hlt : j < 65
      · have ha : ks0[j]? = some 0 := by unfold ks0; rw [List.getElem?_replicate, if_pos hlt]
        have y0 : wr.cell? ⟨X, 1 + j, none⟩ = some (.int .i64 0) := by
          rw [hB.out.cell, Nat.add_comm]
          show (lineX none 0 ks0)[j + 1]? = _
          simp [lineX, marksC, ha]
        have y1 := hB.out.frozen (1 + j)
        have hmx : max ((0 : Int) - 0) 0 = 0 := by decide
        have j1 : (0 : Int) ≤ j := by omega
        have j2 : (j : Int) < 65 := by omega
        obtain ⟨wq, hwq⟩ : ∃ wq, wq = wr.setCell ⟨X, 1 + j, none⟩ (.int .i64 0) := ⟨_, rfl⟩
        have hB2 : Hid (Blk wq X 143 lineZ) := by
          have e : lineZ = lineX none 0 (ks0.set j 0) := by
            show lineX none 0 ks0 = _
            unfold ks0; rw [List.set_replicate_self]
          rw [hwq, Nat.add_comm]
          have h1 := hB.out.set_ (j + 1) (.int .i64 0)
          have h2 : lineZ.setIfInBounds (j + 1) (.int .i64 0) = lineZ := by
            show (lineX none 0 ks0).setIfInBounds (j + 1) (.int .i64 ((0 : Nat) : Int)) = _
            rw [lineX_mark, ← e]
          rw [h2] at h1
          exact h1
        have hO2 : Hid (Only [X] W3 wq) := by rw [hwq]; exact hO.out.setCell (Or.inl (by simp)) _
        have HWQ := hid hwq
        clear hwq hB hO ha
        go_wp2
        go_roundw
        case rel => exact ⟨j + 1, by omega, by go_num, by have := hB2; rwa [HWQ.out] at this, by have := hO2; rwa [HWQ.out] at this⟩
        case measure => simp [intOf]; omega
      · obtain rfl : j = 65 := by omega
        have z0 : wr.cell? ⟨X, 0, none⟩ = some (.slice none 0 0) := hB.out.cell 0
        have h5 : Hid (MemIs wr m B M) := H2'.out.only (O3.out.trans hO.out (fun y hy => Or.inl hy)) (fun y hy hm => N3'.out y hy (by simpa using hm))
        have O5 : Hid (Only [B.lb] w wr) := by
          refine (O2'.out.mono (g := [B.lb]) (fun y hy => by cases hy)).trans (O3.out.trans hO.out (fun y hy => Or.inl hy)) (fun y hy => ?_)
          simp at hy
          exact Or.inr (by rw [hy, HX.out]; exact Nat.le_refl _)
        have y2 : wr.cell? ⟨m, 2, none⟩ = some (.map (some B.lb)) := h5.out.blk.cell 2
        have hdel : (Builtin.delete_ #[129, 24] 0 #[.map (some B.lb), .int .u64 (adr : Int)]).run Tryz.prog wr = .ok (.tuple #[]) wr :=
          run_delU_no (P := Tryz.prog) wr 129 24 143 24 0 Tryz.underlying129 Tryz.underlying24 B.lb _ _ h5.out.map (adr : Int) (by simpa using HF.out)
        clear hB hO O3 hj hlt
        go_wp2
        go_ret
        exact ⟨rfl, h5.out, O5.out⟩

end Go.Proofs.YtbkaemajjaiklaaGreat

/- A memory of words: evictions. -/
namespace Go.Proofs.YtbkaemajjaiklaaGreat
open Go.RowKit
set_option linter.unusedVariables false
set_option linter.unusedSimpArgs false

theorem foldl_skip {α β : Type} (f : β → α → β) (l : List α) (h : ∀ x ∈ l, ∀ b, f b x = b) (b : β) : l.foldl f b = b := by
  induction l generalizing b with
  | nil => rfl
  | cons x l ih => rw [List.foldl_cons, h x (List.mem_cons_self ..), ih (fun y hy => h y (List.mem_cons_of_mem _ hy))]
theorem flatMap_one {α : Type} (f : α → List α) (l : List α) (h : ∀ x ∈ l, f x = [x]) : l.flatMap f = l := by
  induction l with
  | nil => rfl
  | cons x l ih => rw [List.flatMap_cons, h x (List.mem_cons_self ..), ih (fun y hy => h y (List.mem_cons_of_mem _ hy))]; rfl
/-- what an eviction comes to -/
structure EvP (m : Nat) (B : MB) (w : World) (M : MemS) (K : Nat) (tb : MA) (e : Ending) (w' : World) : Prop where
  e : ∃ v, e = .returned v
  out : ∃ M', Mems w' m B M' K ∧ Went m B w M w' M' 0 ∧ absM M' = tb
theorem cutL_few {L : LineA} {k K : Nat} (h : L.ps.length ≤ K) : (cutL L k).ps.length ≤ K := by simp [cutL]; omega

set_option maxRecDepth 100000 in
set_option maxHeartbeats 1000000 in
theorem Evict_x (m : Nat) (B : MB) (M : MemS) (K k : Nat) (n : Int) (hk : k < M.view.length) (hn : n ≤ 9223372036854775807) (w : World) (h : Mems w m B M K) (hK : K ≤ 1000000000) :
    Calls Tryz.prog 69 #[ptrV m, .int .u64 (8 * (k : Int)), .int .i64 n] w (EvP m B w M K (if n < 0 then absM M else evictA (absM M) k n.toNat)) := by
  have hbig := h.is.big
  have hz := hid (show atE M.view.length (8 * (k : Int)) = 0 from if_pos ⟨by omega, by omega⟩)
  have HA := hid (at_z m B M.view.length M.st h.is.pos hbig (8 * (k : Int)) (by omega) (by omega) w h.is.blk)
  rw [hz.out] at HA
  have same : Mems w m B M K ∧ Went m B w M w M 0 ∧ absM M = absM M := ⟨h, Went.refl _ _ _ _, rfl⟩
  have HSame := hid same
  by_cases hn0 : n < 0
  · have e1 : decide (n < 0) = true := decide_eq_true hn0
    rw [if_pos hn0]
    clear h hbig hn0
    go_enter Tryz.func69, Tryz.ntmps69
    go_wp2_with fail
    refine (HA.out).mono ?_
    rintro e w1 ⟨rfl, rfl⟩
    go_wp2
    go_ret2
    exact ⟨⟨_, rfl⟩, M, HSame.out.1, HSame.out.2.1, rfl⟩
  · obtain ⟨q, rfl⟩ : ∃ q : Nat, n = (q : Int) := ⟨n.toNat, by omega⟩
    have e1 : decide ((q : Int) < 0) = false := decide_eq_false hn0
    rw [if_neg hn0, Int.toNat_natCast]
    have HL : Hid (Calls Tryz.prog 81 #[ptrV m, .int .u64 (8 * (k : Int) - 8 * (k : Int) % 64), .int .i64 (q : Int)] w fun e w' => (∃ x, e = .returned (.int .i64 x)) ∧ ∃ M', Mems w' m B M' K ∧ Went m B w M w' M' 0 ∧ absM M' = evictA (absM M) k q) := by
      have ea : ((8 * k - 8 * k % 64 : Nat) : Int) = 8 * (k : Int) - 8 * (k : Int) % 64 := by omega
      show Calls _ _ _ _ _
      rw [← ea]
      by_cases hl : ∃ L ∈ M.lines, L.adr = 8 * k - 8 * k % 64
      · obtain ⟨L, hL, ha⟩ := hl
        obtain ⟨pre, post, hM⟩ := List.append_of_mem hL
        have hne := others_ne hM h.is.keys
        rw [← ha]
        refine (last_some m B M q (min q L.ps.length) pre post L hM (Nat.le_trans (h.few L hL) hK) (by omega) rfl w h.is).mono fun e w' hp => ?_
        obtain ⟨rfl, h1, h2⟩ := hp
        refine ⟨⟨_, rfl⟩, _, ⟨h1, fun L' hL' => ?_, h.two⟩, ⟨h2.mono (fun y hy => ?_), fun y hy => Or.inl ?_, by simp [tot, lastM]⟩, ?_⟩
        · simp only [lastM, List.mem_append] at hL'
          rcases hL' with (h' | h') | h'
          · exact h.few L' (by rw [hM]; simp [h'])
          · split at h'
            · cases h'
            · rw [List.mem_singleton] at h'; subst h'
              exact cutL_few (h.few L hL)
          · exact h.few L' (by rw [hM]; simp [h'])
        · simp at hy
          rw [mem_foot]
          rcases hy with rfl | rfl <;> simp
        · rw [mem_foot] at hy ⊢
          rcases hy with hy | hy | hy | hy | ⟨L', hL', rfl⟩
          · exact Or.inl hy
          · exact Or.inr (Or.inl hy)
          · exact Or.inr (Or.inr (Or.inl hy))
          · exact Or.inr (Or.inr (Or.inr (Or.inl hy)))
          · simp only [lastM, List.mem_append] at hL'
            rcases hL' with (h' | h') | h'
            · exact Or.inr (Or.inr (Or.inr (Or.inr ⟨L', by rw [hM]; simp [h'], rfl⟩)))
            · split at h'
              · cases h'
              · rw [List.mem_singleton] at h'; subst h'
                exact Or.inr (Or.inr (Or.inr (Or.inr ⟨L, hL, rfl⟩)))
            · exact Or.inr (Or.inr (Or.inr (Or.inr ⟨L', by rw [hM]; simp [h'], rfl⟩)))
        · have hadr : (absL L).adr = lineAt k := ha
          have hp1 : ∀ x ∈ pre.map absL, x.adr ≠ lineAt k := fun y hy => by
            obtain ⟨z, hz, rfl⟩ := List.mem_map.1 hy
            have := hne.1 z hz
            rw [ha] at this; exact this
          have hp2 : ∀ x ∈ post.map absL, x.adr ≠ lineAt k := fun y hy => by
            obtain ⟨z, hz, rfl⟩ := List.mem_map.1 hy
            have := hne.2 z hz
            rw [ha] at this; exact this
          unfold absM evictA lastM
          simp only [hM, List.map_append, List.map_cons, List.foldl_append, List.foldl_cons, List.flatMap_append, List.flatMap_cons]
          rw [foldl_skip (evictI k q) (pre.map absL) (fun x hx b => if_neg (hp1 x hx)), foldl_skip (evictI k q) (post.map absL) (fun x hx b => if_neg (hp2 x hx)),
            flatMap_one (evictL k q) (pre.map absL) (fun x hx => if_neg (hp1 x hx)), flatMap_one (evictL k q) (post.map absL) (fun x hx => if_neg (hp2 x hx))]
          rw [show evictI k q M.image (absL L) = applyPuts M.image (L.ps.take (min q L.ps.length)) from if_pos hadr, show evictL k q (absL L) = cutP (absL L) (min q L.ps.length) from if_pos hadr, ← cut_abs]
          simp only [List.append_assoc]
          rfl
      · refine (last_none m B M _ q (fun L hL hc => hl ⟨L, hL, hc⟩) (by omega) w h.is).mono fun e w' hp => ?_
        obtain ⟨rfl, h1, h2⟩ := hp
        refine ⟨⟨_, rfl⟩, M, ⟨h1, h.few, h.two⟩, ⟨h2.mono (fun y hy => ?_), fun y hy => Or.inl hy, by simp⟩, ?_⟩
        · rw [List.mem_singleton] at hy; subst hy
          rw [mem_foot]; simp
        · have hp1 : ∀ x ∈ M.lines.map absL, x.adr ≠ lineAt k := fun y hy => by
            obtain ⟨z, hz, rfl⟩ := List.mem_map.1 hy
            exact fun hc => hl ⟨z, hz, hc⟩
          unfold absM evictA
          simp only []
          rw [foldl_skip (evictI k q) (M.lines.map absL) (fun x hx b => if_neg (hp1 x hx)), flatMap_one (evictL k q) (M.lines.map absL) (fun x hx => if_neg (hp1 x hx))]
    have kb : k < 131072 := by omega
    clear h hbig hn0
    go_enter Tryz.func69, Tryz.ntmps69
    go_wp2_with fail
    refine (HA.out).mono ?_
    rintro e w1 ⟨rfl, rfl⟩
    go_wp2_with fail
    refine (begin_z (8 * (k : Int)) (by omega) (by omega) w).mono ?_
    rintro e w2 ⟨rfl, rfl⟩
    go_wp2_with fail
    refine HL.out.mono ?_
    rintro e w3 ⟨⟨x, rfl⟩, M', h1, h2, h3⟩
    have P := hid (⟨h1, h2, h3⟩ : _ ∧ _ ∧ _)
    clear h1 h2 h3
    go_wp2
    go_ret2
    exact ⟨⟨_, rfl⟩, M', P.out⟩

end Go.Proofs.YtbkaemajjaiklaaGreat
