/- A set of addresses: a row in a cell; one pushed. -/
import Derived.Maps.AppendAt
import Derived.Deep.AppendLies
import Derived.Test.YtbkaemajjaiklaaHeapU
namespace Go.Proofs.Ytbkaemajjaiklaa
open Go.RowKit
set_option linter.unusedVariables false
set_option linter.unusedSimpArgs false

structure KeyF (X : Prop) : Prop where
  out : X
theorem shareF {X G : Prop} (main : KeyF X → G) (key : X) : G := main ⟨key⟩
/-- the cell f holds a row of these addresses -/
structure FreeRow (w : World) (f : Nat) (v : Value) (xs : List Int) : Prop where
  blk : ∃ t, Blk w f t #[v]
  row : w.ownsRow 0 47 1 v xs.length (xs.map fun x => Value.int .u64 x)
  far : v.ownBlock ≠ some f

set_option maxRecDepth 100000 in
set_option maxHeartbeats 2000000 in
theorem aPush_z (f : Nat) (v : Value) (xs : List Int) (x : Int) (hx : xs.length ≤ 1000000) (w : World) (h : FreeRow w f v xs) :
    Calls Try.prog 163 #[.pointer (some ⟨f, 0, none⟩), .iface 47 (.int .u64 x)] w fun e w' => (∃ r, e = .returned r) ∧ ∃ v', FreeRow w' f v' (xs ++ [x]) ∧ Only (f :: v.ownBlock.toList) w w' ∧ (v'.ownBlock = v.ownBlock ∨ ∃ g, v'.ownBlock = some g ∧ w.heap.size ≤ g) := by
  obtain ⟨t, hb⟩ := h.blk
  have hinfo : (Try.prog.info? 47).map (fun i => (i.zero, i.size, i.bytes)) = some (some (.int .u64 0), 1, 8) := by kernel_rfl
  obtain ⟨i0, hi0, hz0, hz1, hz2⟩ := info_parts hinfo
  obtain ⟨v', w9, hrun, hown9, hgr9, hnil9, hob9⟩ := run_append_own_at (P := Try.prog) ((w.alloc (.cells #[.int .u64 x] 47)).drew) 0 138 138 47 i0 (.int .u64 0) 1 8 Try.underlying138 hi0 hz0 hz1 hz2 rfl (by decide) _ _ _ (h.row.alloc (.cells #[.int .u64 x] 47)) ⟨w.heap.size, 0, none⟩ 1 1 [.int .u64 x] rfl (World.news_of_block (Blk.new w 47 #[.int .u64 x])) (by simp [Value.oneCell']) (by unfold maxLen; omega) (by omega) (by simp)
  have HRUN := hid hrun
  clear hrun hnil9
  obtain ⟨va, vn, vc, rfl⟩ : ∃ a n c, v' = .slice a n c := by
    rcases hown9.2 with ⟨h1, _⟩ | ⟨g, cap, cur, h1, _⟩
    · exact ⟨_, _, _, h1⟩
    · exact ⟨_, _, _, h1⟩
  have hb9 : Blk w9 f t #[v] := ((hb.alloc (.cells #[.int .u64 x] 47)).drew).grown hgr9 (fun e => h.far e.symm)
  have hta : ∀ w', (Instr.typeAssert (.iface 47 (.int .u64 x)) 20 47 false).run Try.prog w' = Result.ok (.int .u64 x) w' := fun w' => by simp [Instr.typeAssert, run_underlying Try.underlying47]
  have y0 : w.drew.cell? ⟨f, 0, none⟩ = some v := hb.cell 0
  have y1 : (w.alloc (.cells #[.int .u64 x] 47)).drew.cell? ⟨f, 0, none⟩ = some v := (hb.alloc _).cell 0
  have y9 : w9.cell? ⟨f, 0, none⟩ = some v := hb9.cell 0
  have y9f := hb9.frozen 0
  have HO := hid hown9
  have HG := hid hgr9
  have HB9 := hid hb9
  have HOB := hid hob9
  have H := hid h
  clear hown9 hgr9 hb9 hob9 h hb hi0 hz0 hz1 hz2 hinfo
  go_enter Try.func163, Try.ntmps163
  go_wp2
  refine shareF (X := ?X) (fun key => ?_) ?_
  rotate_left
  · go_region_law (refine step_append_runI rfl (.tmp 7) (.tmp 10) 138 138 rfl _ _ (by simp [Act.eval, Act.put]) (by simp [Act.eval, Act.put]) HRUN.out ?_)
    all_goals
      try go_simp
      try simp only [Act.put, List.setIfInBounds_toArray, List.set_cons_zero, List.set_cons_succ]
      exact key.out
  go_end0
  have hfl : f < w.heap.size := by obtain ⟨t, hb⟩ := H.out.blk; exact hb.lt
  have hne : (Value.slice va vn vc).ownBlock ≠ some f := by
    rcases HOB.out with h | h
    · rw [h]; exact H.out.far
    · rw [h]; intro e; injection e with e; simp at e; omega
  have h1 : Only (f :: v.ownBlock.toList) w w9 := ((Only.refl _ w).alloc _).drew.trans (Only.of_grown (f := f :: v.ownBlock.toList) HG.out (fun k hk => by simp [hk])) (fun y hy => Or.inl hy)
  refine ⟨⟨_, rfl⟩, .slice va vn vc, ⟨⟨t, HB9.out.set_ 0 _⟩, ?_, hne⟩, h1.setCell (Or.inl (by simp)) _, ?_⟩
  · have h2 := ((Only.refl [f] w9).setCell (p := ⟨f, 0, none⟩) (Or.inl (by simp)) (.slice va vn vc)).own HO.out (fun k hk hc => by simp at hc; subst hc; exact hne hk)
    simpa using h2
  · rcases HOB.out with h | h
    · exact Or.inl h
    · exact Or.inr ⟨_, h, by simp⟩

end Go.Proofs.Ytbkaemajjaiklaa
