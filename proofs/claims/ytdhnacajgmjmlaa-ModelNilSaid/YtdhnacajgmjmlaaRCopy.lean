/- The document's Copy; both Dos as one law; a fresh document's map. -/
import Derived.Laws.AppendOwnNone
import Derived.Test.YtdhnacajgmjmlaaNew
namespace Go.Proofs.Ytdhnacajgmjmlaa
open Go.RowKit
set_option linter.unusedVariables false
set_option linter.unusedSimpArgs false

def CopyPost (w : World) (L : RL) (e : Ending) (w' : World) : Prop := ∃ c v', e = .returned (.pointer (some ⟨c, 0, none⟩)) ∧ RefIs w' c v' L ∧ Below w.heap.size w w' ∧ ∀ k, k ∈ foot c v' → w.heap.size ≤ k

set_option maxRecDepth 100000 in
set_option maxHeartbeats 1000000 in
theorem RCopy_nil (r : Nat) (w : World) (h : RefIs w r (.slice none 0 0) []) : Calls Try.prog 43 #[.pointer (some ⟨r, 0, none⟩)] w (CopyPost w []) := by
  obtain ⟨i0, hi0, hz0, hz1, hz2⟩ := info_parts infoPut
  have x0 := h.obj.cell 0
  have HH := hid h
  clear h
  go_enter Try.func43, Try.ntmps43
  go_wp2_with (at_builtin; refine wpList_append_own_none rfl (.const (.slice none 0 0)) (.tmp 6) 48 rfl 0 123 i0 3 Try.underlying48 hi0 (.slice none 0 0) 0 [] rfl ⟨rfl, Or.inl ⟨rfl, rfl⟩⟩ rfl ?_)
  go_ret
  exact ⟨_, .slice none 0 0, rfl, ⟨Blk.new _ _ _, ⟨rfl, Or.inl ⟨rfl, rfl⟩⟩, by simp⟩, ba (Below.refl _ _) _, by simp [foot, Value.ownBlock]⟩

set_option maxRecDepth 100000 in
set_option maxHeartbeats 1000000 in
theorem RCopy_some (r g cap : Nat) (L : RL) (w : World) (h : RefIs w r (.slice (some ⟨g, 0, none⟩) L.length cap) L) : Calls Try.prog 43 #[.pointer (some ⟨r, 0, none⟩)] w (CopyPost w L) := by
  obtain ⟨i0, hi0, hz0, hz1, hz2⟩ := info_parts infoPut
  have x0 := h.obj.cell 0
  have hf := h.few
  have HH := hid h
  clear h
  go_enter Try.func43, Try.ntmps43
  go_wp2_with (at_builtin; refine wpList_append_own_at _ rfl (.const (.slice none 0 0)) (.tmp 6) 48 rfl w.heap.size 123 i0 (.agg #[.int .u64 0, .string ⟨#[]⟩, .bool false]) 3 32 Try.underlying48 hi0 hz0 hz1 hz2 rfl (by decide) (.slice none 0 0) 0 [] rfl ⟨rfl, Or.inl ⟨rfl, rfl⟩⟩ ⟨g, 0, none⟩ L.length cap (rc L) rfl (rc_length L) (HH.out.row.cells rfl) (rc_one L) (by unfold maxLen; omega) (by omega) (Nat.le_refl _) ?_; intro v' w1 hown hgrow _ hob; obtain ⟨a', c', rfl⟩ := row_form hown; have HO := hid hown; have HG := hid hgrow; have HOB := hid hob; clear hown hgrow hob)
  go_ret
  have hb : Below w.heap.size w w1 := (Below.refl _ w).grown HG.out (Nat.le_refl _) (fun k e => by simp [Value.ownBlock] at e)
  have ho := HO.out
  simp only [Nat.zero_add, List.nil_append] at ho
  refine ⟨_, _, rfl, ⟨Blk.new _ _ _, row_zero (row_alloc ho _), hf⟩, ba hb _, fun k hk => ?_⟩
  simp only [foot, List.mem_cons, Option.mem_toList] at hk
  rcases hk with rfl | hk
  · exact hb.size
  · exact (row_lt ho k hk).1

theorem RCopy_z (r : Nat) (v : Value) (L : RL) (w : World) (h : RefIs w r v L) : Calls Try.prog 43 #[.pointer (some ⟨r, 0, none⟩)] w (CopyPost w L) := by
  rcases h.row.2 with ⟨rfl, h0⟩ | ⟨g, cap, cur, rfl, _⟩
  · obtain rfl : L = [] := List.eq_nil_of_length_eq_zero h0
    exact RCopy_nil r w h
  · exact RCopy_some r g cap L w h
theorem RefIs.new (w : World) : RefIs (w.alloc (.cells #[.slice none 0 0] 50)) w.heap.size (.slice none 0 0) [] :=
  ⟨Blk.new _ _ _, ⟨rfl, Or.inl ⟨rfl, rfl⟩⟩, by simp⟩

end Go.Proofs.Ytdhnacajgmjmlaa
