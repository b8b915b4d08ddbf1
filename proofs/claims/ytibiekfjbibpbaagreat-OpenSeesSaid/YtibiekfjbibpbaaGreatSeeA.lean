import Derived.Test.YtibiekfjbibpbaaGreatSndF
import Derived.Test.YtibiekfjbibpbaaGreatArnS
/- A built image with one value's byte turned: what it is. -/
namespace Go.Proofs.YtibiekfjbibpbaaGreat
open Go.RowKit
set_option linter.unusedVariables false
set_option linter.unusedSimpArgs false

section
variable {slabs per lag K : Nat} {keys : List Nat} {bs : List Int}
theorem Core.putV (h : Core slabs keys per lag K bs) {j x w : Nat} (hj : j < keys.length) (h1 : vA j ≤ x) (h2 : x + 8 ≤ vA j + 64) : Core slabs keys per lag K (putW bs x w) := by
  have hvin := h.vin
  have hin := vA_in (i := j) (slabs := slabs) (by omega)
  have hl := h.len
  have hx : x + 8 ≤ bs.length := by omega
  have hd : ∀ s m, m ≤ 8 → 1 ≤ s → 1024 * s + m + 8 ≤ x ∨ x + 8 ≤ 1024 * s + m := fun s m hm hs => by unfold vA at *; omega
  refine ⟨h.s1, h.s64, h.kk, h.rise, h.p2, h.p8, h.k15, by rw [q3n _ hx]; exact hl, q7z h.byt _ _, h.top.put (by omega) hx, ?_, fun s s1 s2 => ?_, fun s s1 s2 => ?_, h.vin, h.tin⟩
  · rw [z2z hx (by omega)]; exact h.root
  · rw [z2z hx (by have := hd s 0 (by omega) s1; omega)]; exact h.hc s s1 s2
  · rw [z2z hx (by have := hd s 8 (by omega) s1; omega)]; exact h.hb s s1 s2
theorem slB_two {bs : List Int} (a m n : Nat) : slB bs a (m + n) = slB bs a m ++ slB bs (a + m) n := by
  unfold slB; rw [List.take_add, List.drop_drop]
theorem slB_put8 {bs : List Int} {a : Nat} (x : Nat) (h : a + 8 ≤ bs.length) : slB (putW bs a x) a 8 = (List.range 8).map (q0g x) := by
  unfold slB putW
  have hl : (bs.take a).length = a := by rw [List.length_take]; omega
  rw [List.append_assoc, List.drop_append_of_le_length (by omega), List.drop_of_length_le (by omega), List.nil_append, List.take_append_of_le_length (by simp), List.take_of_length_le (by simp)]
theorem byte1 {x : Nat} (h : x < 256) : (List.range 8).map (q0g x) = [(x : Int), 0, 0, 0, 0, 0, 0, 0] := by
  have e : ∀ j, q0g x (j + 1) = 0 := fun j => by
    unfold q0g
    have : x / 256 ^ (j + 1) = 0 := Nat.div_eq_of_lt (Nat.lt_of_lt_of_le h (by rw [Nat.pow_succ]; exact Nat.le_mul_of_pos_left _ (Nat.pow_pos (by omega))))
    rw [this]; rfl
  have e0 : q0g x 0 = x := by unfold q0g; simp; omega
  show [q0g x 0, q0g x 1, q0g x 2, q0g x 3, q0g x 4, q0g x 5, q0g x 6, q0g x 7] = _
  rw [e0, e 0, e 1, e 2, e 3, e 4, e 5, e 6]
theorem valT_turn {bs : List Int} {a x : Nat} {c : Int} (h : a + 64 ≤ bs.length) (hx : x < 256) (hv : slB bs a 64 = valT [c]) : slB (putW bs (a + 8) x) a 64 = valT [(x : Int)] := by
  have h1 : slB bs a 8 = (valT [c]).take 8 := by rw [← hv]; unfold slB; rw [List.take_take]; rfl
  have h2 : slB bs (a + 16) 48 = (valT [c]).drop 16 := by rw [← hv]; unfold slB; rw [List.drop_take, List.drop_drop]
  rw [show (64 : Nat) = 8 + (8 + 48) from rfl, slB_two, slB_two, slB_putW (by omega) (by omega), slB_put8 _ (by omega), show a + 8 + 8 = a + 16 by omega, slB_putW (by omega) (by omega), h1, h2, byte1 hx]
  rfl
theorem Built.seen (h : Built slabs keys per lag K bs) {j0 x : Nat} (hj0 : j0 < keys.length) (hx : x < 256) (h10 : keys.getD j0 0 < 10) :
    q1a (putW bs (vA j0 + 8) x) (rowsI keys per lag K (putW bs (vA j0 + 8) x)) ((List.range keys.length).map (pairT keys (fun j => if j = j0 then [(x : Int)] else numL (keys.getD j 0)))) := by
  have hc : Core slabs keys per lag K (putW bs (vA j0 + 8) x) := h.toCore.putV hj0 (by omega) (by omega)
  have hvin := h.vin
  have hl := h.len
  have hin := vA_in (i := j0) (slabs := slabs) (by omega)
  have hlaid : ∀ k r, k < K + 1 → r < nK keys per lag k → LaidAt (putW bs (vA j0 + 8) x) (nA (uN keys) (tK keys per lag k + r)) (ndS keys per lag k r) := fun k r hk hr i hi => by
    have h1 := h.laid k hk _ (List.mem_of_getElem? (rowS_at hr)) i hi
    have h2 := nA_val (keys := keys) (tK keys per lag k + r) hj0
    rw [z2z (by omega) (by omega)]
    exact h1
  have hr : Rdb slabs keys per lag K (putW bs (vA j0 + 8) x) (wsE keys per lag) :=
    ⟨hc, fun {k r} hk hr => ⟨(hc.nodeL hk hr (hlaid k r hk hr)).1, by rw [(hc.validL hk hr (hlaid k r hk hr)).1]; omega, (hc.validL hk hr (hlaid k r hk hr)).2⟩, fun k r => List.Sublist.refl _⟩
  refine hr.whole (fun j hj => ?_) h.flat (fun j hj => List.mem_range.1 hj) List.nodup_range
  obtain ⟨v1, v2, v3⟩ := h.vs j hj
  by_cases e : j = j0
  · subst e
    simp only [if_true]
    refine ⟨?_, by simp, fun y hy => ?_⟩
    · have v1 : slB bs (vA j) 64 = valT (numL (keys.getD j 0)) := v1
      rw [q7r h10] at v1
      exact valT_turn (by omega) hx v1
    · rw [List.mem_singleton.1 hy]; omega
  · simp only [if_neg e]
    exact ⟨by rw [slB_putW (by omega) (by have := vA_apart (show j ≠ j0 from e); omega)]; exact v1, v2, v3⟩
/-- the words of an image with one turned -/
theorem wordsOf_put {bs : List Int} {q k x : Nat} (h : bs.length = 8 * q) (hk : k < q) (hx : x < 18446744073709551616) : q0b (putW bs (8 * k) x) = (q0b bs).set k (x : Int) := by
  have hl : (putW bs (8 * k) x).length = bs.length := q3n x (by omega)
  apply List.ext_getElem?
  intro i
  unfold q0b
  rw [hl, List.getElem?_set, List.getElem?_map, List.getElem?_map, h, Nat.mul_div_cancel_left _ (by omega : 0 < 8), List.length_map, List.length_range]
  by_cases hi : i < q
  · rw [List.getElem?_range hi]
    by_cases e : k = i
    · subst e
      rw [if_pos rfl, if_pos hi]
      exact congrArg some (v0q (by omega) hx)
    · rw [if_neg e]
      exact congrArg some (z2z (b := 8 * i) (by omega) (by omega))
  · rw [if_neg (by omega), List.getElem?_eq_none (by simp; omega)]
    rfl
theorem room7 : BldRoom 2 [7] 4 0 := by
  have h0 : ((AR.new 2).vals [7] [7].length).1.lvStop 4 0 ((AR.new 2).vals [7] [7].length).2 0 := Or.inl (by decide +kernel)
  have h1 : ((AR.new 2).vals [7] [7].length).1.lvRoom 4 0 ((AR.new 2).vals [7] [7].length).2 0 := by
    intro k hk
    have hn : q1t 4 (((AR.new 2).vals [7] [7].length).1.lvls 4 0 ((AR.new 2).vals [7] [7].length).2 0).2.2 = 1 := by decide +kernel
    rw [hn] at hk
    obtain rfl : k = 0 := by omega
    decide +kernel
  refine ⟨fun i hi => ?_, fun k hk => ?_⟩
  · obtain rfl : i = 0 := by simp at hi; omega
    decide +kernel
  · rcases Nat.eq_zero_or_pos k with rfl | h
    · exact h1
    · exact absurd h0 (hk 0 h)
end

end Go.Proofs.YtibiekfjbibpbaaGreat
