/- A memory of words: a store comes to a line's row: in place, or in a new one. -/
import Derived.ArgAppend
import Derived.Test.YtbkaemajjaiklaaPmD
namespace Go.Proofs.Ytbkaemajjaiklaa
open Go.RowKit
set_option linter.unusedVariables false
set_option linter.unusedSimpArgs false

theorem set_two {α : Type} (l : List α) (o n : Nat) (a b : α) (h : o + n + 1 < l.length) : (((l.set (o + n) a).set (o + n + 1) b).drop o).take (n + 2) = (l.drop o).take n ++ [a, b] := by
  have hl : ((l.drop o).take n).length = n := by simp; omega
  apply List.ext_getElem?
  intro i
  by_cases h1 : i < n
  · rw [List.getElem?_append_left (by omega), List.getElem?_take, List.getElem?_take, if_pos (by omega), if_pos h1, List.getElem?_drop, List.getElem?_drop, List.getElem?_set_ne (by omega), List.getElem?_set_ne (by omega)]
  · rw [List.getElem?_append_right (by omega), hl, List.getElem?_take]
    by_cases h2 : i < n + 2
    · rw [if_pos h2, List.getElem?_drop]
      by_cases h3 : i = n
      · subst h3
        rw [List.getElem?_set_ne (by omega), List.getElem?_set_self (by omega)]
        simp
      · have h4 : i = n + 1 := by omega
        subst h4
        rw [show o + (n + 1) = o + n + 1 by omega, List.getElem?_set_self (by simp; omega)]
        simp
    · rw [if_neg h2, List.getElem?_eq_none (by simp; omega)]
theorem putC2_length (ps : List (Nat × Int)) : (putC2 ps).length = ps.length * 2 := by
  induction ps with
  | nil => rfl
  | cons p ps ih => simp [putC2] at ih ⊢; omega
theorem putC2_snoc (ps : List (Nat × Int)) (a : Nat) (x : Int) : putC2 (ps ++ [(a, x)]) = putC2 ps ++ [.int .u64 (a : Int), .int .u64 x] := by simp [putC2]
theorem RowP.cells {w : World} {L : LineA} (h : RowP w L) : ∀ j u, (putC2 L.ps)[j]? = some u → w.cell? ((⟨L.g, L.o, none⟩ : Addr).add j) = some u := by
  obtain ⟨cur, h1, h2, h3, h4⟩ := h
  rw [← h4]
  exact cells_of_blk h1 L.o _

theorem append_line (w : World) (ty : TypeId) (L : LineA) (hr : RowP w L) (ad : Addr) (m : Nat) (a : Nat) (x : Int) (hn : ∀ j u, [Value.int .u64 (a : Int), .int .u64 x][j]? = some u → w.cell? (ad.add j) = some u) (hlen : L.ps.length ≤ 1000000000) :
    ∃ g o cap w', (Builtin.append_ #[164, 164] ty #[.slice (some ⟨L.g, L.o, none⟩) L.ps.length L.cap, .slice (some ad) 1 m]).run Try.prog w = .ok (.slice (some ⟨g, o, none⟩) (L.ps.length + 1) cap) w' ∧
      RowP w' { L with g := g, o := o, cap := cap, ps := L.ps ++ [(a, x)] } ∧ Only [L.g] w w' ∧ (g = L.g ∨ w.heap.size ≤ g) := by
  have hinfo : (Try.prog.info? 170).map (fun i => (i.zero, i.size, i.bytes)) = some (some (.agg #[.int .u64 0, .int .u64 0]), 2, 16) := by kernel_rfl
  obtain ⟨i, hi, hz0, hz1, hz2⟩ := info_parts hinfo
  obtain ⟨cur, h1, h2, h3, h4⟩ := id hr
  by_cases hroom : L.ps.length + 1 ≤ L.cap
  · have hrun := run_append_room_cells (P := Try.prog) w 164 ty 170 i Try.underlying164 hi L.g L.o L.ps.length L.cap ad 1 m [.int .u64 (a : Int), .int .u64 x] (by simp [hz1]) hn (by simp [Value.oneCell']) hroom
      (fun j hj => by rw [h1.cell]; simp at hj; rw [hz1]; simp; omega) (fun j hj => h1.frozen _)
    refine ⟨L.g, L.o, L.cap, _, hrun, ?_, ?_, Or.inl rfl⟩
    · rw [hz1]
      refine ⟨(cur.setIfInBounds (L.o + L.ps.length * 2) (.int .u64 (a : Int))).setIfInBounds (L.o + L.ps.length * 2 + 1) (.int .u64 x), (h1.set_ _ _).set_ _ _, by simp; exact hroom, by simpa using h3, ?_⟩
      simp only [Array.toList_setIfInBounds, List.length_append, List.length_cons, List.length_nil]
      rw [show (L.ps.length + (0 + 1)) * 2 = L.ps.length * 2 + 2 by omega, set_two _ _ _ _ _ (by simp; omega), h4, putC2_snoc]
    · exact ((Only.refl _ _).setCell (Or.inl (by simp)) _).setCell (Or.inl (by simp)) _
  · obtain ⟨v', w', hrun, hown, hgr⟩ := run_append_arg_grows (P := Try.prog) w 164 ty 170 i (.agg #[.int .u64 0, .int .u64 0]) 2 16 Try.underlying164 hi hz0 hz1 hz2 rfl (by decide) ⟨L.g, L.o, none⟩ L.ps.length L.cap (putC2 L.ps) (putC2_length _) hr.cells ad 1 m [.int .u64 (a : Int), .int .u64 x] rfl hn (by omega) (by unfold maxLen; omega) (by omega)
    rcases hown.2 with ⟨_, h0⟩ | ⟨g, cap, cur', hv, hg, hh, hcap, hmx, hx⟩
    · omega
    · subst hv
      refine ⟨g, 0, cap, w', hrun, ?_, Only.of_grown hgr (fun k hk => by cases hk), Or.inr hg⟩
      refine ⟨cur', hh, by simpa using hcap, by simp [hx.1], ?_⟩
      rw [List.drop_zero, putC2_snoc, List.length_append]
      exact hx.2

end Go.Proofs.Ytbkaemajjaiklaa
