/- The walks of the statements of layer 4 (super). -/
import Derived.Test.YtnonldbnnjdifaaPlaces
import Derived.Test.YtnonldbnnjdifaaArr8
namespace Go.Proofs.Ytnonldbnnjdifaa
open Go.RowKit
set_option linter.unusedVariables false

theorem ck {w w' : World} {p : Addr} {x : Value} (h : w.cell? p = some x) (hb : Below w.heap.size w w') : w'.cell? p = some x := (hb.cell (World.block_lt_of_cell? w p h)).trans h
theorem ca {w : World} {p : Addr} {x : Value} (o : Obj) (h : w.cell? p = some x) : (w.alloc o).cell? p = some x := by
  rw [World.cell?_alloc_old _ _ _ (Nat.ne_of_lt (World.block_lt_of_cell? w p h))]; exact h

theorem Places_5 (w : World) : Calls Try.prog 44 #[.int .i64 1] w fun e W' => ∃ g cap : Nat, e = .returned (.slice (some ⟨g, 0, none⟩) 5 cap) ∧ 5 ≤ cap ∧ cap ≤ 9223372036854775807 ∧ W'.cell? ⟨g, 0, none⟩ = some (.int .u64 1088) ∧ W'.cell? ⟨g, 4, none⟩ = some (.int .u64 1856) ∧ Below w.heap.size w W' :=
  (Places_z 1 w).mono fun e W' ⟨v, he, hv, hb⟩ => by
    rcases hv with ⟨h, _⟩ | ⟨_, g, cap, rfl, h5, hm, hc⟩
    · exact absurd h (by decide)
    · rw [plcs_len] at he h5
      exact ⟨g, cap, he, h5, hm, hc 0 _ (by decide), hc 4 _ (by decide), hb⟩

set_option maxHeartbeats 2000000 in
theorem known04 (w : World) : Calls Try.prog 42 #[] w fun e w' => e = .returned (.bool true) ∧ Below w.heap.size w w' := by
  have k1 : sizeZ 1 = 2048 := by decide
  have k2 : sizeZ 2 = 3072 := by decide
  have k3 : notZ 2048 = 18446744073709549567 := by decide
  have k4 := eq8_same 5929342154728227142 2048 1088 18446744073709549567 0 0 0 0
  go_enter Try.func42, Try.ntmps42
  go_wp2_with fail
  refine (New_yes _ _ _ (by omega) (by omega) (by decide)).mono ?_
  rintro e v1 ⟨rfl, hb1⟩
  go_wp2_with fail
  refine (New_no _ _ _ (by omega) (by omega) (by decide)).mono ?_
  rintro e v2 ⟨rfl, hb2⟩
  go_wp2_with fail
  refine (New_no _ _ _ (by omega) (by omega) (by decide)).mono ?_
  rintro e v3 ⟨rfl, hb3⟩
  go_wp2_with fail
  refine (New_yes _ _ _ (by omega) (by omega) (by decide)).mono ?_
  rintro e v4 ⟨rfl, hb4⟩
  have c0 := ck (ca _ (ck (ca _ (ck (show (v1.alloc (.cells #[.int .u64 2048, .int .u64 1088] 40)).cell? ⟨v1.heap.size, 0, none⟩ = some (.int .u64 2048) by simp) hb2)) hb3)) hb4
  have c1 := ck (ca _ (ck (ca _ (ck (show (v1.alloc (.cells #[.int .u64 2048, .int .u64 1088] 40)).cell? ⟨v1.heap.size, 1, none⟩ = some (.int .u64 1088) by simp) hb2)) hb3)) hb4
  have z1 := World.block_lt_of_cell? _ _ c0
  simp only at z1
  have z2 : v1.heap.size ≠ v4.heap.size := by omega
  go_wp2_with fail
  refine (Words_z _ _ _ (by omega) (by omega) (by omega) (by omega)).mono ?_
  rintro e v5 ⟨rfl, hb5⟩
  unfold words8
  go_wp2_with fail
  refine (Places_5 _).mono ?_
  rintro e v6 ⟨g, cap, rfl, g1, g2, g3, g4, hb6⟩
  have d0 := ck (show (v5.alloc (.cells #[.int .u64 5929342154728227142, .int .u64 2048, .int .u64 1088, .int .u64 18446744073709549567, .int .u64 0, .int .u64 0, .int .u64 0, .int .u64 0] 49)).cell? ⟨v5.heap.size, 0, none⟩ = some (.int .u64 5929342154728227142) by simp) (by simpa using hb6)
  have d1 := ck (show (v5.alloc (.cells #[.int .u64 5929342154728227142, .int .u64 2048, .int .u64 1088, .int .u64 18446744073709549567, .int .u64 0, .int .u64 0, .int .u64 0, .int .u64 0] 49)).cell? ⟨v5.heap.size, 1, none⟩ = some (.int .u64 2048) by simp) (by simpa using hb6)
  have d2 := ck (show (v5.alloc (.cells #[.int .u64 5929342154728227142, .int .u64 2048, .int .u64 1088, .int .u64 18446744073709549567, .int .u64 0, .int .u64 0, .int .u64 0, .int .u64 0] 49)).cell? ⟨v5.heap.size, 2, none⟩ = some (.int .u64 1088) by simp) (by simpa using hb6)
  have d3 := ck (show (v5.alloc (.cells #[.int .u64 5929342154728227142, .int .u64 2048, .int .u64 1088, .int .u64 18446744073709549567, .int .u64 0, .int .u64 0, .int .u64 0, .int .u64 0] 49)).cell? ⟨v5.heap.size, 3, none⟩ = some (.int .u64 18446744073709549567) by simp) (by simpa using hb6)
  have d4 := ck (show (v5.alloc (.cells #[.int .u64 5929342154728227142, .int .u64 2048, .int .u64 1088, .int .u64 18446744073709549567, .int .u64 0, .int .u64 0, .int .u64 0, .int .u64 0] 49)).cell? ⟨v5.heap.size, 4, none⟩ = some (.int .u64 0) by simp) (by simpa using hb6)
  have d5 := ck (show (v5.alloc (.cells #[.int .u64 5929342154728227142, .int .u64 2048, .int .u64 1088, .int .u64 18446744073709549567, .int .u64 0, .int .u64 0, .int .u64 0, .int .u64 0] 49)).cell? ⟨v5.heap.size, 5, none⟩ = some (.int .u64 0) by simp) (by simpa using hb6)
  have d6 := ck (show (v5.alloc (.cells #[.int .u64 5929342154728227142, .int .u64 2048, .int .u64 1088, .int .u64 18446744073709549567, .int .u64 0, .int .u64 0, .int .u64 0, .int .u64 0] 49)).cell? ⟨v5.heap.size, 6, none⟩ = some (.int .u64 0) by simp) (by simpa using hb6)
  have d7 := ck (show (v5.alloc (.cells #[.int .u64 5929342154728227142, .int .u64 2048, .int .u64 1088, .int .u64 18446744073709549567, .int .u64 0, .int .u64 0, .int .u64 0, .int .u64 0] 49)).cell? ⟨v5.heap.size, 7, none⟩ = some (.int .u64 0) by simp) (by simpa using hb6)
  go_wp2_with fail
  refine (RootAt_z _).mono ?_
  rintro e w1 ⟨rfl, rfl⟩
  go_wp2
  go_ret
  exact ⟨rfl, by (repeat (first | exact Below.refl _ _ | (refine ba ?_ _) | (refine Below.drew ?_) | (refine below_drewN ?_ _) | (refine Below.alloc ?_ (by first | omega | (simp; done) | (simp; omega)) _) | (refine Below.setCell ?_ (by first | omega | (simp; done) | (simp; omega)) _) | (refine bx ?_ (by assumption)) | (refine Below.trans ?_ (Below.mono (by assumption) (by first | omega | (simp; done) | (simp; omega))))))⟩

end Go.Proofs.Ytnonldbnnjdifaa
