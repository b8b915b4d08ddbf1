/- slices.Delete of one pair, slices.Clone, slices.Equal at []api.Pair. -/
import Derived.Test.YtdhnacajgmjmlaaIns
import Derived.Deep.RegionHeld3
namespace Go.Proofs.Ytdhnacajgmjmlaa
open Go.RowKit
set_option linter.unusedVariables false

section
variable {P : Program}
theorem wp_clear_runI (w : World) {o : Oper} {a : Act} {K : Act → World → Prop} {Q : Exit → Act → World → Prop} (x : Operand) (t : TypeId)
    (ho : o.op = .call { callee := .builtin .clear, args := #[x], argTypes := #[t] }) (u : Value) (hx : a.eval x = u) {v' : Value} {w' : World}
    (hr : (Builtin.clear_ #[t] o.type #[u]).run P w = .ok v' w') (h : K (a.put o.dst v') w') : o.wp P a w K Q := by
  unfold Oper.wp execOp
  simp only [ho, resolve, invoke, builtin, Sem.run_bind, Sem.run_pure, Result.andThen_ok, List.map_toArray, List.map_cons, List.map_nil, hx, hr]
  exact h
theorem wpList_clear_runI (w : World) {ops : Array Oper} {rest : List Oper} {o : Oper} {a : Act} {Q : Exit → Act → World → Prop} (hgd : o.guard = none) (x : Operand) (t : TypeId)
    (ho : o.op = .call { callee := .builtin .clear, args := #[x], argTypes := #[t] }) (u : Value) (hx : a.eval x = u) {v' : Value} {w' : World}
    (hr : (Builtin.clear_ #[t] o.type #[u]).run P w = .ok v' w') (h : wpList P ops Q rest (a.put o.dst v') w') : wpList P ops Q (o :: rest) a w :=
  wpList_plain hgd fun _ hK => wp_clear_runI w x t ho u hx hr (hK _ _ h)
end

theorem zeroPair : (Builtin.zeroCells (Value.agg #[.int .u64 0, .string ⟨#[]⟩]).cells 1).toList = [.int .u64 0, .string ⟨#[]⟩] := by kernel_rfl

set_option maxRecDepth 100000 in
set_option maxHeartbeats 2000000 in
theorem Delete_one (g n cap i : Nat) (cs : List Value) (w : World) (hown : w.ownsRow 0 52 2 (.slice (some ⟨g, 0, none⟩) n cap) n cs) (hin : i < n) (hn : n ≤ 1000000) (h1 : ∀ v ∈ cs, v.oneCell' = true) :
    Calls Try.prog 63 #[.slice (some ⟨g, 0, none⟩) n cap, .int .i64 i, .int .i64 ((i : Int) + 1)] w (RowPost w (.slice (some ⟨g, 0, none⟩) n cap) 52 2 (n - 1) (cs.take (i * 2) ++ cs.drop (i * 2 + 2))) := by
  obtain ⟨i0, hi, hz0, hz1, hz2⟩ := info_parts infoPair
  have hl := hown.1
  rcases hown.2 with ⟨h, _⟩ | ⟨g', cap', cur, h, _, hg, hnc, hcm, hcs, htake⟩
  · simp at h
  simp only [Value.slice.injEq, Option.some.injEq, Addr.mk.injEq, and_true, true_and] at h
  obtain ⟨rfl, rfl⟩ := h
  have hg : Blk w g 52 cur := hg
  -- the elements ahead of the place, and those behind it
  have hhead : w.drew.ownsRow 0 52 2 (.slice (some ⟨g, 0, none⟩) i cap) i (cs.take (i * 2)) :=
    ⟨by simp [hl]; omega, Or.inr ⟨g, cap, cur, rfl, Nat.zero_le _, hg, by omega, hcm, hcs, by rw [← htake, List.take_take, Nat.min_eq_left (by omega)]⟩⟩
  have happ : ∀ ty a c, (0 < n - (i + 1) → a = ⟨g, (i + 1) * 2, none⟩) → ∃ w', (Builtin.append_ #[46, 46] ty #[.slice (some ⟨g, 0, none⟩) i cap, .slice (some a) (n - (i + 1)) c]).run Try.prog w.drew = .ok (.slice (some ⟨g, 0, none⟩) (n - 1) cap) w' ∧
      w'.ownsRow 0 52 2 (.slice (some ⟨g, 0, none⟩) (n - 1) cap) (n - 1) (cs.take (i * 2) ++ cs.drop (i * 2 + 2)) ∧ w.drew.grownBy w' (some g) := by
    intro ty a c ha
    have hm : (cs.drop (i * 2 + 2)).length = (n - (i + 1)) * 2 := by simp [hl]; omega
    have hnews : ∀ j u, (cs.drop (i * 2 + 2))[j]? = some u → w.drew.cell? (a.add j) = some u := by
      intro j u hj
      have hlt : j < (n - (i + 1)) * 2 := by rw [← hm]; exact (List.getElem?_eq_some_iff.1 hj).1
      rw [ha (by omega)]
      have := cells_of_blk (w := w.drew) hg ((i + 1) * 2) ((n - (i + 1)) * 2) j u
      apply this
      rw [← hj, ← htake, List.drop_take, show i * 2 + 2 = (i + 1) * 2 by omega, show n * 2 - (i + 1) * 2 = (n - (i + 1)) * 2 by omega]
    obtain ⟨w', hr, ho, hgr⟩ := run_append_fits (P := Try.prog) w.drew 0 46 ty 52 i0 2 Try.underlying46 hi hz1 g i cap (cs.take (i * 2)) hhead a (n - (i + 1)) c (cs.drop (i * 2 + 2)) hm hnews (fun u hu => h1 u (List.mem_of_mem_drop hu)) (by omega)
    rw [show i + (n - (i + 1)) = n - 1 by omega] at hr ho
    exact ⟨w', hr, ho, hgr⟩
  have hclr : ∀ (W : World) (xs : List Value), W.ownsRow 0 52 2 (.slice (some ⟨g, 0, none⟩) (n - 1) cap) (n - 1) xs → ∀ ty c, ∃ w', (Builtin.clear_ #[46] ty #[.slice (some ⟨g, (n - 1) * 2, none⟩) 1 c]).run Try.prog W = .ok (.tuple #[]) w' ∧
      w'.ownsRow 0 52 2 (.slice (some ⟨g, 0, none⟩) (n - 1) cap) (n - 1) xs ∧ W.grownBy w' (some g) := by
    intro W xs hW ty c
    rcases hW.2 with ⟨h, _⟩ | ⟨g2, cap2, cur2, h, _, hg2, hnc2, hcm2, hcs2, htake2⟩
    · simp at h
    simp only [Value.slice.injEq, Option.some.injEq, Addr.mk.injEq, and_true, true_and] at h
    obtain ⟨rfl, rfl⟩ := h
    have hr := run_clear_row (P := Try.prog) W 46 ty 52 i0 (.agg #[.int .u64 0, .string ⟨#[]⟩]) Try.underlying46 hi hz0 g ((n - 1) * 2) 1 c cur2 52 hg2 (by rw [size_zeroCells]; simp [Value.cells]; omega) (by rw [zeroPair]; simp [Value.oneCell'])
    rw [zeroPair] at hr
    refine ⟨_, hr, ⟨hW.1, Or.inr ⟨g, cap, _, rfl, Nat.zero_le _, Blk.row hg2 _, hnc2, hcm2, ?_, ?_⟩⟩, ⟨rfl, rfl, rfl, by simp, fun x _ hx => setRow_other _ _ _ _ (fun e => hx (by rw [e]))⟩⟩
    · have : cur2.toList.length = cap * 2 := by simpa using hcs2
      simp [this]; omega
    · have : cur2.toList.length = cap * 2 := by simpa using hcs2
      simp only [List.append_assoc]
      rw [List.take_append_of_le_length (by simp [this]; omega), List.take_take, Nat.min_self]; exact htake2
  have HC := hid hclr
  have HP := hid happ
  unfold maxLen at hcm
  clear hclr happ hhead hown hl hg htake hcs hi hz0 hz1 hz2 h1
  have w1 : ((i : Int) == (i : Int) + 1) = false := beq_eq_false_iff_ne.2 (by omega)
  have w2 : ((i : Int) + 1).toNat = i + 1 := by omega
  have w3 : (0 : Int) ≤ (i : Int) + 1 := by omega
  have w4 : (i : Int) ≤ (i : Int) + 1 := by omega
  have w5 : (i : Int) + 1 ≤ (n : Int) := by omega
  have w6 : ¬ cap = i := by omega
  have w7 : ¬ cap = n - 1 := by omega
  have w8 : n - (n - 1) = 1 := by omega
  have w9 : i ≤ cap := by omega
  have w10 : i + 1 ≤ n := by omega
  by_cases hc : cap = i + 1
  · obtain rfl : n = i + 1 := by omega
    subst hc
    obtain ⟨w', hr, ho, hgr⟩ := HP.out 46 ⟨g, 0, none⟩ 0 (fun h => by omega)
    have e1 : i + 1 - (i + 1) = 0 := by omega
    have e2 : i + 1 - 1 = i := by omega
    rw [e1, e2] at hr
    rw [e2] at ho ⊢
    have HR := hid hr
    have HO := hid ho
    have HC' := HC.out w' (cs.take (i * 2) ++ cs.drop (i * 2 + 2))
    rw [e2] at HC'
    obtain ⟨w'', hr2, ho2, hgr2⟩ := HC' HO.out 0 (i + 1 - i)
    rw [show i + 1 - i = 1 by omega] at hr2
    have HR2 := hid hr2
    clear hr ho hr2 HC' e1 e2 w8 w7
    have w7 : ¬ i + 1 = i := by omega
    go_enter Try.func63, Try.ntmps63
    go_wp2
    go_region_law (refine step_append_runI rfl (.tmp 22) (.tmp 25) 46 46 rfl _ _ (by simp [Act.eval, Act.put]) (by simp [Act.eval, Act.put]) HR.out ?_)
    go_wp2_with (refine wpList_clear_runI _ rfl (.tmp 31) 46 rfl (.slice (some ⟨g, i * 2, none⟩) 1 1) rfl HR2.out ?_)
    go_ret
    refine ⟨_, rfl, ho2, ⟨hgr2.os.trans hgr.os, hgr2.tape.trans hgr.tape, hgr2.output.trans hgr.output, Nat.le_trans hgr.size hgr2.size, fun x hx hn => (hgr2.block x (Nat.lt_of_lt_of_le hx hgr.size) hn).trans (hgr.block x hx hn)⟩, Or.inl rfl⟩
  · skip
    obtain ⟨w', hr, ho, hgr⟩ := HP.out 46 ⟨g, (i + 1) * 2, none⟩ (cap - (i + 1)) (fun _ => rfl)
    have HR := hid hr
    have HO := hid ho
    clear hr ho
    go_enter Try.func63, Try.ntmps63
    go_wp2
    go_region_law (refine step_append_runI rfl (.tmp 22) (.tmp 25) 46 46 rfl _ _ (by simp [Act.eval, Act.put]) (by simp [Act.eval, Act.put]) HR.out ?_)
    obtain ⟨w'', hr2, ho2, hgr2⟩ := HC.out w' _ HO.out 0 (cap - (n - 1))
    have HR2 := hid hr2
    clear hr2
    go_wp2_with (refine wpList_clear_runI _ rfl (.tmp 31) 46 rfl _ rfl HR2.out ?_)
    go_ret
    refine ⟨_, rfl, ho2, ⟨hgr2.os.trans hgr.os, hgr2.tape.trans hgr.tape, hgr2.output.trans hgr.output, Nat.le_trans hgr.size hgr2.size, fun x hx hn => (hgr2.block x (Nat.lt_of_lt_of_le hx hgr.size) hn).trans (hgr.block x hx hn)⟩, Or.inl rfl⟩

end Go.Proofs.Ytdhnacajgmjmlaa
