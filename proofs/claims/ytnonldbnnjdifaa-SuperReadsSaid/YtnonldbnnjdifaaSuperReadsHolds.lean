/- The statement SuperReads: for every input the call returns true; each argument reads behind the call as it read before. No condition. -/
import Derived.Test.YtnonldbnnjdifaaLawSup2
import Derived.Test.YtnonldbnnjdifaaOpens
import Derived.ProofKit
import Derived.OpenShut
import Derived.ChangeOld
import Derived.Below
import Derived.Lib.SmallJoins
namespace Go.Proofs.Ytnonldbnnjdifaa.superReads
open Go.ChangeShapes Go.WideShapes Go.ChangeAt Go.RowKit Go.Joins
set_option linter.unusedVariables false

theorem own : ownKnob Try.prog.godebug = none := by kernel_rfl
theorem laidOut : laidOutB Try.prog = true := by kernel_rfl

set_option maxRecDepth 100000 in
theorem lifted (os : Os) (started : os.Started) (H : Type) (enc : TypeId × Value → H) :
    ReturnsInHanded {} Try.checked os 13 .any (Rows.superReadsSpec.pre6 enc Try.prog Try.f13 Rows.superReadsRow.domain false) (Rows.superReadsSpec.post enc Try.prog Try.f13 false true false false) := by
  refine returnsInHanded_of_change (C := Try.checked) own started (by kernel_rfl) Try.func13
    (ChangeSpec.witness6 (enc := enc) (C := Try.checked) false ⟨#[], #[.agg #[.int .u64 0, .int .u64 0, .int .u64 0, .int .u64 0, .int .u64 0, .int .u64 0, .int .u64 0, .int .u64 0]], []⟩ 8 (by kernel_rfl) (by kernel_rfl) (by kernel_rfl) (by kernel_rfl)) ?_
  intro W base args ds gs before hval0 hW hcnd _
  have hval : ∀ (j : Nat) t v, Try.f13.params[j]? = some t → args[j]? = some v → Value.okWide Try.prog W .any base t v := hval0
  have hW' := hW
  obtain ⟨p, q, hA0, hV, rfl, hfz, hnd⟩ := hW
  have hA : DataW.TrodAll enc Try.prog W 0 (fun _ => true) true Try.f13.params.toList args.toList ds p := hA0
  rw [Try.params13] at hA hval
  obtain ⟨v0, vs0, d0, ds0, p0, q0, hargs, rfl, rfl, h0, r0⟩ := trodAll_cons hA
  obtain ⟨rfl, rfl, rfl⟩ := trodAll_nil r0
  obtain rfl : args = #[v0] := by cases args; simp_all
  obtain ⟨rfl, rfl⟩ := trodVars_none hV
  have k0 := h0
  have lt0 : ∀ x ∈ p0, x.block < W.heap.size := by obtain ⟨m, hm⟩ := k0; exact DataW.trod_lt m _ _ _ hm
  obtain ⟨a0_0, a0_1, a0_2, a0_3, a0_4, a0_5, a0_6, a0_7, rfl, w0_0, w0_1, w0_2, w0_3, w0_4, w0_5, w0_6, w0_7⟩ := open_arr8 Try.underlying49 Try.underlying27 (show Try.prog.cellsOf 27 = 1 by kernel_rfl) (show Try.prog.cellsOf 49 = 8 by kernel_rfl) (hval 0 49 v0 rfl rfl) h0
  obtain ⟨b0_0, c0_0⟩ := bounds_u64 w0_0
  obtain ⟨b0_1, c0_1⟩ := bounds_u64 w0_1
  obtain ⟨b0_2, c0_2⟩ := bounds_u64 w0_2
  obtain ⟨b0_3, c0_3⟩ := bounds_u64 w0_3
  obtain ⟨b0_4, c0_4⟩ := bounds_u64 w0_4
  obtain ⟨b0_5, c0_5⟩ := bounds_u64 w0_5
  obtain ⟨b0_6, c0_6⟩ := bounds_u64 w0_6
  obtain ⟨b0_7, c0_7⟩ := bounds_u64 w0_7
  clear hA0 hval0
  refine (SuperReads_walk a0_0 a0_1 a0_2 a0_3 a0_4 a0_5 a0_6 a0_7 W b0_0 c0_0 b0_1 c0_1 b0_2 c0_2 b0_3 c0_3 b0_4 c0_4 b0_5 c0_5 b0_6 c0_6 b0_7 c0_7).mono fun e W' ⟨he, bel⟩ => ?_
  subst he
  exact ⟨_, rfl, _, _, _, [], _, [], hW', trodAll_mk1 (shut_bool Try.underlying4 _), (trodAll_cons_mk (Below.trod laidOut (by kernel_rfl) (of_decide_eq_true (by kernel_rfl)) k0 bel lt0) trodAll_mk0), rfl, bel.frame _, fun h => by cases h⟩

theorem over : Rows.superReadsRow.holds Try.pinned (OpenSpec.ofChange Rows.superReadsSpec) :=
  OpenClaim.holds_of_wide 13 Try.f13 rfl rfl rfl rfl rfl rfl rfl ⟨rfl, rfl, rfl, rfl, rfl⟩ rfl rfl rfl rfl rfl (by kernel_rfl) Try.func13 (by kernel_rfl)
    (of_decide_eq_true (by kernel_rfl)) (by unfold Func.isWrapper; first | (rw [if_pos (by decide +kernel)]; kernel_rfl) | (rw [if_neg (by decide +kernel)]; exact ⟨rfl, rfl⟩))
    (fun os started H enc _ => lifted os started H enc)

theorem proved : Rows.SuperReadsSaid := over
#print axioms proved
end Go.Proofs.Ytnonldbnnjdifaa.superReads
