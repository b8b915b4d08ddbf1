/- The environment of the abstract machine: the functions and the types that the runs need, and that they are the program's. -/
import Derived.Test.YtdhnacajgmjmlaaProg
import Derived.Eval
import Derived.KernelRfl
import Derived.Test.YtdhnacajgmjmlaaEvY
import Derived.Test.YtdhnacajgmjmlaaKnown
namespace Go.Proofs.Ytdhnacajgmjmlaa.Ev
open Go.RowKit
set_option maxRecDepth 100000
noncomputable def u3 : { d // Try.prog.underlying 3 = some d } := ⟨_, Try.underlying3⟩
noncomputable def t3 : TI := ⟨u3.1, 1, 8, .int .i64 (.ofNat 0)⟩
theorem ok3 : TIOK Try.prog 3 t3 := tiok u3.2 (by kernel_rfl)
noncomputable def u4 : { d // Try.prog.underlying 4 = some d } := ⟨_, Try.underlying4⟩
noncomputable def t4 : TI := ⟨u4.1, 1, 1, .bool false⟩
theorem ok4 : TIOK Try.prog 4 t4 := tiok u4.2 (by kernel_rfl)
noncomputable def u9 : { d // Try.prog.underlying 9 = some d } := ⟨_, Try.underlying9⟩
noncomputable def t9 : TI := ⟨u9.1, 1, 16, .str ⟨#[]⟩⟩
theorem ok9 : TIOK Try.prog 9 t9 := tiok u9.2 (by kernel_rfl)
noncomputable def u26 : { d // Try.prog.underlying 26 = some d } := ⟨_, Try.underlying26⟩
noncomputable def t26 : TI := ⟨u26.1, 1, 8, .int .i64 (.ofNat 0)⟩
theorem ok26 : TIOK Try.prog 26 t26 := tiok u26.2 (by kernel_rfl)
noncomputable def u29 : { d // Try.prog.underlying 29 = some d } := ⟨_, Try.underlying29⟩
noncomputable def t29 : TI := ⟨u29.1, 1, 8, .int .u64 (.ofNat 0)⟩
theorem ok29 : TIOK Try.prog 29 t29 := tiok u29.2 (by kernel_rfl)
noncomputable def u45 : { d // Try.prog.underlying 45 = some d } := ⟨_, Try.underlying45⟩
noncomputable def t45 : TI := ⟨u45.1, 1, 8, .nilfunc⟩
theorem ok45 : TIOK Try.prog 45 t45 := tiok u45.2 (by kernel_rfl)
noncomputable def u46 : { d // Try.prog.underlying 46 = some d } := ⟨_, Try.underlying46⟩
noncomputable def t46 : TI := ⟨u46.1, 1, 24, .nilsl⟩
theorem ok46 : TIOK Try.prog 46 t46 := tiok u46.2 (by kernel_rfl)
noncomputable def u52 : { d // Try.prog.underlying 52 = some d } := ⟨_, Try.underlying52⟩
noncomputable def t52 : TI := ⟨u52.1, 2, 24, .agg [.int .u64 (.ofNat 0), .str ⟨#[]⟩]⟩
theorem ok52 : TIOK Try.prog 52 t52 := tiok u52.2 (by kernel_rfl)
noncomputable def u54 : { d // Try.prog.underlying 54 = some d } := ⟨_, Try.underlying54⟩
noncomputable def t54 : TI := ⟨u54.1, 3, 48, .agg [.int .i64 (.ofNat 0), .str ⟨#[]⟩, .nilsl]⟩
theorem ok54 : TIOK Try.prog 54 t54 := tiok u54.2 (by kernel_rfl)
noncomputable def u56 : { d // Try.prog.underlying 56 = some d } := ⟨_, Try.underlying56⟩
noncomputable def t56 : TI := ⟨u56.1, 1, 8, .int .i64 (.ofNat 0)⟩
theorem ok56 : TIOK Try.prog 56 t56 := tiok u56.2 (by kernel_rfl)
noncomputable def u58 : { d // Try.prog.underlying 58 = some d } := ⟨_, Try.underlying58⟩
noncomputable def t58 : TI := ⟨u58.1, 5, 48, .agg [.int .i64 (.ofNat 0), .int .u64 (.ofNat 0), .int .u64 (.ofNat 0), .int .i64 (.ofNat 0), .str ⟨#[]⟩]⟩
theorem ok58 : TIOK Try.prog 58 t58 := tiok u58.2 (by kernel_rfl)
noncomputable def u59 : { d // Try.prog.underlying 59 = some d } := ⟨_, Try.underlying59⟩
noncomputable def t59 : TI := ⟨u59.1, 1, 8, .nilptr⟩
theorem ok59 : TIOK Try.prog 59 t59 := tiok u59.2 (by kernel_rfl)
noncomputable def u92 : { d // Try.prog.underlying 92 = some d } := ⟨_, Try.underlying92⟩
noncomputable def t92 : TI := ⟨u92.1, 1, 8, .nilfunc⟩
theorem ok92 : TIOK Try.prog 92 t92 := tiok u92.2 (by kernel_rfl)
noncomputable def u100 : { d // Try.prog.underlying 100 = some d } := ⟨_, Try.underlying100⟩
noncomputable def t100 : TI := ⟨u100.1, 1, 24, .agg [.nilsl]⟩
theorem ok100 : TIOK Try.prog 100 t100 := tiok u100.2 (by kernel_rfl)
noncomputable def u131 : { d // Try.prog.underlying 131 = some d } := ⟨_, Try.underlying131⟩
noncomputable def t131 : TI := ⟨u131.1, 1, 8, .nilfunc⟩
theorem ok131 : TIOK Try.prog 131 t131 := tiok u131.2 (by kernel_rfl)
noncomputable def u132 : { d // Try.prog.underlying 132 = some d } := ⟨_, Try.underlying132⟩
noncomputable def t132 : TI := ⟨u132.1, 1, 8, .nilmap⟩
theorem ok132 : TIOK Try.prog 132 t132 := tiok u132.2 (by kernel_rfl)
noncomputable def u190 : { d // Try.prog.underlying 190 = some d } := ⟨_, Try.underlying190⟩
noncomputable def t190 : TI := ⟨u190.1, 1, 8, .int .u64 (.ofNat 0)⟩
theorem ok190 : TIOK Try.prog 190 t190 := tiok u190.2 (by kernel_rfl)
noncomputable def tyL : List (Nat × TI) := [(3, t3), (4, t4), (9, t9), (26, t26), (29, t29), (45, t45), (46, t46), (52, t52), (54, t54), (56, t56), (58, t58), (59, t59), (92, t92), (100, t100), (131, t131), (132, t132), (190, t190)]
noncomputable def tyT : Tr TI := .n none (.n none (.n (some t3) (.e) (.n none (.n none (.n none (.n none (.n (some t131) (.e) (.e)) (.e)) (.e)) (.e)) (.n none (.e) (.n (some t59) (.e) (.e))))) (.n none (.n (some t9) (.e) (.e)) (.n none (.e) (.n (some t29) (.n (some t45) (.e) (.e)) (.e))))) (.n none (.n (some t4) (.n none (.e) (.n none (.e) (.n (some t56) (.e) (.e)))) (.n none (.n none (.n none (.n none (.n (some t132) (.e) (.e)) (.e)) (.n (some t100) (.e) (.e))) (.n (some t52) (.e) (.e))) (.n none (.e) (.n none (.n (some t92) (.e) (.e)) (.e))))) (.n none (.n none (.e) (.n (some t26) (.e) (.n (some t58) (.e) (.e)))) (.n none (.n none (.e) (.n (some t54) (.e) (.e))) (.n none (.n (some t46) (.e) (.e)) (.n none (.e) (.n none (.n (some t190) (.e) (.e)) (.e)))))))
theorem tyT_eq : tyT = ofL tyL := by kernel_rfl
theorem tyL_ok : ∀ p ∈ tyL, TIOK Try.prog p.1 p.2 := allc ok3 (allc ok4 (allc ok9 (allc ok26 (allc ok29 (allc ok45 (allc ok46 (allc ok52 (allc ok54 (allc ok56 (allc ok58 (allc ok59 (allc ok92 (allc ok100 (allc ok131 (allc ok132 (allc ok190 (alln)))))))))))))))))
theorem fok11 : FNOK Try.prog 11 Try.f11 := ⟨Try.func11, by decide +kernel, by kernel_rfl, by kernel_rfl⟩
theorem fok24 : FNOK Try.prog 24 Try.f24 := ⟨Try.func24, by decide +kernel, by kernel_rfl, by kernel_rfl⟩
theorem fok27 : FNOK Try.prog 27 Try.f27 := ⟨Try.func27, by decide +kernel, by kernel_rfl, by kernel_rfl⟩
theorem fok28 : FNOK Try.prog 28 Try.f28 := ⟨Try.func28, by decide +kernel, by kernel_rfl, by kernel_rfl⟩
theorem fok29 : FNOK Try.prog 29 Try.f29 := ⟨Try.func29, by decide +kernel, by kernel_rfl, by kernel_rfl⟩
theorem fok30 : FNOK Try.prog 30 Try.f30 := ⟨Try.func30, by decide +kernel, by kernel_rfl, by kernel_rfl⟩
theorem fok38 : FNOK Try.prog 38 Try.f38 := ⟨Try.func38, by decide +kernel, by kernel_rfl, by kernel_rfl⟩
theorem fok40 : FNOK Try.prog 40 Try.f40 := ⟨Try.func40, by decide +kernel, by kernel_rfl, by kernel_rfl⟩
theorem fok41 : FNOK Try.prog 41 Try.f41 := ⟨Try.func41, by decide +kernel, by kernel_rfl, by kernel_rfl⟩
theorem fok42 : FNOK Try.prog 42 Try.f42 := ⟨Try.func42, by decide +kernel, by kernel_rfl, by kernel_rfl⟩
theorem fok44 : FNOK Try.prog 44 Try.f44 := ⟨Try.func44, by decide +kernel, by kernel_rfl, by kernel_rfl⟩
theorem fok60 : FNOK Try.prog 60 Try.f60 := ⟨Try.func60, by decide +kernel, by kernel_rfl, by kernel_rfl⟩
theorem fok61 : FNOK Try.prog 61 Try.f61 := ⟨Try.func61, by decide +kernel, by kernel_rfl, by kernel_rfl⟩
theorem fok62 : FNOK Try.prog 62 Try.f62 := ⟨Try.func62, by decide +kernel, by kernel_rfl, by kernel_rfl⟩
theorem fok68 : FNOK Try.prog 68 Try.f68 := ⟨Try.func68, by decide +kernel, by kernel_rfl, by kernel_rfl⟩
theorem fok69 : FNOK Try.prog 69 Try.f69 := ⟨Try.func69, by decide +kernel, by kernel_rfl, by kernel_rfl⟩
theorem fok92 : FNOK Try.prog 92 Try.f92 := ⟨Try.func92, by decide +kernel, by kernel_rfl, by kernel_rfl⟩
theorem fok21 : FNOK Try.prog 21 Try.f21 := ⟨Try.func21, by decide +kernel, by kernel_rfl, by kernel_rfl⟩
noncomputable def fnL : List (Nat × Func) := [(11, Try.f11), (24, Try.f24), (27, Try.f27), (28, Try.f28), (29, Try.f29), (30, Try.f30), (38, Try.f38), (40, Try.f40), (41, Try.f41), (42, Try.f42), (44, Try.f44), (60, Try.f60), (61, Try.f61), (62, Try.f62), (68, Try.f68), (69, Try.f69), (92, Try.f92), (21, Try.f21)]
noncomputable def fnT : Tr Func := .n none (.n none (.n none (.e) (.n (some Try.f11) (.e) (.n (some Try.f27) (.e) (.e)))) (.n none (.n none (.e) (.n none (.n (some Try.f41) (.e) (.e)) (.e))) (.n none (.n (some Try.f21) (.n none (.n (some Try.f69) (.e) (.e)) (.e)) (.e)) (.n (some Try.f29) (.e) (.n (some Try.f61) (.e) (.e)))))) (.n none (.n none (.n none (.e) (.n (some Try.f24) (.n (some Try.f40) (.e) (.e)) (.e))) (.n none (.n none (.n none (.n (some Try.f68) (.e) (.e)) (.e)) (.e)) (.n (some Try.f28) (.n (some Try.f44) (.e) (.e)) (.n (some Try.f60) (.n (some Try.f92) (.e) (.e)) (.e))))) (.n none (.n none (.e) (.n none (.n (some Try.f42) (.e) (.e)) (.e))) (.n none (.n none (.n (some Try.f38) (.e) (.e)) (.e)) (.n (some Try.f30) (.e) (.n (some Try.f62) (.e) (.e))))))
theorem fnT_eq : fnT = ofL fnL := by kernel_rfl
theorem fnL_ok : ∀ p ∈ fnL, FNOK Try.prog p.1 p.2 := allc fok11 (allc fok24 (allc fok27 (allc fok28 (allc fok29 (allc fok30 (allc fok38 (allc fok40 (allc fok41 (allc fok42 (allc fok44 (allc fok60 (allc fok61 (allc fok62 (allc fok68 (allc fok69 (allc fok92 (allc fok21 (alln))))))))))))))))))
noncomputable def mL : List (Nat × List (String × Nat × Option Nat)) := []
noncomputable def mT : Tr (List (String × Nat × Option Nat)) := .e
theorem mT_eq : mT = ofL mL := by kernel_rfl
theorem mL_ok : ∀ q ∈ mL, ∀ p ∈ q.2, MethOK Try.prog q.1 p := alln
noncomputable def iL : List (Nat × List (Nat × Bool)) := []
noncomputable def iT : Tr (List (Nat × Bool)) := .e
theorem iT_eq : iT = ofL iL := by kernel_rfl
theorem iL_ok : ∀ q ∈ iL, ∀ p ∈ q.2, ∃ want i, Try.prog.underlying q.1 = some (.interface want) ∧ Try.prog.info? p.1 = some i ∧ (Instr.missingMethod want i.methods).isNone = p.2 := alln
noncomputable def eL : List (Nat × Nat) := []
noncomputable def eT : Tr Nat := .e
theorem eT_eq : eT = ofL eL := by kernel_rfl
theorem eL_ok : ∀ q ∈ eL, q.2 = 1 ∧ EXTOK Try.prog q.1 := alln
theorem lok52 : PlainOK Try.prog 52 := plainok (Try.stoodInHeld52) Try.eqGuardType52 Try.underlying52 (by kernel_rfl)
theorem lok54 : PlainOK Try.prog 54 := plainok (Try.stoodInHeld54) Try.eqGuardType54 Try.underlying54 (by kernel_rfl)
theorem lok58 : PlainOK Try.prog 58 := plainok (Try.stoodInHeld58) Try.eqGuardType58 Try.underlying58 (by kernel_rfl)
theorem lok100 : PlainOK Try.prog 100 := plainok (Try.stoodInHeld100) Try.eqGuardType100 Try.underlying100 (by kernel_rfl)
noncomputable def pL : List (Nat × Unit) := [(52, ()), (54, ()), (58, ()), (100, ())]
noncomputable def pT : Tr Unit := .n none (.e) (.n none (.n none (.e) (.n none (.n none (.n none (.e) (.n (some ()) (.e) (.e))) (.n (some ()) (.e) (.e))) (.e))) (.n none (.n none (.e) (.n none (.e) (.n (some ()) (.e) (.e)))) (.n none (.n none (.e) (.n (some ()) (.e) (.e))) (.e))))
theorem pT_eq : pT = ofL pL := by kernel_rfl
theorem pL_ok : ∀ q ∈ pL, PlainOK Try.prog q.1 := allc (lok52) (allc (lok54) (allc (lok58) (allc (lok100) (alln))))
noncomputable def kL : List (Nat × Unit) := [(21, ())]
noncomputable def kT : Tr Unit := .n none (.n none (.e) (.n none (.e) (.n none (.n (some ()) (.e) (.e)) (.e)))) (.e)
theorem kT_eq : kT = ofL kL := by kernel_rfl
theorem kL_ok : ∀ q ∈ kL, ∀ w, Calls Try.prog q.1 #[] w fun e w' => e = .returned (.bool true) ∧ Below w.heap.size w w' := allc (known_z22) (alln)
noncomputable def env : Env := ⟨tyT, fnT, mT, iT, eT, pT, kT⟩
theorem env_ok : EnvOK Try.prog env ∧ FnsOK Try.prog env := envok tyT_eq tyL_ok fnT_eq fnL_ok (by kernel_rfl) mT_eq mL_ok iT_eq iL_ok eT_eq eL_ok pT_eq pL_ok kT_eq kL_ok
end Go.Proofs.Ytdhnacajgmjmlaa.Ev
