/- The environment of the abstract machine: the functions and the types that the runs need, and that they are the program's. -/
import Derived.Test.YtbkaemajjaiklaaProg
import Derived.Eval
import Derived.KernelRfl
import Derived.Test.YtbkaemajjaiklaaEvMb

namespace Go.Proofs.Ytbkaemajjaiklaa.Ev
open Go.RowKit
set_option maxRecDepth 100000
noncomputable def u101 : { d // Try.prog.underlying 101 = some d } := ⟨_, Try.underlying101⟩
noncomputable def t101 : TI := ⟨u101.1, 1, 8, .nilptr⟩
theorem ok101 : TIOK Try.prog 101 t101 := tiok u101.2 (by kernel_rfl)
noncomputable def u111 : { d // Try.prog.underlying 111 = some d } := ⟨_, Try.underlying111⟩
noncomputable def t111 : TI := ⟨u111.1, 1, 8, .nilfunc⟩
theorem ok111 : TIOK Try.prog 111 t111 := tiok u111.2 (by kernel_rfl)
noncomputable def u128 : { d // Try.prog.underlying 128 = some d } := ⟨_, Try.underlying128⟩
noncomputable def t128 : TI := ⟨u128.1, 1, 8, .nilmap⟩
theorem ok128 : TIOK Try.prog 128 t128 := tiok u128.2 (by kernel_rfl)
noncomputable def u129 : { d // Try.prog.underlying 129 = some d } := ⟨_, Try.underlying129⟩
noncomputable def t129 : TI := ⟨u129.1, 1, 24, .nilsl⟩
theorem ok129 : TIOK Try.prog 129 t129 := tiok u129.2 (by kernel_rfl)
noncomputable def u131 : { d // Try.prog.underlying 131 = some d } := ⟨_, Try.underlying131⟩
noncomputable def t131 : TI := ⟨u131.1, 4, 32, .agg [.int .u64 (.ofNat 0), .int .u64 (.ofNat 0), .int .u64 (.ofNat 0), .int .u64 (.ofNat 0)]⟩
theorem ok131 : TIOK Try.prog 131 t131 := tiok u131.2 (by kernel_rfl)
noncomputable def u133 : { d // Try.prog.underlying 133 = some d } := ⟨_, Try.underlying133⟩
noncomputable def t133 : TI := ⟨u133.1, 7, 88, .agg [.nilsl, .nilsl, .nilmap, .int .u64 (.ofNat 0), .int .u64 (.ofNat 0), .int .u64 (.ofNat 0), .int .u64 (.ofNat 0)]⟩
theorem ok133 : TIOK Try.prog 133 t133 := tiok u133.2 (by kernel_rfl)
noncomputable def u138 : { d // Try.prog.underlying 138 = some d } := ⟨_, Try.underlying138⟩
noncomputable def t138 : TI := ⟨u138.1, 1, 24, .nilsl⟩
theorem ok138 : TIOK Try.prog 138 t138 := tiok u138.2 (by kernel_rfl)
noncomputable def u140 : { d // Try.prog.underlying 140 = some d } := ⟨_, Try.underlying140⟩
noncomputable def t140 : TI := ⟨u140.1, 1, 24, .agg [.nilsl]⟩
theorem ok140 : TIOK Try.prog 140 t140 := tiok u140.2 (by kernel_rfl)
noncomputable def u142 : { d // Try.prog.underlying 142 = some d } := ⟨_, Try.underlying142⟩
noncomputable def t142 : TI := ⟨u142.1, 4, 32, .agg [.int .i64 (.ofNat 0), .int .i64 (.ofNat 0), .int .i64 (.ofNat 0), .int .i64 (.ofNat 0)]⟩
theorem ok142 : TIOK Try.prog 142 t142 := tiok u142.2 (by kernel_rfl)
noncomputable def u145 : { d // Try.prog.underlying 145 = some d } := ⟨_, Try.underlying145⟩
noncomputable def t145 : TI := ⟨u145.1, 1, 8, .nilptr⟩
theorem ok145 : TIOK Try.prog 145 t145 := tiok u145.2 (by kernel_rfl)
noncomputable def u162 : { d // Try.prog.underlying 162 = some d } := ⟨_, Try.underlying162⟩
noncomputable def t162 : TI := ⟨u162.1, 1, 8, .int .u64 (.ofNat 0)⟩
theorem ok162 : TIOK Try.prog 162 t162 := tiok u162.2 (by kernel_rfl)
noncomputable def u164 : { d // Try.prog.underlying 164 = some d } := ⟨_, Try.underlying164⟩
noncomputable def t164 : TI := ⟨u164.1, 1, 24, .nilsl⟩
theorem ok164 : TIOK Try.prog 164 t164 := tiok u164.2 (by kernel_rfl)
noncomputable def u165 : { d // Try.prog.underlying 165 = some d } := ⟨_, Try.underlying165⟩
noncomputable def t165 : TI := ⟨u165.1, 65, 520, .agg [.int .i64 (.ofNat 0), .int .i64 (.ofNat 0), .int .i64 (.ofNat 0), .int .i64 (.ofNat 0), .int .i64 (.ofNat 0), .int .i64 (.ofNat 0), .int .i64 (.ofNat 0), .int .i64 (.ofNat 0), .int .i64 (.ofNat 0), .int .i64 (.ofNat 0), .int .i64 (.ofNat 0), .int .i64 (.ofNat 0), .int .i64 (.ofNat 0), .int .i64 (.ofNat 0), .int .i64 (.ofNat 0), .int .i64 (.ofNat 0), .int .i64 (.ofNat 0), .int .i64 (.ofNat 0), .int .i64 (.ofNat 0), .int .i64 (.ofNat 0), .int .i64 (.ofNat 0), .int .i64 (.ofNat 0), .int .i64 (.ofNat 0), .int .i64 (.ofNat 0), .int .i64 (.ofNat 0), .int .i64 (.ofNat 0), .int .i64 (.ofNat 0), .int .i64 (.ofNat 0), .int .i64 (.ofNat 0), .int .i64 (.ofNat 0), .int .i64 (.ofNat 0), .int .i64 (.ofNat 0), .int .i64 (.ofNat 0), .int .i64 (.ofNat 0), .int .i64 (.ofNat 0), .int .i64 (.ofNat 0), .int .i64 (.ofNat 0), .int .i64 (.ofNat 0), .int .i64 (.ofNat 0), .int .i64 (.ofNat 0), .int .i64 (.ofNat 0), .int .i64 (.ofNat 0), .int .i64 (.ofNat 0), .int .i64 (.ofNat 0), .int .i64 (.ofNat 0), .int .i64 (.ofNat 0), .int .i64 (.ofNat 0), .int .i64 (.ofNat 0), .int .i64 (.ofNat 0), .int .i64 (.ofNat 0), .int .i64 (.ofNat 0), .int .i64 (.ofNat 0), .int .i64 (.ofNat 0), .int .i64 (.ofNat 0), .int .i64 (.ofNat 0), .int .i64 (.ofNat 0), .int .i64 (.ofNat 0), .int .i64 (.ofNat 0), .int .i64 (.ofNat 0), .int .i64 (.ofNat 0), .int .i64 (.ofNat 0), .int .i64 (.ofNat 0), .int .i64 (.ofNat 0), .int .i64 (.ofNat 0), .int .i64 (.ofNat 0)]⟩
theorem ok165 : TIOK Try.prog 165 t165 := tiok u165.2 (by kernel_rfl)
noncomputable def u167 : { d // Try.prog.underlying 167 = some d } := ⟨_, Try.underlying167⟩
noncomputable def t167 : TI := ⟨u167.1, 66, 544, .agg [.nilsl, .int .i64 (.ofNat 0), .int .i64 (.ofNat 0), .int .i64 (.ofNat 0), .int .i64 (.ofNat 0), .int .i64 (.ofNat 0), .int .i64 (.ofNat 0), .int .i64 (.ofNat 0), .int .i64 (.ofNat 0), .int .i64 (.ofNat 0), .int .i64 (.ofNat 0), .int .i64 (.ofNat 0), .int .i64 (.ofNat 0), .int .i64 (.ofNat 0), .int .i64 (.ofNat 0), .int .i64 (.ofNat 0), .int .i64 (.ofNat 0), .int .i64 (.ofNat 0), .int .i64 (.ofNat 0), .int .i64 (.ofNat 0), .int .i64 (.ofNat 0), .int .i64 (.ofNat 0), .int .i64 (.ofNat 0), .int .i64 (.ofNat 0), .int .i64 (.ofNat 0), .int .i64 (.ofNat 0), .int .i64 (.ofNat 0), .int .i64 (.ofNat 0), .int .i64 (.ofNat 0), .int .i64 (.ofNat 0), .int .i64 (.ofNat 0), .int .i64 (.ofNat 0), .int .i64 (.ofNat 0), .int .i64 (.ofNat 0), .int .i64 (.ofNat 0), .int .i64 (.ofNat 0), .int .i64 (.ofNat 0), .int .i64 (.ofNat 0), .int .i64 (.ofNat 0), .int .i64 (.ofNat 0), .int .i64 (.ofNat 0), .int .i64 (.ofNat 0), .int .i64 (.ofNat 0), .int .i64 (.ofNat 0), .int .i64 (.ofNat 0), .int .i64 (.ofNat 0), .int .i64 (.ofNat 0), .int .i64 (.ofNat 0), .int .i64 (.ofNat 0), .int .i64 (.ofNat 0), .int .i64 (.ofNat 0), .int .i64 (.ofNat 0), .int .i64 (.ofNat 0), .int .i64 (.ofNat 0), .int .i64 (.ofNat 0), .int .i64 (.ofNat 0), .int .i64 (.ofNat 0), .int .i64 (.ofNat 0), .int .i64 (.ofNat 0), .int .i64 (.ofNat 0), .int .i64 (.ofNat 0), .int .i64 (.ofNat 0), .int .i64 (.ofNat 0), .int .i64 (.ofNat 0), .int .i64 (.ofNat 0), .int .i64 (.ofNat 0)]⟩
theorem ok167 : TIOK Try.prog 167 t167 := tiok u167.2 (by kernel_rfl)
noncomputable def u170 : { d // Try.prog.underlying 170 = some d } := ⟨_, Try.underlying170⟩
noncomputable def t170 : TI := ⟨u170.1, 2, 16, .agg [.int .u64 (.ofNat 0), .int .u64 (.ofNat 0)]⟩
theorem ok170 : TIOK Try.prog 170 t170 := tiok u170.2 (by kernel_rfl)
noncomputable def u179 : { d // Try.prog.underlying 179 = some d } := ⟨_, Try.underlying179⟩
noncomputable def t179 : TI := ⟨u179.1, 1, 16, .niliface⟩
theorem ok179 : TIOK Try.prog 179 t179 := tiok u179.2 (by kernel_rfl)
noncomputable def u184 : { d // Try.prog.underlying 184 = some d } := ⟨_, Try.underlying184⟩
noncomputable def t184 : TI := ⟨u184.1, 9, 72, .agg [.nilptr, .nilptr, .int .i64 (.ofNat 0), .int .u64 (.ofNat 0), .int .i64 (.ofNat 0), .int .i64 (.ofNat 0), .nilfunc, .bool false, .int .i64 (.ofNat 0)]⟩
theorem ok184 : TIOK Try.prog 184 t184 := tiok u184.2 (by kernel_rfl)
noncomputable def u20 : { d // Try.prog.underlying 20 = some d } := ⟨_, Try.underlying20⟩
noncomputable def t20 : TI := ⟨u20.1, 1, 16, .niliface⟩
theorem ok20 : TIOK Try.prog 20 t20 := tiok u20.2 (by kernel_rfl)
noncomputable def u23 : { d // Try.prog.underlying 23 = some d } := ⟨_, Try.underlying23⟩
noncomputable def t23 : TI := ⟨u23.1, 1, 8, .nilptr⟩
theorem ok23 : TIOK Try.prog 23 t23 := tiok u23.2 (by kernel_rfl)
noncomputable def u24 : { d // Try.prog.underlying 24 = some d } := ⟨_, Try.underlying24⟩
noncomputable def t24 : TI := ⟨u24.1, 1, 8, .nilptr⟩
theorem ok24 : TIOK Try.prog 24 t24 := tiok u24.2 (by kernel_rfl)
noncomputable def u25 : { d // Try.prog.underlying 25 = some d } := ⟨_, Try.underlying25⟩
noncomputable def t25 : TI := ⟨u25.1, 1, 8, .int .i64 (.ofNat 0)⟩
theorem ok25 : TIOK Try.prog 25 t25 := tiok u25.2 (by kernel_rfl)
noncomputable def u3 : { d // Try.prog.underlying 3 = some d } := ⟨_, Try.underlying3⟩
noncomputable def t3 : TI := ⟨u3.1, 1, 8, .int .i64 (.ofNat 0)⟩
theorem ok3 : TIOK Try.prog 3 t3 := tiok u3.2 (by kernel_rfl)
noncomputable def u30 : { d // Try.prog.underlying 30 = some d } := ⟨_, Try.underlying30⟩
noncomputable def t30 : TI := ⟨u30.1, 1, 24, .nilsl⟩
theorem ok30 : TIOK Try.prog 30 t30 := tiok u30.2 (by kernel_rfl)
noncomputable def u4 : { d // Try.prog.underlying 4 = some d } := ⟨_, Try.underlying4⟩
noncomputable def t4 : TI := ⟨u4.1, 1, 1, .bool false⟩
theorem ok4 : TIOK Try.prog 4 t4 := tiok u4.2 (by kernel_rfl)
noncomputable def u45 : { d // Try.prog.underlying 45 = some d } := ⟨_, Try.underlying45⟩
noncomputable def t45 : TI := ⟨u45.1, 1, 24, .nilsl⟩
theorem ok45 : TIOK Try.prog 45 t45 := tiok u45.2 (by kernel_rfl)
noncomputable def u46 : { d // Try.prog.underlying 46 = some d } := ⟨_, Try.underlying46⟩
noncomputable def t46 : TI := ⟨u46.1, 1, 8, .int .u64 (.ofNat 0)⟩
theorem ok46 : TIOK Try.prog 46 t46 := tiok u46.2 (by kernel_rfl)
noncomputable def u47 : { d // Try.prog.underlying 47 = some d } := ⟨_, Try.underlying47⟩
noncomputable def t47 : TI := ⟨u47.1, 1, 8, .int .u64 (.ofNat 0)⟩
theorem ok47 : TIOK Try.prog 47 t47 := tiok u47.2 (by kernel_rfl)
noncomputable def u5 : { d // Try.prog.underlying 5 = some d } := ⟨_, Try.underlying5⟩
noncomputable def t5 : TI := ⟨u5.1, 1, 1, .int .u8 (.ofNat 0)⟩
theorem ok5 : TIOK Try.prog 5 t5 := tiok u5.2 (by kernel_rfl)
noncomputable def u66 : { d // Try.prog.underlying 66 = some d } := ⟨_, Try.underlying66⟩
noncomputable def t66 : TI := ⟨u66.1, 1, 8, .nilfunc⟩
theorem ok66 : TIOK Try.prog 66 t66 := tiok u66.2 (by kernel_rfl)
noncomputable def u71 : { d // Try.prog.underlying 71 = some d } := ⟨_, Try.underlying71⟩
noncomputable def t71 : TI := ⟨u71.1, 1, 24, .nilsl⟩
theorem ok71 : TIOK Try.prog 71 t71 := tiok u71.2 (by kernel_rfl)
noncomputable def u72 : { d // Try.prog.underlying 72 = some d } := ⟨_, Try.underlying72⟩
noncomputable def t72 : TI := ⟨u72.1, 1, 8, .nilmap⟩
theorem ok72 : TIOK Try.prog 72 t72 := tiok u72.2 (by kernel_rfl)
noncomputable def u73 : { d // Try.prog.underlying 73 = some d } := ⟨_, Try.underlying73⟩
noncomputable def t73 : TI := ⟨u73.1, 1, 8, .nilptr⟩
theorem ok73 : TIOK Try.prog 73 t73 := tiok u73.2 (by kernel_rfl)
noncomputable def u74 : { d // Try.prog.underlying 74 = some d } := ⟨_, Try.underlying74⟩
noncomputable def t74 : TI := ⟨u74.1, 4, 32, .agg [.nilptr, .nilptr, .nilptr, .nilptr]⟩
theorem ok74 : TIOK Try.prog 74 t74 := tiok u74.2 (by kernel_rfl)
noncomputable def u76 : { d // Try.prog.underlying 76 = some d } := ⟨_, Try.underlying76⟩
noncomputable def t76 : TI := ⟨u76.1, 7, 72, .agg [.int .i64 (.ofNat 0), .nilsl, .nilptr, .nilptr, .nilptr, .nilptr, .nilmap]⟩
theorem ok76 : TIOK Try.prog 76 t76 := tiok u76.2 (by kernel_rfl)
noncomputable def u82 : { d // Try.prog.underlying 82 = some d } := ⟨_, Try.underlying82⟩
noncomputable def t82 : TI := ⟨u82.1, 2, 16, .agg [.int .i64 (.ofNat 0), .int .u64 (.ofNat 0)]⟩
theorem ok82 : TIOK Try.prog 82 t82 := tiok u82.2 (by kernel_rfl)
noncomputable def u88 : { d // Try.prog.underlying 88 = some d } := ⟨_, Try.underlying88⟩
noncomputable def t88 : TI := ⟨u88.1, 1, 8, .nilfunc⟩
theorem ok88 : TIOK Try.prog 88 t88 := tiok u88.2 (by kernel_rfl)
noncomputable def u9 : { d // Try.prog.underlying 9 = some d } := ⟨_, Try.underlying9⟩
noncomputable def t9 : TI := ⟨u9.1, 1, 16, .str ⟨#[]⟩⟩
theorem ok9 : TIOK Try.prog 9 t9 := tiok u9.2 (by kernel_rfl)
noncomputable def tyL : List (Nat × TI) := [(101, t101), (111, t111), (128, t128), (129, t129), (131, t131), (133, t133), (138, t138), (140, t140), (142, t142), (145, t145), (162, t162), (164, t164), (165, t165), (167, t167), (170, t170), (179, t179), (184, t184), (20, t20), (23, t23), (24, t24), (25, t25), (3, t3), (30, t30), (4, t4), (45, t45), (46, t46), (47, t47), (5, t5), (66, t66), (71, t71), (72, t72), (73, t73), (74, t74), (76, t76), (82, t82), (88, t88), (9, t9)]
noncomputable def tyT : Tr TI := .n none (.n none (.n (some t3) (.n none (.n none (.e) (.n (some t47) (.e) (.n (some t111) (.e) (.e)))) (.n (some t23) (.n none (.n (some t71) (.e) (.e)) (.n none (.n (some t167) (.e) (.e)) (.e))) (.e))) (.n none (.n none (.n none (.n none (.n (some t131) (.e) (.e)) (.e)) (.e)) (.n none (.e) (.n none (.n (some t179) (.e) (.e)) (.e)))) (.e))) (.n (some t5) (.n (some t9) (.n none (.n none (.n none (.n (some t129) (.e) (.e)) (.e)) (.e)) (.n none (.n none (.n (some t145) (.e) (.e)) (.e)) (.e))) (.n (some t25) (.n none (.n (some t73) (.e) (.e)) (.e)) (.e))) (.n none (.n none (.n none (.n none (.n (some t133) (.e) (.e)) (.e)) (.n (some t101) (.n (some t165) (.e) (.e)) (.e))) (.e)) (.n none (.n (some t45) (.e) (.e)) (.e))))) (.n none (.n (some t4) (.n none (.n none (.n none (.n none (.n (some t128) (.e) (.e)) (.e)) (.e)) (.e)) (.n (some t24) (.n none (.n (some t72) (.e) (.e)) (.e)) (.n none (.n (some t88) (.e) (.e)) (.n none (.n (some t184) (.e) (.e)) (.e))))) (.n none (.n (some t20) (.n none (.e) (.n none (.n (some t164) (.e) (.e)) (.e))) (.e)) (.n none (.n none (.n (some t76) (.n (some t140) (.e) (.e)) (.e)) (.e)) (.e)))) (.n none (.n none (.n none (.n none (.n (some t66) (.e) (.e)) (.n none (.n (some t162) (.e) (.e)) (.e))) (.n none (.n (some t82) (.e) (.e)) (.e))) (.n none (.n none (.n (some t74) (.n (some t138) (.e) (.e)) (.e)) (.n none (.n (some t170) (.e) (.e)) (.e))) (.e))) (.n none (.e) (.n (some t30) (.n (some t46) (.n none (.n (some t142) (.e) (.e)) (.e)) (.e)) (.e)))))
theorem tyT_eq : tyT = ofL tyL := by kernel_rfl
theorem tyL_ok : ∀ p ∈ tyL, TIOK Try.prog p.1 p.2 := allc ok101 (allc ok111 (allc ok128 (allc ok129 (allc ok131 (allc ok133 (allc ok138 (allc ok140 (allc ok142 (allc ok145 (allc ok162 (allc ok164 (allc ok165 (allc ok167 (allc ok170 (allc ok179 (allc ok184 (allc ok20 (allc ok23 (allc ok24 (allc ok25 (allc ok3 (allc ok30 (allc ok4 (allc ok45 (allc ok46 (allc ok47 (allc ok5 (allc ok66 (allc ok71 (allc ok72 (allc ok73 (allc ok74 (allc ok76 (allc ok82 (allc ok88 (allc ok9 (alln)))))))))))))))))))))))))))))))))))))
theorem fok100 : FNOK Try.prog 100 Try.f100 := ⟨Try.func100, by decide +kernel, by kernel_rfl, by kernel_rfl⟩
theorem fok101 : FNOK Try.prog 101 Try.f101 := ⟨Try.func101, by decide +kernel, by kernel_rfl, by kernel_rfl⟩
theorem fok102 : FNOK Try.prog 102 Try.f102 := ⟨Try.func102, by decide +kernel, by kernel_rfl, by kernel_rfl⟩
theorem fok103 : FNOK Try.prog 103 Try.f103 := ⟨Try.func103, by decide +kernel, by kernel_rfl, by kernel_rfl⟩
theorem fok104 : FNOK Try.prog 104 Try.f104 := ⟨Try.func104, by decide +kernel, by kernel_rfl, by kernel_rfl⟩
theorem fok105 : FNOK Try.prog 105 Try.f105 := ⟨Try.func105, by decide +kernel, by kernel_rfl, by kernel_rfl⟩
theorem fok106 : FNOK Try.prog 106 Try.f106 := ⟨Try.func106, by decide +kernel, by kernel_rfl, by kernel_rfl⟩
theorem fok107 : FNOK Try.prog 107 Try.f107 := ⟨Try.func107, by decide +kernel, by kernel_rfl, by kernel_rfl⟩
theorem fok111 : FNOK Try.prog 111 Try.f111 := ⟨Try.func111, by decide +kernel, by kernel_rfl, by kernel_rfl⟩
theorem fok112 : FNOK Try.prog 112 Try.f112 := ⟨Try.func112, by decide +kernel, by kernel_rfl, by kernel_rfl⟩
theorem fok113 : FNOK Try.prog 113 Try.f113 := ⟨Try.func113, by decide +kernel, by kernel_rfl, by kernel_rfl⟩
theorem fok114 : FNOK Try.prog 114 Try.f114 := ⟨Try.func114, by decide +kernel, by kernel_rfl, by kernel_rfl⟩
theorem fok127 : FNOK Try.prog 127 Try.f127 := ⟨Try.func127, by decide +kernel, by kernel_rfl, by kernel_rfl⟩
theorem fok128 : FNOK Try.prog 128 Try.f128 := ⟨Try.func128, by decide +kernel, by kernel_rfl, by kernel_rfl⟩
theorem fok135 : FNOK Try.prog 135 Try.f135 := ⟨Try.func135, by decide +kernel, by kernel_rfl, by kernel_rfl⟩
theorem fok136 : FNOK Try.prog 136 Try.f136 := ⟨Try.func136, by decide +kernel, by kernel_rfl, by kernel_rfl⟩
theorem fok138 : FNOK Try.prog 138 Try.f138 := ⟨Try.func138, by decide +kernel, by kernel_rfl, by kernel_rfl⟩
theorem fok140 : FNOK Try.prog 140 Try.f140 := ⟨Try.func140, by decide +kernel, by kernel_rfl, by kernel_rfl⟩
theorem fok160 : FNOK Try.prog 160 Try.f160 := ⟨Try.func160, by decide +kernel, by kernel_rfl, by kernel_rfl⟩
theorem fok161 : FNOK Try.prog 161 Try.f161 := ⟨Try.func161, by decide +kernel, by kernel_rfl, by kernel_rfl⟩
theorem fok162 : FNOK Try.prog 162 Try.f162 := ⟨Try.func162, by decide +kernel, by kernel_rfl, by kernel_rfl⟩
theorem fok163 : FNOK Try.prog 163 Try.f163 := ⟨Try.func163, by decide +kernel, by kernel_rfl, by kernel_rfl⟩
theorem fok17 : FNOK Try.prog 17 Try.f17 := ⟨Try.func17, by decide +kernel, by kernel_rfl, by kernel_rfl⟩
theorem fok20 : FNOK Try.prog 20 Try.f20 := ⟨Try.func20, by decide +kernel, by kernel_rfl, by kernel_rfl⟩
theorem fok21 : FNOK Try.prog 21 Try.f21 := ⟨Try.func21, by decide +kernel, by kernel_rfl, by kernel_rfl⟩
theorem fok29 : FNOK Try.prog 29 Try.f29 := ⟨Try.func29, by decide +kernel, by kernel_rfl, by kernel_rfl⟩
theorem fok30 : FNOK Try.prog 30 Try.f30 := ⟨Try.func30, by decide +kernel, by kernel_rfl, by kernel_rfl⟩
theorem fok31 : FNOK Try.prog 31 Try.f31 := ⟨Try.func31, by decide +kernel, by kernel_rfl, by kernel_rfl⟩
theorem fok32 : FNOK Try.prog 32 Try.f32 := ⟨Try.func32, by decide +kernel, by kernel_rfl, by kernel_rfl⟩
theorem fok33 : FNOK Try.prog 33 Try.f33 := ⟨Try.func33, by decide +kernel, by kernel_rfl, by kernel_rfl⟩
theorem fok34 : FNOK Try.prog 34 Try.f34 := ⟨Try.func34, by decide +kernel, by kernel_rfl, by kernel_rfl⟩
theorem fok35 : FNOK Try.prog 35 Try.f35 := ⟨Try.func35, by decide +kernel, by kernel_rfl, by kernel_rfl⟩
theorem fok36 : FNOK Try.prog 36 Try.f36 := ⟨Try.func36, by decide +kernel, by kernel_rfl, by kernel_rfl⟩
theorem fok37 : FNOK Try.prog 37 Try.f37 := ⟨Try.func37, by decide +kernel, by kernel_rfl, by kernel_rfl⟩
theorem fok38 : FNOK Try.prog 38 Try.f38 := ⟨Try.func38, by decide +kernel, by kernel_rfl, by kernel_rfl⟩
theorem fok39 : FNOK Try.prog 39 Try.f39 := ⟨Try.func39, by decide +kernel, by kernel_rfl, by kernel_rfl⟩
theorem fok40 : FNOK Try.prog 40 Try.f40 := ⟨Try.func40, by decide +kernel, by kernel_rfl, by kernel_rfl⟩
theorem fok42 : FNOK Try.prog 42 Try.f42 := ⟨Try.func42, by decide +kernel, by kernel_rfl, by kernel_rfl⟩
theorem fok49 : FNOK Try.prog 49 Try.f49 := ⟨Try.func49, by decide +kernel, by kernel_rfl, by kernel_rfl⟩
theorem fok50 : FNOK Try.prog 50 Try.f50 := ⟨Try.func50, by decide +kernel, by kernel_rfl, by kernel_rfl⟩
theorem fok51 : FNOK Try.prog 51 Try.f51 := ⟨Try.func51, by decide +kernel, by kernel_rfl, by kernel_rfl⟩
theorem fok53 : FNOK Try.prog 53 Try.f53 := ⟨Try.func53, by decide +kernel, by kernel_rfl, by kernel_rfl⟩
theorem fok54 : FNOK Try.prog 54 Try.f54 := ⟨Try.func54, by decide +kernel, by kernel_rfl, by kernel_rfl⟩
theorem fok55 : FNOK Try.prog 55 Try.f55 := ⟨Try.func55, by decide +kernel, by kernel_rfl, by kernel_rfl⟩
theorem fok56 : FNOK Try.prog 56 Try.f56 := ⟨Try.func56, by decide +kernel, by kernel_rfl, by kernel_rfl⟩
theorem fok57 : FNOK Try.prog 57 Try.f57 := ⟨Try.func57, by decide +kernel, by kernel_rfl, by kernel_rfl⟩
theorem fok65 : FNOK Try.prog 65 Try.f65 := ⟨Try.func65, by decide +kernel, by kernel_rfl, by kernel_rfl⟩
theorem fok66 : FNOK Try.prog 66 Try.f66 := ⟨Try.func66, by decide +kernel, by kernel_rfl, by kernel_rfl⟩
theorem fok67 : FNOK Try.prog 67 Try.f67 := ⟨Try.func67, by decide +kernel, by kernel_rfl, by kernel_rfl⟩
theorem fok68 : FNOK Try.prog 68 Try.f68 := ⟨Try.func68, by decide +kernel, by kernel_rfl, by kernel_rfl⟩
theorem fok69 : FNOK Try.prog 69 Try.f69 := ⟨Try.func69, by decide +kernel, by kernel_rfl, by kernel_rfl⟩
theorem fok7 : FNOK Try.prog 7 Try.f7 := ⟨Try.func7, by decide +kernel, by kernel_rfl, by kernel_rfl⟩
theorem fok70 : FNOK Try.prog 70 Try.f70 := ⟨Try.func70, by decide +kernel, by kernel_rfl, by kernel_rfl⟩
theorem fok71 : FNOK Try.prog 71 Try.f71 := ⟨Try.func71, by decide +kernel, by kernel_rfl, by kernel_rfl⟩
theorem fok72 : FNOK Try.prog 72 Try.f72 := ⟨Try.func72, by decide +kernel, by kernel_rfl, by kernel_rfl⟩
theorem fok73 : FNOK Try.prog 73 Try.f73 := ⟨Try.func73, by decide +kernel, by kernel_rfl, by kernel_rfl⟩
theorem fok74 : FNOK Try.prog 74 Try.f74 := ⟨Try.func74, by decide +kernel, by kernel_rfl, by kernel_rfl⟩
theorem fok75 : FNOK Try.prog 75 Try.f75 := ⟨Try.func75, by decide +kernel, by kernel_rfl, by kernel_rfl⟩
theorem fok76 : FNOK Try.prog 76 Try.f76 := ⟨Try.func76, by decide +kernel, by kernel_rfl, by kernel_rfl⟩
theorem fok78 : FNOK Try.prog 78 Try.f78 := ⟨Try.func78, by decide +kernel, by kernel_rfl, by kernel_rfl⟩
theorem fok8 : FNOK Try.prog 8 Try.f8 := ⟨Try.func8, by decide +kernel, by kernel_rfl, by kernel_rfl⟩
theorem fok84 : FNOK Try.prog 84 Try.f84 := ⟨Try.func84, by decide +kernel, by kernel_rfl, by kernel_rfl⟩
theorem fok85 : FNOK Try.prog 85 Try.f85 := ⟨Try.func85, by decide +kernel, by kernel_rfl, by kernel_rfl⟩
theorem fok86 : FNOK Try.prog 86 Try.f86 := ⟨Try.func86, by decide +kernel, by kernel_rfl, by kernel_rfl⟩
theorem fok87 : FNOK Try.prog 87 Try.f87 := ⟨Try.func87, by decide +kernel, by kernel_rfl, by kernel_rfl⟩
theorem fok88 : FNOK Try.prog 88 Try.f88 := ⟨Try.func88, by decide +kernel, by kernel_rfl, by kernel_rfl⟩
theorem fok94 : FNOK Try.prog 94 Try.f94 := ⟨Try.func94, by decide +kernel, by kernel_rfl, by kernel_rfl⟩
theorem fok95 : FNOK Try.prog 95 Try.f95 := ⟨Try.func95, by decide +kernel, by kernel_rfl, by kernel_rfl⟩
theorem fok96 : FNOK Try.prog 96 Try.f96 := ⟨Try.func96, by decide +kernel, by kernel_rfl, by kernel_rfl⟩
theorem fok97 : FNOK Try.prog 97 Try.f97 := ⟨Try.func97, by decide +kernel, by kernel_rfl, by kernel_rfl⟩
theorem fok98 : FNOK Try.prog 98 Try.f98 := ⟨Try.func98, by decide +kernel, by kernel_rfl, by kernel_rfl⟩
theorem fok99 : FNOK Try.prog 99 Try.f99 := ⟨Try.func99, by decide +kernel, by kernel_rfl, by kernel_rfl⟩
noncomputable def fnL : List (Nat × Func) := [(100, Try.f100), (101, Try.f101), (102, Try.f102), (103, Try.f103), (104, Try.f104), (105, Try.f105), (106, Try.f106), (107, Try.f107), (111, Try.f111), (112, Try.f112), (113, Try.f113), (114, Try.f114), (127, Try.f127), (128, Try.f128), (135, Try.f135), (136, Try.f136), (138, Try.f138), (140, Try.f140), (160, Try.f160), (161, Try.f161), (162, Try.f162), (163, Try.f163), (17, Try.f17), (20, Try.f20), (21, Try.f21), (29, Try.f29), (30, Try.f30), (31, Try.f31), (32, Try.f32), (33, Try.f33), (34, Try.f34), (35, Try.f35), (36, Try.f36), (37, Try.f37), (38, Try.f38), (39, Try.f39), (40, Try.f40), (42, Try.f42), (49, Try.f49), (50, Try.f50), (51, Try.f51), (53, Try.f53), (54, Try.f54), (55, Try.f55), (56, Try.f56), (57, Try.f57), (65, Try.f65), (66, Try.f66), (67, Try.f67), (68, Try.f68), (69, Try.f69), (7, Try.f7), (70, Try.f70), (71, Try.f71), (72, Try.f72), (73, Try.f73), (74, Try.f74), (75, Try.f75), (76, Try.f76), (78, Try.f78), (8, Try.f8), (84, Try.f84), (85, Try.f85), (86, Try.f86), (87, Try.f87), (88, Try.f88), (94, Try.f94), (95, Try.f95), (96, Try.f96), (97, Try.f97), (98, Try.f98), (99, Try.f99)]
noncomputable def fnT : Tr Func := .n none (.n none (.n none (.n (some Try.f7) (.n none (.n (some Try.f31) (.n none (.n (some Try.f127) (.e) (.e)) (.e)) (.n (some Try.f95) (.e) (.e))) (.n none (.e) (.n (some Try.f111) (.e) (.e)))) (.n none (.n (some Try.f39) (.n (some Try.f71) (.n (some Try.f135) (.e) (.e)) (.e)) (.n (some Try.f103) (.e) (.e))) (.n (some Try.f55) (.n (some Try.f87) (.e) (.e)) (.e)))) (.n none (.n none (.n (some Try.f35) (.n (some Try.f67) (.e) (.e)) (.n (some Try.f99) (.n (some Try.f163) (.e) (.e)) (.e))) (.n (some Try.f51) (.e) (.e))) (.n none (.n none (.n (some Try.f75) (.e) (.e)) (.n (some Try.f107) (.e) (.e))) (.e)))) (.n none (.n none (.n (some Try.f17) (.n (some Try.f33) (.n (some Try.f65) (.e) (.e)) (.n (some Try.f97) (.n (some Try.f161) (.e) (.e)) (.e))) (.n (some Try.f49) (.e) (.n (some Try.f113) (.e) (.e)))) (.n none (.n none (.n (some Try.f73) (.e) (.e)) (.n (some Try.f105) (.e) (.e))) (.n (some Try.f57) (.e) (.e)))) (.n none (.n (some Try.f21) (.n (some Try.f37) (.n (some Try.f69) (.e) (.e)) (.n (some Try.f101) (.e) (.e))) (.n (some Try.f53) (.n (some Try.f85) (.e) (.e)) (.e))) (.n (some Try.f29) (.e) (.e))))) (.n none (.n none (.n (some Try.f8) (.n none (.n (some Try.f32) (.n none (.n (some Try.f128) (.e) (.e)) (.e)) (.n (some Try.f96) (.n (some Try.f160) (.e) (.e)) (.e))) (.n none (.e) (.n (some Try.f112) (.e) (.e)))) (.n none (.n (some Try.f40) (.n (some Try.f72) (.n (some Try.f136) (.e) (.e)) (.e)) (.n (some Try.f104) (.e) (.e))) (.n (some Try.f56) (.n (some Try.f88) (.e) (.e)) (.e)))) (.n none (.n (some Try.f20) (.n (some Try.f36) (.n (some Try.f68) (.e) (.e)) (.n (some Try.f100) (.e) (.e))) (.n none (.n (some Try.f84) (.e) (.e)) (.e))) (.n none (.n none (.n (some Try.f76) (.n (some Try.f140) (.e) (.e)) (.e)) (.e)) (.e)))) (.n none (.n none (.n none (.n (some Try.f34) (.n (some Try.f66) (.e) (.e)) (.n (some Try.f98) (.n (some Try.f162) (.e) (.e)) (.e))) (.n (some Try.f50) (.e) (.n (some Try.f114) (.e) (.e)))) (.n none (.n (some Try.f42) (.n (some Try.f74) (.n (some Try.f138) (.e) (.e)) (.e)) (.n (some Try.f106) (.e) (.e))) (.e))) (.n none (.n none (.n (some Try.f38) (.n (some Try.f70) (.e) (.e)) (.n (some Try.f102) (.e) (.e))) (.n (some Try.f54) (.n (some Try.f86) (.e) (.e)) (.e))) (.n (some Try.f30) (.n none (.n (some Try.f78) (.e) (.e)) (.e)) (.n none (.n (some Try.f94) (.e) (.e)) (.e))))))
theorem fnT_eq : fnT = ofL fnL := by kernel_rfl
theorem fnL_ok : ∀ p ∈ fnL, FNOK Try.prog p.1 p.2 := allc fok100 (allc fok101 (allc fok102 (allc fok103 (allc fok104 (allc fok105 (allc fok106 (allc fok107 (allc fok111 (allc fok112 (allc fok113 (allc fok114 (allc fok127 (allc fok128 (allc fok135 (allc fok136 (allc fok138 (allc fok140 (allc fok160 (allc fok161 (allc fok162 (allc fok163 (allc fok17 (allc fok20 (allc fok21 (allc fok29 (allc fok30 (allc fok31 (allc fok32 (allc fok33 (allc fok34 (allc fok35 (allc fok36 (allc fok37 (allc fok38 (allc fok39 (allc fok40 (allc fok42 (allc fok49 (allc fok50 (allc fok51 (allc fok53 (allc fok54 (allc fok55 (allc fok56 (allc fok57 (allc fok65 (allc fok66 (allc fok67 (allc fok68 (allc fok69 (allc fok7 (allc fok70 (allc fok71 (allc fok72 (allc fok73 (allc fok74 (allc fok75 (allc fok76 (allc fok78 (allc fok8 (allc fok84 (allc fok85 (allc fok86 (allc fok87 (allc fok88 (allc fok94 (allc fok95 (allc fok96 (allc fok97 (allc fok98 (allc fok99 (alln))))))))))))))))))))))))))))))))))))))))))))))))))))))))))))))))))))))))
theorem mok145_0 : MethOK Try.prog 145 ("Len", 87, (some 138)) := methok (ptr := false) (by kernel_rfl) (by kernel_rfl)
theorem mok145_1 : MethOK Try.prog 145 ("Less", 160, (some 138)) := methok (ptr := false) (by kernel_rfl) (by kernel_rfl)
theorem mok145_2 : MethOK Try.prog 145 ("Pop", 162, none) := methok (ptr := true) (by kernel_rfl) (by kernel_rfl)
theorem mok145_3 : MethOK Try.prog 145 ("Push", 163, none) := methok (ptr := true) (by kernel_rfl) (by kernel_rfl)
theorem mok145_4 : MethOK Try.prog 145 ("Swap", 161, (some 138)) := methok (ptr := false) (by kernel_rfl) (by kernel_rfl)
noncomputable def mL : List (Nat × List (String × Nat × Option Nat)) := [(145, [("Len", 87, (some 138)), ("Less", 160, (some 138)), ("Pop", 162, none), ("Push", 163, none), ("Swap", 161, (some 138))])]
noncomputable def mT : Tr (List (String × Nat × Option Nat)) := .n none (.n none (.e) (.n none (.n none (.n none (.e) (.n none (.n none (.n (some [("Len", 87, (some 138)), ("Less", 160, (some 138)), ("Pop", 162, none), ("Push", 163, none), ("Swap", 161, (some 138))]) (.e) (.e)) (.e)) (.e))) (.e)) (.e))) (.e)
theorem mT_eq : mT = ofL mL := by kernel_rfl
theorem mL_ok : ∀ q ∈ mL, ∀ p ∈ q.2, MethOK Try.prog q.1 p := allc (allc (mok145_0) (allc (mok145_1) (allc (mok145_2) (allc (mok145_3) (allc (mok145_4) (alln)))))) (alln)
noncomputable def iL : List (Nat × List (Nat × Bool)) := []
noncomputable def iT : Tr (List (Nat × Bool)) := .e
theorem iT_eq : iT = ofL iL := by kernel_rfl
theorem iL_ok : ∀ q ∈ iL, ∀ p ∈ q.2, ∃ want i, Try.prog.underlying q.1 = some (.interface want) ∧ Try.prog.info? p.1 = some i ∧ (Instr.missingMethod want i.methods).isNone = p.2 := alln
theorem xok89 : (1 : Nat) = 1 ∧ EXTOK Try.prog 89 := ⟨rfl, ⟨Try.f89, Try.func89, by decide +kernel, by kernel_rfl, by kernel_rfl, by kernel_rfl⟩⟩
noncomputable def eL : List (Nat × Nat) := [(89, 1)]
noncomputable def eT : Tr Nat := .n none (.n none (.e) (.n none (.n none (.e) (.n none (.e) (.n none (.n (some 1) (.e) (.e)) (.e)))) (.e))) (.e)
theorem eT_eq : eT = ofL eL := by kernel_rfl
theorem eL_ok : ∀ q ∈ eL, q.2 = 1 ∧ EXTOK Try.prog q.1 := allc (xok89) (alln)
theorem lok131 : PlainOK Try.prog 131 := plainok (Try.stoodInHeld131) Try.eqGuardType131 Try.underlying131 (by kernel_rfl)
theorem lok133 : PlainOK Try.prog 133 := plainok (Try.stoodInHeld133) Try.eqGuardType133 Try.underlying133 (by kernel_rfl)
theorem lok140 : PlainOK Try.prog 140 := plainok (Try.stoodInHeld140) Try.eqGuardType140 Try.underlying140 (by kernel_rfl)
theorem lok142 : PlainOK Try.prog 142 := plainok (by kernel_rfl) Try.eqGuardType142 Try.underlying142 (by kernel_rfl)
theorem lok165 : PlainOK Try.prog 165 := plainok (by kernel_rfl) Try.eqGuardType165 Try.underlying165 (by kernel_rfl)
theorem lok167 : PlainOK Try.prog 167 := plainok (Try.stoodInHeld167) Try.eqGuardType167 Try.underlying167 (by kernel_rfl)
theorem lok170 : PlainOK Try.prog 170 := plainok (Try.stoodInHeld170) Try.eqGuardType170 Try.underlying170 (by kernel_rfl)
theorem lok184 : PlainOK Try.prog 184 := plainok (Try.stoodInHeld184) Try.eqGuardType184 Try.underlying184 (by kernel_rfl)
theorem lok74 : PlainOK Try.prog 74 := plainok (by kernel_rfl) Try.eqGuardType74 Try.underlying74 (by kernel_rfl)
theorem lok76 : PlainOK Try.prog 76 := plainok (Try.stoodInHeld76) Try.eqGuardType76 Try.underlying76 (by kernel_rfl)
theorem lok82 : PlainOK Try.prog 82 := plainok (Try.stoodInHeld82) Try.eqGuardType82 Try.underlying82 (by kernel_rfl)
noncomputable def pL : List (Nat × Unit) := [(131, ()), (133, ()), (140, ()), (142, ()), (165, ()), (167, ()), (170, ()), (184, ()), (74, ()), (76, ()), (82, ())]
noncomputable def pT : Tr Unit := .n none (.n none (.n none (.n none (.e) (.n none (.n none (.e) (.n none (.n (some ()) (.e) (.e)) (.e))) (.e))) (.n none (.n none (.n none (.n none (.n (some ()) (.e) (.e)) (.e)) (.e)) (.e)) (.e))) (.n none (.e) (.n none (.n none (.n none (.n none (.n (some ()) (.e) (.e)) (.e)) (.n none (.n (some ()) (.e) (.e)) (.e))) (.e)) (.e)))) (.n none (.n none (.n none (.e) (.n none (.e) (.n none (.e) (.n none (.n (some ()) (.e) (.e)) (.e))))) (.n none (.e) (.n none (.n none (.n (some ()) (.n (some ()) (.e) (.e)) (.e)) (.e)) (.e)))) (.n none (.n none (.n none (.e) (.n none (.n (some ()) (.e) (.e)) (.e))) (.n none (.n none (.n (some ()) (.e) (.e)) (.n none (.n (some ()) (.e) (.e)) (.e))) (.e))) (.n none (.e) (.n none (.n none (.n none (.n (some ()) (.e) (.e)) (.e)) (.e)) (.e)))))
theorem pT_eq : pT = ofL pL := by kernel_rfl
theorem pL_ok : ∀ q ∈ pL, PlainOK Try.prog q.1 := allc (lok131) (allc (lok133) (allc (lok140) (allc (lok142) (allc (lok165) (allc (lok167) (allc (lok170) (allc (lok184) (allc (lok74) (allc (lok76) (allc (lok82) (alln)))))))))))
noncomputable def kL : List (Nat × Unit) := []
noncomputable def kT : Tr Unit := .e
theorem kT_eq : kT = ofL kL := by kernel_rfl
theorem kL_ok : ∀ q ∈ kL, ∀ w, Calls Try.prog q.1 #[] w fun e w' => e = .returned (.bool true) ∧ Below w.heap.size w w' := alln
noncomputable def env : Env := ⟨tyT, fnT, mT, iT, eT, pT, kT⟩
theorem env_ok : EnvOK Try.prog env ∧ FnsOK Try.prog env := envok tyT_eq tyL_ok fnT_eq fnL_ok (by kernel_rfl) mT_eq mL_ok iT_eq iL_ok eT_eq eL_ok pT_eq pL_ok kT_eq kL_ok
end Go.Proofs.Ytbkaemajjaiklaa.Ev
