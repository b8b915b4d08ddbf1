/- The environment of the abstract machine: the functions and the types that the runs need, and that they are the program's. -/
import Derived.Test.YtbkaemajjaiklaaGreatProg
import Derived.Eval
import Derived.KernelRfl
import Derived.Test.YtbkaemajjaiklaaGreatEvMb

namespace Go.Proofs.YtbkaemajjaiklaaGreat.Ev
open Go.RowKit
set_option maxRecDepth 100000
noncomputable def u101 : { d // Tryz.prog.underlying 101 = some d } := ⟨_, Tryz.underlying101⟩
noncomputable def t101 : TI := ⟨u101.1, 2, 16, .agg [.int .i64 (.ofNat 0), .int .u64 (.ofNat 0)]⟩
theorem ok101 : TIOK Tryz.prog 101 t101 := tiok u101.2 (by kernel_rfl)
noncomputable def u107 : { d // Tryz.prog.underlying 107 = some d } := ⟨_, Tryz.underlying107⟩
noncomputable def t107 : TI := ⟨u107.1, 1, 8, .nilfunc⟩
theorem ok107 : TIOK Tryz.prog 107 t107 := tiok u107.2 (by kernel_rfl)
noncomputable def u126 : { d // Tryz.prog.underlying 126 = some d } := ⟨_, Tryz.underlying126⟩
noncomputable def t126 : TI := ⟨u126.1, 1, 8, .nilfunc⟩
theorem ok126 : TIOK Tryz.prog 126 t126 := tiok u126.2 (by kernel_rfl)
noncomputable def u128 : { d // Tryz.prog.underlying 128 = some d } := ⟨_, Tryz.underlying128⟩
noncomputable def t128 : TI := ⟨u128.1, 1, 24, .nilsl⟩
theorem ok128 : TIOK Tryz.prog 128 t128 := tiok u128.2 (by kernel_rfl)
noncomputable def u129 : { d // Tryz.prog.underlying 129 = some d } := ⟨_, Tryz.underlying129⟩
noncomputable def t129 : TI := ⟨u129.1, 1, 8, .nilmap⟩
theorem ok129 : TIOK Tryz.prog 129 t129 := tiok u129.2 (by kernel_rfl)
noncomputable def u131 : { d // Tryz.prog.underlying 131 = some d } := ⟨_, Tryz.underlying131⟩
noncomputable def t131 : TI := ⟨u131.1, 4, 32, .agg [.int .u64 (.ofNat 0), .int .u64 (.ofNat 0), .int .u64 (.ofNat 0), .int .u64 (.ofNat 0)]⟩
theorem ok131 : TIOK Tryz.prog 131 t131 := tiok u131.2 (by kernel_rfl)
noncomputable def u133 : { d // Tryz.prog.underlying 133 = some d } := ⟨_, Tryz.underlying133⟩
noncomputable def t133 : TI := ⟨u133.1, 7, 88, .agg [.nilsl, .nilsl, .nilmap, .int .u64 (.ofNat 0), .int .u64 (.ofNat 0), .int .u64 (.ofNat 0), .int .u64 (.ofNat 0)]⟩
theorem ok133 : TIOK Tryz.prog 133 t133 := tiok u133.2 (by kernel_rfl)
noncomputable def u140 : { d // Tryz.prog.underlying 140 = some d } := ⟨_, Tryz.underlying140⟩
noncomputable def t140 : TI := ⟨u140.1, 1, 24, .nilsl⟩
theorem ok140 : TIOK Tryz.prog 140 t140 := tiok u140.2 (by kernel_rfl)
noncomputable def u141 : { d // Tryz.prog.underlying 141 = some d } := ⟨_, Tryz.underlying141⟩
noncomputable def t141 : TI := ⟨u141.1, 65, 520, .agg [.int .i64 (.ofNat 0), .int .i64 (.ofNat 0), .int .i64 (.ofNat 0), .int .i64 (.ofNat 0), .int .i64 (.ofNat 0), .int .i64 (.ofNat 0), .int .i64 (.ofNat 0), .int .i64 (.ofNat 0), .int .i64 (.ofNat 0), .int .i64 (.ofNat 0), .int .i64 (.ofNat 0), .int .i64 (.ofNat 0), .int .i64 (.ofNat 0), .int .i64 (.ofNat 0), .int .i64 (.ofNat 0), .int .i64 (.ofNat 0), .int .i64 (.ofNat 0), .int .i64 (.ofNat 0), .int .i64 (.ofNat 0), .int .i64 (.ofNat 0), .int .i64 (.ofNat 0), .int .i64 (.ofNat 0), .int .i64 (.ofNat 0), .int .i64 (.ofNat 0), .int .i64 (.ofNat 0), .int .i64 (.ofNat 0), .int .i64 (.ofNat 0), .int .i64 (.ofNat 0), .int .i64 (.ofNat 0), .int .i64 (.ofNat 0), .int .i64 (.ofNat 0), .int .i64 (.ofNat 0), .int .i64 (.ofNat 0), .int .i64 (.ofNat 0), .int .i64 (.ofNat 0), .int .i64 (.ofNat 0), .int .i64 (.ofNat 0), .int .i64 (.ofNat 0), .int .i64 (.ofNat 0), .int .i64 (.ofNat 0), .int .i64 (.ofNat 0), .int .i64 (.ofNat 0), .int .i64 (.ofNat 0), .int .i64 (.ofNat 0), .int .i64 (.ofNat 0), .int .i64 (.ofNat 0), .int .i64 (.ofNat 0), .int .i64 (.ofNat 0), .int .i64 (.ofNat 0), .int .i64 (.ofNat 0), .int .i64 (.ofNat 0), .int .i64 (.ofNat 0), .int .i64 (.ofNat 0), .int .i64 (.ofNat 0), .int .i64 (.ofNat 0), .int .i64 (.ofNat 0), .int .i64 (.ofNat 0), .int .i64 (.ofNat 0), .int .i64 (.ofNat 0), .int .i64 (.ofNat 0), .int .i64 (.ofNat 0), .int .i64 (.ofNat 0), .int .i64 (.ofNat 0), .int .i64 (.ofNat 0), .int .i64 (.ofNat 0)]⟩
theorem ok141 : TIOK Tryz.prog 141 t141 := tiok u141.2 (by kernel_rfl)
noncomputable def u143 : { d // Tryz.prog.underlying 143 = some d } := ⟨_, Tryz.underlying143⟩
noncomputable def t143 : TI := ⟨u143.1, 66, 544, .agg [.nilsl, .int .i64 (.ofNat 0), .int .i64 (.ofNat 0), .int .i64 (.ofNat 0), .int .i64 (.ofNat 0), .int .i64 (.ofNat 0), .int .i64 (.ofNat 0), .int .i64 (.ofNat 0), .int .i64 (.ofNat 0), .int .i64 (.ofNat 0), .int .i64 (.ofNat 0), .int .i64 (.ofNat 0), .int .i64 (.ofNat 0), .int .i64 (.ofNat 0), .int .i64 (.ofNat 0), .int .i64 (.ofNat 0), .int .i64 (.ofNat 0), .int .i64 (.ofNat 0), .int .i64 (.ofNat 0), .int .i64 (.ofNat 0), .int .i64 (.ofNat 0), .int .i64 (.ofNat 0), .int .i64 (.ofNat 0), .int .i64 (.ofNat 0), .int .i64 (.ofNat 0), .int .i64 (.ofNat 0), .int .i64 (.ofNat 0), .int .i64 (.ofNat 0), .int .i64 (.ofNat 0), .int .i64 (.ofNat 0), .int .i64 (.ofNat 0), .int .i64 (.ofNat 0), .int .i64 (.ofNat 0), .int .i64 (.ofNat 0), .int .i64 (.ofNat 0), .int .i64 (.ofNat 0), .int .i64 (.ofNat 0), .int .i64 (.ofNat 0), .int .i64 (.ofNat 0), .int .i64 (.ofNat 0), .int .i64 (.ofNat 0), .int .i64 (.ofNat 0), .int .i64 (.ofNat 0), .int .i64 (.ofNat 0), .int .i64 (.ofNat 0), .int .i64 (.ofNat 0), .int .i64 (.ofNat 0), .int .i64 (.ofNat 0), .int .i64 (.ofNat 0), .int .i64 (.ofNat 0), .int .i64 (.ofNat 0), .int .i64 (.ofNat 0), .int .i64 (.ofNat 0), .int .i64 (.ofNat 0), .int .i64 (.ofNat 0), .int .i64 (.ofNat 0), .int .i64 (.ofNat 0), .int .i64 (.ofNat 0), .int .i64 (.ofNat 0), .int .i64 (.ofNat 0), .int .i64 (.ofNat 0), .int .i64 (.ofNat 0), .int .i64 (.ofNat 0), .int .i64 (.ofNat 0), .int .i64 (.ofNat 0), .int .i64 (.ofNat 0)]⟩
theorem ok143 : TIOK Tryz.prog 143 t143 := tiok u143.2 (by kernel_rfl)
noncomputable def u162 : { d // Tryz.prog.underlying 162 = some d } := ⟨_, Tryz.underlying162⟩
noncomputable def t162 : TI := ⟨u162.1, 9, 72, .agg [.nilptr, .nilptr, .int .i64 (.ofNat 0), .int .u64 (.ofNat 0), .int .i64 (.ofNat 0), .int .i64 (.ofNat 0), .nilfunc, .bool false, .int .i64 (.ofNat 0)]⟩
theorem ok162 : TIOK Tryz.prog 162 t162 := tiok u162.2 (by kernel_rfl)
noncomputable def u167 : { d // Tryz.prog.underlying 167 = some d } := ⟨_, Tryz.underlying167⟩
noncomputable def t167 : TI := ⟨u167.1, 1, 24, .nilsl⟩
theorem ok167 : TIOK Tryz.prog 167 t167 := tiok u167.2 (by kernel_rfl)
noncomputable def u169 : { d // Tryz.prog.underlying 169 = some d } := ⟨_, Tryz.underlying169⟩
noncomputable def t169 : TI := ⟨u169.1, 1, 24, .agg [.nilsl]⟩
theorem ok169 : TIOK Tryz.prog 169 t169 := tiok u169.2 (by kernel_rfl)
noncomputable def u170 : { d // Tryz.prog.underlying 170 = some d } := ⟨_, Tryz.underlying170⟩
noncomputable def t170 : TI := ⟨u170.1, 4, 32, .agg [.int .i64 (.ofNat 0), .int .i64 (.ofNat 0), .int .i64 (.ofNat 0), .int .i64 (.ofNat 0)]⟩
theorem ok170 : TIOK Tryz.prog 170 t170 := tiok u170.2 (by kernel_rfl)
noncomputable def u173 : { d // Tryz.prog.underlying 173 = some d } := ⟨_, Tryz.underlying173⟩
noncomputable def t173 : TI := ⟨u173.1, 1, 8, .nilptr⟩
theorem ok173 : TIOK Tryz.prog 173 t173 := tiok u173.2 (by kernel_rfl)
noncomputable def u184 : { d // Tryz.prog.underlying 184 = some d } := ⟨_, Tryz.underlying184⟩
noncomputable def t184 : TI := ⟨u184.1, 2, 16, .agg [.int .u64 (.ofNat 0), .int .u64 (.ofNat 0)]⟩
theorem ok184 : TIOK Tryz.prog 184 t184 := tiok u184.2 (by kernel_rfl)
noncomputable def u20 : { d // Tryz.prog.underlying 20 = some d } := ⟨_, Tryz.underlying20⟩
noncomputable def t20 : TI := ⟨u20.1, 1, 16, .niliface⟩
theorem ok20 : TIOK Tryz.prog 20 t20 := tiok u20.2 (by kernel_rfl)
noncomputable def u206 : { d // Tryz.prog.underlying 206 = some d } := ⟨_, Tryz.underlying206⟩
noncomputable def t206 : TI := ⟨u206.1, 1, 16, .niliface⟩
theorem ok206 : TIOK Tryz.prog 206 t206 := tiok u206.2 (by kernel_rfl)
noncomputable def u23 : { d // Tryz.prog.underlying 23 = some d } := ⟨_, Tryz.underlying23⟩
noncomputable def t23 : TI := ⟨u23.1, 1, 8, .int .u64 (.ofNat 0)⟩
theorem ok23 : TIOK Tryz.prog 23 t23 := tiok u23.2 (by kernel_rfl)
noncomputable def u24 : { d // Tryz.prog.underlying 24 = some d } := ⟨_, Tryz.underlying24⟩
noncomputable def t24 : TI := ⟨u24.1, 1, 8, .int .u64 (.ofNat 0)⟩
theorem ok24 : TIOK Tryz.prog 24 t24 := tiok u24.2 (by kernel_rfl)
noncomputable def u26 : { d // Tryz.prog.underlying 26 = some d } := ⟨_, Tryz.underlying26⟩
noncomputable def t26 : TI := ⟨u26.1, 1, 24, .nilsl⟩
theorem ok26 : TIOK Tryz.prog 26 t26 := tiok u26.2 (by kernel_rfl)
noncomputable def u28 : { d // Tryz.prog.underlying 28 = some d } := ⟨_, Tryz.underlying28⟩
noncomputable def t28 : TI := ⟨u28.1, 1, 8, .nilptr⟩
theorem ok28 : TIOK Tryz.prog 28 t28 := tiok u28.2 (by kernel_rfl)
noncomputable def u29 : { d // Tryz.prog.underlying 29 = some d } := ⟨_, Tryz.underlying29⟩
noncomputable def t29 : TI := ⟨u29.1, 1, 8, .int .i64 (.ofNat 0)⟩
theorem ok29 : TIOK Tryz.prog 29 t29 := tiok u29.2 (by kernel_rfl)
noncomputable def u3 : { d // Tryz.prog.underlying 3 = some d } := ⟨_, Tryz.underlying3⟩
noncomputable def t3 : TI := ⟨u3.1, 1, 8, .int .i64 (.ofNat 0)⟩
theorem ok3 : TIOK Tryz.prog 3 t3 := tiok u3.2 (by kernel_rfl)
noncomputable def u4 : { d // Tryz.prog.underlying 4 = some d } := ⟨_, Tryz.underlying4⟩
noncomputable def t4 : TI := ⟨u4.1, 1, 1, .bool false⟩
theorem ok4 : TIOK Tryz.prog 4 t4 := tiok u4.2 (by kernel_rfl)
noncomputable def u48 : { d // Tryz.prog.underlying 48 = some d } := ⟨_, Tryz.underlying48⟩
noncomputable def t48 : TI := ⟨u48.1, 1, 8, .int .u64 (.ofNat 0)⟩
theorem ok48 : TIOK Tryz.prog 48 t48 := tiok u48.2 (by kernel_rfl)
noncomputable def u5 : { d // Tryz.prog.underlying 5 = some d } := ⟨_, Tryz.underlying5⟩
noncomputable def t5 : TI := ⟨u5.1, 1, 1, .int .u8 (.ofNat 0)⟩
theorem ok5 : TIOK Tryz.prog 5 t5 := tiok u5.2 (by kernel_rfl)
noncomputable def u51 : { d // Tryz.prog.underlying 51 = some d } := ⟨_, Tryz.underlying51⟩
noncomputable def t51 : TI := ⟨u51.1, 1, 24, .nilsl⟩
theorem ok51 : TIOK Tryz.prog 51 t51 := tiok u51.2 (by kernel_rfl)
noncomputable def u52 : { d // Tryz.prog.underlying 52 = some d } := ⟨_, Tryz.underlying52⟩
noncomputable def t52 : TI := ⟨u52.1, 1, 8, .nilptr⟩
theorem ok52 : TIOK Tryz.prog 52 t52 := tiok u52.2 (by kernel_rfl)
noncomputable def u78 : { d // Tryz.prog.underlying 78 = some d } := ⟨_, Tryz.underlying78⟩
noncomputable def t78 : TI := ⟨u78.1, 1, 8, .nilptr⟩
theorem ok78 : TIOK Tryz.prog 78 t78 := tiok u78.2 (by kernel_rfl)
noncomputable def u83 : { d // Tryz.prog.underlying 83 = some d } := ⟨_, Tryz.underlying83⟩
noncomputable def t83 : TI := ⟨u83.1, 1, 8, .nilfunc⟩
theorem ok83 : TIOK Tryz.prog 83 t83 := tiok u83.2 (by kernel_rfl)
noncomputable def u9 : { d // Tryz.prog.underlying 9 = some d } := ⟨_, Tryz.underlying9⟩
noncomputable def t9 : TI := ⟨u9.1, 1, 16, .str ⟨#[]⟩⟩
theorem ok9 : TIOK Tryz.prog 9 t9 := tiok u9.2 (by kernel_rfl)
noncomputable def u90 : { d // Tryz.prog.underlying 90 = some d } := ⟨_, Tryz.underlying90⟩
noncomputable def t90 : TI := ⟨u90.1, 1, 24, .nilsl⟩
theorem ok90 : TIOK Tryz.prog 90 t90 := tiok u90.2 (by kernel_rfl)
noncomputable def u91 : { d // Tryz.prog.underlying 91 = some d } := ⟨_, Tryz.underlying91⟩
noncomputable def t91 : TI := ⟨u91.1, 1, 8, .nilmap⟩
theorem ok91 : TIOK Tryz.prog 91 t91 := tiok u91.2 (by kernel_rfl)
noncomputable def u92 : { d // Tryz.prog.underlying 92 = some d } := ⟨_, Tryz.underlying92⟩
noncomputable def t92 : TI := ⟨u92.1, 1, 8, .nilptr⟩
theorem ok92 : TIOK Tryz.prog 92 t92 := tiok u92.2 (by kernel_rfl)
noncomputable def u93 : { d // Tryz.prog.underlying 93 = some d } := ⟨_, Tryz.underlying93⟩
noncomputable def t93 : TI := ⟨u93.1, 4, 32, .agg [.nilptr, .nilptr, .nilptr, .nilptr]⟩
theorem ok93 : TIOK Tryz.prog 93 t93 := tiok u93.2 (by kernel_rfl)
noncomputable def u95 : { d // Tryz.prog.underlying 95 = some d } := ⟨_, Tryz.underlying95⟩
noncomputable def t95 : TI := ⟨u95.1, 7, 72, .agg [.int .i64 (.ofNat 0), .nilsl, .nilptr, .nilptr, .nilptr, .nilptr, .nilmap]⟩
theorem ok95 : TIOK Tryz.prog 95 t95 := tiok u95.2 (by kernel_rfl)
noncomputable def tyL : List (Nat × TI) := [(101, t101), (107, t107), (126, t126), (128, t128), (129, t129), (131, t131), (133, t133), (140, t140), (141, t141), (143, t143), (162, t162), (167, t167), (169, t169), (170, t170), (173, t173), (184, t184), (20, t20), (206, t206), (23, t23), (24, t24), (26, t26), (28, t28), (29, t29), (3, t3), (4, t4), (48, t48), (5, t5), (51, t51), (52, t52), (78, t78), (83, t83), (9, t9), (90, t90), (91, t91), (92, t92), (93, t93), (95, t95)]
noncomputable def tyT : Tr TI := .n none (.n none (.n (some t3) (.n none (.n none (.n none (.e) (.n (some t95) (.e) (.e))) (.n none (.n none (.n (some t143) (.e) (.e)) (.e)) (.e))) (.n (some t23) (.n none (.e) (.n none (.n (some t167) (.e) (.e)) (.e))) (.e))) (.n none (.n none (.n none (.n none (.n (some t131) (.e) (.e)) (.e)) (.e)) (.n (some t51) (.n (some t83) (.e) (.e)) (.e))) (.n none (.n none (.e) (.n (some t107) (.e) (.e))) (.n none (.n (some t91) (.e) (.e)) (.e))))) (.n (some t5) (.n (some t9) (.n none (.n none (.n none (.n (some t129) (.e) (.e)) (.e)) (.e)) (.e)) (.n none (.n none (.e) (.n none (.n (some t169) (.e) (.e)) (.e))) (.e))) (.n none (.n none (.n none (.n none (.n (some t133) (.e) (.e)) (.e)) (.n (some t101) (.e) (.e))) (.e)) (.n (some t29) (.n none (.n none (.n (some t141) (.e) (.e)) (.e)) (.n none (.n (some t173) (.e) (.e)) (.e))) (.n none (.n (some t93) (.e) (.e)) (.e)))))) (.n none (.n (some t4) (.n none (.n none (.n none (.n none (.n (some t128) (.e) (.e)) (.e)) (.e)) (.n (some t48) (.e) (.e))) (.n (some t24) (.e) (.n none (.e) (.n none (.n (some t184) (.e) (.e)) (.e))))) (.n none (.n (some t20) (.e) (.n (some t52) (.e) (.e))) (.n (some t28) (.n none (.n none (.n (some t140) (.e) (.e)) (.e)) (.e)) (.n none (.n (some t92) (.e) (.e)) (.e))))) (.n none (.n none (.n none (.n none (.e) (.n none (.n (some t162) (.e) (.e)) (.e))) (.e)) (.n (some t26) (.n none (.e) (.n none (.n (some t170) (.e) (.e)) (.e))) (.n none (.n (some t90) (.e) (.e)) (.e)))) (.n none (.e) (.n none (.n none (.n (some t78) (.e) (.n (some t206) (.e) (.e))) (.e)) (.n none (.e) (.n (some t126) (.e) (.e)))))))
theorem tyT_eq : tyT = ofL tyL := by kernel_rfl
theorem tyL_ok : ∀ p ∈ tyL, TIOK Tryz.prog p.1 p.2 := allc ok101 (allc ok107 (allc ok126 (allc ok128 (allc ok129 (allc ok131 (allc ok133 (allc ok140 (allc ok141 (allc ok143 (allc ok162 (allc ok167 (allc ok169 (allc ok170 (allc ok173 (allc ok184 (allc ok20 (allc ok206 (allc ok23 (allc ok24 (allc ok26 (allc ok28 (allc ok29 (allc ok3 (allc ok4 (allc ok48 (allc ok5 (allc ok51 (allc ok52 (allc ok78 (allc ok83 (allc ok9 (allc ok90 (allc ok91 (allc ok92 (allc ok93 (allc ok95 (alln)))))))))))))))))))))))))))))))))))))
theorem fok10 : FNOK Tryz.prog 10 Tryz.f10 := ⟨Tryz.func10, by decide +kernel, by kernel_rfl, by kernel_rfl⟩
theorem fok100 : FNOK Tryz.prog 100 Tryz.f100 := ⟨Tryz.func100, by decide +kernel, by kernel_rfl, by kernel_rfl⟩
theorem fok101 : FNOK Tryz.prog 101 Tryz.f101 := ⟨Tryz.func101, by decide +kernel, by kernel_rfl, by kernel_rfl⟩
theorem fok103 : FNOK Tryz.prog 103 Tryz.f103 := ⟨Tryz.func103, by decide +kernel, by kernel_rfl, by kernel_rfl⟩
theorem fok104 : FNOK Tryz.prog 104 Tryz.f104 := ⟨Tryz.func104, by decide +kernel, by kernel_rfl, by kernel_rfl⟩
theorem fok106 : FNOK Tryz.prog 106 Tryz.f106 := ⟨Tryz.func106, by decide +kernel, by kernel_rfl, by kernel_rfl⟩
theorem fok112 : FNOK Tryz.prog 112 Tryz.f112 := ⟨Tryz.func112, by decide +kernel, by kernel_rfl, by kernel_rfl⟩
theorem fok113 : FNOK Tryz.prog 113 Tryz.f113 := ⟨Tryz.func113, by decide +kernel, by kernel_rfl, by kernel_rfl⟩
theorem fok114 : FNOK Tryz.prog 114 Tryz.f114 := ⟨Tryz.func114, by decide +kernel, by kernel_rfl, by kernel_rfl⟩
theorem fok115 : FNOK Tryz.prog 115 Tryz.f115 := ⟨Tryz.func115, by decide +kernel, by kernel_rfl, by kernel_rfl⟩
theorem fok116 : FNOK Tryz.prog 116 Tryz.f116 := ⟨Tryz.func116, by decide +kernel, by kernel_rfl, by kernel_rfl⟩
theorem fok117 : FNOK Tryz.prog 117 Tryz.f117 := ⟨Tryz.func117, by decide +kernel, by kernel_rfl, by kernel_rfl⟩
theorem fok120 : FNOK Tryz.prog 120 Tryz.f120 := ⟨Tryz.func120, by decide +kernel, by kernel_rfl, by kernel_rfl⟩
theorem fok121 : FNOK Tryz.prog 121 Tryz.f121 := ⟨Tryz.func121, by decide +kernel, by kernel_rfl, by kernel_rfl⟩
theorem fok122 : FNOK Tryz.prog 122 Tryz.f122 := ⟨Tryz.func122, by decide +kernel, by kernel_rfl, by kernel_rfl⟩
theorem fok123 : FNOK Tryz.prog 123 Tryz.f123 := ⟨Tryz.func123, by decide +kernel, by kernel_rfl, by kernel_rfl⟩
theorem fok124 : FNOK Tryz.prog 124 Tryz.f124 := ⟨Tryz.func124, by decide +kernel, by kernel_rfl, by kernel_rfl⟩
theorem fok125 : FNOK Tryz.prog 125 Tryz.f125 := ⟨Tryz.func125, by decide +kernel, by kernel_rfl, by kernel_rfl⟩
theorem fok126 : FNOK Tryz.prog 126 Tryz.f126 := ⟨Tryz.func126, by decide +kernel, by kernel_rfl, by kernel_rfl⟩
theorem fok127 : FNOK Tryz.prog 127 Tryz.f127 := ⟨Tryz.func127, by decide +kernel, by kernel_rfl, by kernel_rfl⟩
theorem fok128 : FNOK Tryz.prog 128 Tryz.f128 := ⟨Tryz.func128, by decide +kernel, by kernel_rfl, by kernel_rfl⟩
theorem fok132 : FNOK Tryz.prog 132 Tryz.f132 := ⟨Tryz.func132, by decide +kernel, by kernel_rfl, by kernel_rfl⟩
theorem fok133 : FNOK Tryz.prog 133 Tryz.f133 := ⟨Tryz.func133, by decide +kernel, by kernel_rfl, by kernel_rfl⟩
theorem fok134 : FNOK Tryz.prog 134 Tryz.f134 := ⟨Tryz.func134, by decide +kernel, by kernel_rfl, by kernel_rfl⟩
theorem fok135 : FNOK Tryz.prog 135 Tryz.f135 := ⟨Tryz.func135, by decide +kernel, by kernel_rfl, by kernel_rfl⟩
theorem fok149 : FNOK Tryz.prog 149 Tryz.f149 := ⟨Tryz.func149, by decide +kernel, by kernel_rfl, by kernel_rfl⟩
theorem fok15 : FNOK Tryz.prog 15 Tryz.f15 := ⟨Tryz.func15, by decide +kernel, by kernel_rfl, by kernel_rfl⟩
theorem fok150 : FNOK Tryz.prog 150 Tryz.f150 := ⟨Tryz.func150, by decide +kernel, by kernel_rfl, by kernel_rfl⟩
theorem fok152 : FNOK Tryz.prog 152 Tryz.f152 := ⟨Tryz.func152, by decide +kernel, by kernel_rfl, by kernel_rfl⟩
theorem fok159 : FNOK Tryz.prog 159 Tryz.f159 := ⟨Tryz.func159, by decide +kernel, by kernel_rfl, by kernel_rfl⟩
theorem fok180 : FNOK Tryz.prog 180 Tryz.f180 := ⟨Tryz.func180, by decide +kernel, by kernel_rfl, by kernel_rfl⟩
theorem fok181 : FNOK Tryz.prog 181 Tryz.f181 := ⟨Tryz.func181, by decide +kernel, by kernel_rfl, by kernel_rfl⟩
theorem fok182 : FNOK Tryz.prog 182 Tryz.f182 := ⟨Tryz.func182, by decide +kernel, by kernel_rfl, by kernel_rfl⟩
theorem fok183 : FNOK Tryz.prog 183 Tryz.f183 := ⟨Tryz.func183, by decide +kernel, by kernel_rfl, by kernel_rfl⟩
theorem fok23 : FNOK Tryz.prog 23 Tryz.f23 := ⟨Tryz.func23, by decide +kernel, by kernel_rfl, by kernel_rfl⟩
theorem fok25 : FNOK Tryz.prog 25 Tryz.f25 := ⟨Tryz.func25, by decide +kernel, by kernel_rfl, by kernel_rfl⟩
theorem fok32 : FNOK Tryz.prog 32 Tryz.f32 := ⟨Tryz.func32, by decide +kernel, by kernel_rfl, by kernel_rfl⟩
theorem fok36 : FNOK Tryz.prog 36 Tryz.f36 := ⟨Tryz.func36, by decide +kernel, by kernel_rfl, by kernel_rfl⟩
theorem fok38 : FNOK Tryz.prog 38 Tryz.f38 := ⟨Tryz.func38, by decide +kernel, by kernel_rfl, by kernel_rfl⟩
theorem fok42 : FNOK Tryz.prog 42 Tryz.f42 := ⟨Tryz.func42, by decide +kernel, by kernel_rfl, by kernel_rfl⟩
theorem fok44 : FNOK Tryz.prog 44 Tryz.f44 := ⟨Tryz.func44, by decide +kernel, by kernel_rfl, by kernel_rfl⟩
theorem fok45 : FNOK Tryz.prog 45 Tryz.f45 := ⟨Tryz.func45, by decide +kernel, by kernel_rfl, by kernel_rfl⟩
theorem fok46 : FNOK Tryz.prog 46 Tryz.f46 := ⟨Tryz.func46, by decide +kernel, by kernel_rfl, by kernel_rfl⟩
theorem fok47 : FNOK Tryz.prog 47 Tryz.f47 := ⟨Tryz.func47, by decide +kernel, by kernel_rfl, by kernel_rfl⟩
theorem fok48 : FNOK Tryz.prog 48 Tryz.f48 := ⟨Tryz.func48, by decide +kernel, by kernel_rfl, by kernel_rfl⟩
theorem fok49 : FNOK Tryz.prog 49 Tryz.f49 := ⟨Tryz.func49, by decide +kernel, by kernel_rfl, by kernel_rfl⟩
theorem fok50 : FNOK Tryz.prog 50 Tryz.f50 := ⟨Tryz.func50, by decide +kernel, by kernel_rfl, by kernel_rfl⟩
theorem fok51 : FNOK Tryz.prog 51 Tryz.f51 := ⟨Tryz.func51, by decide +kernel, by kernel_rfl, by kernel_rfl⟩
theorem fok52 : FNOK Tryz.prog 52 Tryz.f52 := ⟨Tryz.func52, by decide +kernel, by kernel_rfl, by kernel_rfl⟩
theorem fok53 : FNOK Tryz.prog 53 Tryz.f53 := ⟨Tryz.func53, by decide +kernel, by kernel_rfl, by kernel_rfl⟩
theorem fok60 : FNOK Tryz.prog 60 Tryz.f60 := ⟨Tryz.func60, by decide +kernel, by kernel_rfl, by kernel_rfl⟩
theorem fok61 : FNOK Tryz.prog 61 Tryz.f61 := ⟨Tryz.func61, by decide +kernel, by kernel_rfl, by kernel_rfl⟩
theorem fok62 : FNOK Tryz.prog 62 Tryz.f62 := ⟨Tryz.func62, by decide +kernel, by kernel_rfl, by kernel_rfl⟩
theorem fok72 : FNOK Tryz.prog 72 Tryz.f72 := ⟨Tryz.func72, by decide +kernel, by kernel_rfl, by kernel_rfl⟩
theorem fok73 : FNOK Tryz.prog 73 Tryz.f73 := ⟨Tryz.func73, by decide +kernel, by kernel_rfl, by kernel_rfl⟩
theorem fok74 : FNOK Tryz.prog 74 Tryz.f74 := ⟨Tryz.func74, by decide +kernel, by kernel_rfl, by kernel_rfl⟩
theorem fok75 : FNOK Tryz.prog 75 Tryz.f75 := ⟨Tryz.func75, by decide +kernel, by kernel_rfl, by kernel_rfl⟩
theorem fok76 : FNOK Tryz.prog 76 Tryz.f76 := ⟨Tryz.func76, by decide +kernel, by kernel_rfl, by kernel_rfl⟩
theorem fok78 : FNOK Tryz.prog 78 Tryz.f78 := ⟨Tryz.func78, by decide +kernel, by kernel_rfl, by kernel_rfl⟩
theorem fok8 : FNOK Tryz.prog 8 Tryz.f8 := ⟨Tryz.func8, by decide +kernel, by kernel_rfl, by kernel_rfl⟩
theorem fok81 : FNOK Tryz.prog 81 Tryz.f81 := ⟨Tryz.func81, by decide +kernel, by kernel_rfl, by kernel_rfl⟩
theorem fok83 : FNOK Tryz.prog 83 Tryz.f83 := ⟨Tryz.func83, by decide +kernel, by kernel_rfl, by kernel_rfl⟩
theorem fok84 : FNOK Tryz.prog 84 Tryz.f84 := ⟨Tryz.func84, by decide +kernel, by kernel_rfl, by kernel_rfl⟩
theorem fok87 : FNOK Tryz.prog 87 Tryz.f87 := ⟨Tryz.func87, by decide +kernel, by kernel_rfl, by kernel_rfl⟩
theorem fok91 : FNOK Tryz.prog 91 Tryz.f91 := ⟨Tryz.func91, by decide +kernel, by kernel_rfl, by kernel_rfl⟩
theorem fok92 : FNOK Tryz.prog 92 Tryz.f92 := ⟨Tryz.func92, by decide +kernel, by kernel_rfl, by kernel_rfl⟩
theorem fok93 : FNOK Tryz.prog 93 Tryz.f93 := ⟨Tryz.func93, by decide +kernel, by kernel_rfl, by kernel_rfl⟩
theorem fok94 : FNOK Tryz.prog 94 Tryz.f94 := ⟨Tryz.func94, by decide +kernel, by kernel_rfl, by kernel_rfl⟩
theorem fok95 : FNOK Tryz.prog 95 Tryz.f95 := ⟨Tryz.func95, by decide +kernel, by kernel_rfl, by kernel_rfl⟩
theorem fok96 : FNOK Tryz.prog 96 Tryz.f96 := ⟨Tryz.func96, by decide +kernel, by kernel_rfl, by kernel_rfl⟩
theorem fok97 : FNOK Tryz.prog 97 Tryz.f97 := ⟨Tryz.func97, by decide +kernel, by kernel_rfl, by kernel_rfl⟩
theorem fok98 : FNOK Tryz.prog 98 Tryz.f98 := ⟨Tryz.func98, by decide +kernel, by kernel_rfl, by kernel_rfl⟩
noncomputable def fnL : List (Nat × Func) := [(10, Tryz.f10), (100, Tryz.f100), (101, Tryz.f101), (103, Tryz.f103), (104, Tryz.f104), (106, Tryz.f106), (112, Tryz.f112), (113, Tryz.f113), (114, Tryz.f114), (115, Tryz.f115), (116, Tryz.f116), (117, Tryz.f117), (120, Tryz.f120), (121, Tryz.f121), (122, Tryz.f122), (123, Tryz.f123), (124, Tryz.f124), (125, Tryz.f125), (126, Tryz.f126), (127, Tryz.f127), (128, Tryz.f128), (132, Tryz.f132), (133, Tryz.f133), (134, Tryz.f134), (135, Tryz.f135), (149, Tryz.f149), (15, Tryz.f15), (150, Tryz.f150), (152, Tryz.f152), (159, Tryz.f159), (180, Tryz.f180), (181, Tryz.f181), (182, Tryz.f182), (183, Tryz.f183), (23, Tryz.f23), (25, Tryz.f25), (32, Tryz.f32), (36, Tryz.f36), (38, Tryz.f38), (42, Tryz.f42), (44, Tryz.f44), (45, Tryz.f45), (46, Tryz.f46), (47, Tryz.f47), (48, Tryz.f48), (49, Tryz.f49), (50, Tryz.f50), (51, Tryz.f51), (52, Tryz.f52), (53, Tryz.f53), (60, Tryz.f60), (61, Tryz.f61), (62, Tryz.f62), (72, Tryz.f72), (73, Tryz.f73), (74, Tryz.f74), (75, Tryz.f75), (76, Tryz.f76), (78, Tryz.f78), (8, Tryz.f8), (81, Tryz.f81), (83, Tryz.f83), (84, Tryz.f84), (87, Tryz.f87), (91, Tryz.f91), (92, Tryz.f92), (93, Tryz.f93), (94, Tryz.f94), (95, Tryz.f95), (96, Tryz.f96), (97, Tryz.f97), (98, Tryz.f98)]
noncomputable def fnT : Tr Func := .n none (.n none (.n none (.n none (.n (some Tryz.f15) (.n none (.n none (.n (some Tryz.f127) (.e) (.e)) (.e)) (.n (some Tryz.f95) (.n (some Tryz.f159) (.e) (.e)) (.e))) (.n (some Tryz.f47) (.e) (.e))) (.n (some Tryz.f23) (.n none (.n none (.n (some Tryz.f135) (.e) (.e)) (.e)) (.n (some Tryz.f103) (.e) (.e))) (.n none (.n (some Tryz.f87) (.e) (.e)) (.n none (.n (some Tryz.f183) (.e) (.e)) (.e))))) (.n none (.n none (.e) (.n (some Tryz.f51) (.n (some Tryz.f83) (.e) (.e)) (.n (some Tryz.f115) (.e) (.e)))) (.n none (.n none (.n (some Tryz.f75) (.e) (.e)) (.e)) (.n none (.n (some Tryz.f91) (.e) (.e)) (.n (some Tryz.f123) (.e) (.e)))))) (.n none (.n none (.n none (.n none (.e) (.n (some Tryz.f97) (.e) (.e))) (.n (some Tryz.f49) (.n (some Tryz.f81) (.e) (.e)) (.n (some Tryz.f113) (.e) (.e)))) (.n (some Tryz.f25) (.n none (.n (some Tryz.f73) (.e) (.e)) (.e)) (.n none (.e) (.n (some Tryz.f121) (.e) (.e))))) (.n none (.n none (.n none (.n none (.n (some Tryz.f133) (.e) (.e)) (.e)) (.n (some Tryz.f101) (.e) (.e))) (.n (some Tryz.f53) (.n none (.n (some Tryz.f149) (.e) (.e)) (.e)) (.n (some Tryz.f117) (.n (some Tryz.f181) (.e) (.e)) (.e)))) (.n none (.n (some Tryz.f45) (.e) (.e)) (.n (some Tryz.f61) (.n (some Tryz.f93) (.e) (.e)) (.n (some Tryz.f125) (.e) (.e))))))) (.n none (.n none (.n (some Tryz.f8) (.n none (.n (some Tryz.f32) (.n none (.n (some Tryz.f128) (.e) (.e)) (.e)) (.n (some Tryz.f96) (.e) (.e))) (.n (some Tryz.f48) (.e) (.n (some Tryz.f112) (.e) (.e)))) (.n none (.n none (.n (some Tryz.f72) (.e) (.e)) (.n (some Tryz.f104) (.e) (.e))) (.n none (.n none (.n (some Tryz.f152) (.e) (.e)) (.e)) (.n (some Tryz.f120) (.e) (.e))))) (.n none (.n none (.n (some Tryz.f36) (.n none (.n (some Tryz.f132) (.e) (.e)) (.e)) (.n (some Tryz.f100) (.e) (.e))) (.n (some Tryz.f52) (.n (some Tryz.f84) (.e) (.e)) (.n (some Tryz.f116) (.n (some Tryz.f180) (.e) (.e)) (.e)))) (.n none (.n (some Tryz.f44) (.n (some Tryz.f76) (.e) (.e)) (.e)) (.n (some Tryz.f60) (.n (some Tryz.f92) (.e) (.e)) (.n (some Tryz.f124) (.e) (.e)))))) (.n none (.n (some Tryz.f10) (.n none (.n none (.e) (.n (some Tryz.f98) (.e) (.e))) (.n (some Tryz.f50) (.e) (.n (some Tryz.f114) (.e) (.e)))) (.n none (.n (some Tryz.f42) (.n (some Tryz.f74) (.e) (.e)) (.n (some Tryz.f106) (.e) (.e))) (.n none (.e) (.n (some Tryz.f122) (.e) (.e))))) (.n none (.n none (.n (some Tryz.f38) (.n none (.n (some Tryz.f134) (.e) (.e)) (.e)) (.e)) (.n none (.n none (.n (some Tryz.f150) (.e) (.e)) (.e)) (.n none (.n (some Tryz.f182) (.e) (.e)) (.e)))) (.n none (.n (some Tryz.f46) (.n (some Tryz.f78) (.e) (.e)) (.e)) (.n (some Tryz.f62) (.n (some Tryz.f94) (.e) (.e)) (.n (some Tryz.f126) (.e) (.e)))))))
theorem fnT_eq : fnT = ofL fnL := by kernel_rfl
theorem fnL_ok : ∀ p ∈ fnL, FNOK Tryz.prog p.1 p.2 := allc fok10 (allc fok100 (allc fok101 (allc fok103 (allc fok104 (allc fok106 (allc fok112 (allc fok113 (allc fok114 (allc fok115 (allc fok116 (allc fok117 (allc fok120 (allc fok121 (allc fok122 (allc fok123 (allc fok124 (allc fok125 (allc fok126 (allc fok127 (allc fok128 (allc fok132 (allc fok133 (allc fok134 (allc fok135 (allc fok149 (allc fok15 (allc fok150 (allc fok152 (allc fok159 (allc fok180 (allc fok181 (allc fok182 (allc fok183 (allc fok23 (allc fok25 (allc fok32 (allc fok36 (allc fok38 (allc fok42 (allc fok44 (allc fok45 (allc fok46 (allc fok47 (allc fok48 (allc fok49 (allc fok50 (allc fok51 (allc fok52 (allc fok53 (allc fok60 (allc fok61 (allc fok62 (allc fok72 (allc fok73 (allc fok74 (allc fok75 (allc fok76 (allc fok78 (allc fok8 (allc fok81 (allc fok83 (allc fok84 (allc fok87 (allc fok91 (allc fok92 (allc fok93 (allc fok94 (allc fok95 (allc fok96 (allc fok97 (allc fok98 (alln))))))))))))))))))))))))))))))))))))))))))))))))))))))))))))))))))))))))
theorem mok173_0 : MethOK Tryz.prog 173 ("Len", 100, (some 167)) := methok (ptr := false) (by kernel_rfl) (by kernel_rfl)
theorem mok173_1 : MethOK Tryz.prog 173 ("Less", 180, (some 167)) := methok (ptr := false) (by kernel_rfl) (by kernel_rfl)
theorem mok173_2 : MethOK Tryz.prog 173 ("Pop", 182, none) := methok (ptr := true) (by kernel_rfl) (by kernel_rfl)
theorem mok173_3 : MethOK Tryz.prog 173 ("Push", 183, none) := methok (ptr := true) (by kernel_rfl) (by kernel_rfl)
theorem mok173_4 : MethOK Tryz.prog 173 ("Swap", 181, (some 167)) := methok (ptr := false) (by kernel_rfl) (by kernel_rfl)
noncomputable def mL : List (Nat × List (String × Nat × Option Nat)) := [(173, [("Len", 100, (some 167)), ("Less", 180, (some 167)), ("Pop", 182, none), ("Push", 183, none), ("Swap", 181, (some 167))])]
noncomputable def mT : Tr (List (String × Nat × Option Nat)) := .n none (.n none (.e) (.n none (.e) (.n none (.e) (.n none (.n none (.e) (.n none (.n (some [("Len", 100, (some 167)), ("Less", 180, (some 167)), ("Pop", 182, none), ("Push", 183, none), ("Swap", 181, (some 167))]) (.e) (.e)) (.e))) (.e))))) (.e)
theorem mT_eq : mT = ofL mL := by kernel_rfl
theorem mL_ok : ∀ q ∈ mL, ∀ p ∈ q.2, MethOK Tryz.prog q.1 p := allc (allc (mok173_0) (allc (mok173_1) (allc (mok173_2) (allc (mok173_3) (allc (mok173_4) (alln)))))) (alln)
noncomputable def iL : List (Nat × List (Nat × Bool)) := []
noncomputable def iT : Tr (List (Nat × Bool)) := .e
theorem iT_eq : iT = ofL iL := by kernel_rfl
theorem iL_ok : ∀ q ∈ iL, ∀ p ∈ q.2, ∃ want i, Tryz.prog.underlying q.1 = some (.interface want) ∧ Tryz.prog.info? p.1 = some i ∧ (Instr.missingMethod want i.methods).isNone = p.2 := alln
theorem xok148 : (1 : Nat) = 1 ∧ EXTOK Tryz.prog 148 := ⟨rfl, ⟨Tryz.f148, Tryz.func148, by decide +kernel, by kernel_rfl, by kernel_rfl, by kernel_rfl⟩⟩
noncomputable def eL : List (Nat × Nat) := [(148, 1)]
noncomputable def eT : Tr Nat := .n none (.e) (.n none (.n none (.e) (.n none (.n none (.e) (.n none (.n none (.n (some 1) (.e) (.e)) (.e)) (.e))) (.e))) (.e))
theorem eT_eq : eT = ofL eL := by kernel_rfl
theorem eL_ok : ∀ q ∈ eL, q.2 = 1 ∧ EXTOK Tryz.prog q.1 := allc (xok148) (alln)
theorem lok101 : PlainOK Tryz.prog 101 := plainok (Tryz.stoodInHeld101) Tryz.eqGuardType101 Tryz.underlying101 (by kernel_rfl)
theorem lok131 : PlainOK Tryz.prog 131 := plainok (Tryz.stoodInHeld131) Tryz.eqGuardType131 Tryz.underlying131 (by kernel_rfl)
theorem lok133 : PlainOK Tryz.prog 133 := plainok (Tryz.stoodInHeld133) Tryz.eqGuardType133 Tryz.underlying133 (by kernel_rfl)
theorem lok141 : PlainOK Tryz.prog 141 := plainok (by kernel_rfl) Tryz.eqGuardType141 Tryz.underlying141 (by kernel_rfl)
theorem lok143 : PlainOK Tryz.prog 143 := plainok (Tryz.stoodInHeld143) Tryz.eqGuardType143 Tryz.underlying143 (by kernel_rfl)
theorem lok162 : PlainOK Tryz.prog 162 := plainok (Tryz.stoodInHeld162) Tryz.eqGuardType162 Tryz.underlying162 (by kernel_rfl)
theorem lok169 : PlainOK Tryz.prog 169 := plainok (Tryz.stoodInHeld169) Tryz.eqGuardType169 Tryz.underlying169 (by kernel_rfl)
theorem lok170 : PlainOK Tryz.prog 170 := plainok (by kernel_rfl) Tryz.eqGuardType170 Tryz.underlying170 (by kernel_rfl)
theorem lok184 : PlainOK Tryz.prog 184 := plainok (Tryz.stoodInHeld184) Tryz.eqGuardType184 Tryz.underlying184 (by kernel_rfl)
theorem lok93 : PlainOK Tryz.prog 93 := plainok (by kernel_rfl) Tryz.eqGuardType93 Tryz.underlying93 (by kernel_rfl)
theorem lok95 : PlainOK Tryz.prog 95 := plainok (Tryz.stoodInHeld95) Tryz.eqGuardType95 Tryz.underlying95 (by kernel_rfl)
noncomputable def pL : List (Nat × Unit) := [(101, ()), (131, ()), (133, ()), (141, ()), (143, ()), (162, ()), (169, ()), (170, ()), (184, ()), (93, ()), (95, ())]
noncomputable def pT : Tr Unit := .n none (.n none (.n none (.n none (.n none (.n none (.e) (.n (some ()) (.e) (.e))) (.n none (.n none (.n (some ()) (.e) (.e)) (.e)) (.e))) (.e)) (.n none (.n none (.n none (.n none (.n (some ()) (.e) (.e)) (.e)) (.e)) (.e)) (.e))) (.n none (.n none (.e) (.n none (.n none (.e) (.n none (.n (some ()) (.e) (.e)) (.e))) (.e))) (.n none (.n none (.n none (.n none (.n (some ()) (.e) (.e)) (.e)) (.n (some ()) (.e) (.e))) (.e)) (.n none (.n none (.n none (.n (some ()) (.e) (.e)) (.e)) (.e)) (.n none (.n (some ()) (.e) (.e)) (.e)))))) (.n none (.n none (.n none (.e) (.n none (.e) (.n none (.e) (.n none (.n (some ()) (.e) (.e)) (.e))))) (.e)) (.n none (.n none (.n none (.n none (.e) (.n none (.n (some ()) (.e) (.e)) (.e))) (.e)) (.n none (.n none (.e) (.n none (.n (some ()) (.e) (.e)) (.e))) (.e))) (.e)))
theorem pT_eq : pT = ofL pL := by kernel_rfl
theorem pL_ok : ∀ q ∈ pL, PlainOK Tryz.prog q.1 := allc (lok101) (allc (lok131) (allc (lok133) (allc (lok141) (allc (lok143) (allc (lok162) (allc (lok169) (allc (lok170) (allc (lok184) (allc (lok93) (allc (lok95) (alln)))))))))))
noncomputable def kL : List (Nat × Unit) := []
noncomputable def kT : Tr Unit := .e
theorem kT_eq : kT = ofL kL := by kernel_rfl
theorem kL_ok : ∀ q ∈ kL, ∀ w, Calls Tryz.prog q.1 #[] w fun e w' => e = .returned (.bool true) ∧ Below w.heap.size w w' := alln
noncomputable def env : Env := ⟨tyT, fnT, mT, iT, eT, pT, kT⟩
theorem env_ok : EnvOK Tryz.prog env ∧ FnsOK Tryz.prog env := envok tyT_eq tyL_ok fnT_eq fnL_ok (by kernel_rfl) mT_eq mL_ok iT_eq iL_ok eT_eq eL_ok pT_eq pL_ok kT_eq kL_ok
end Go.Proofs.YtbkaemajjaiklaaGreat.Ev
