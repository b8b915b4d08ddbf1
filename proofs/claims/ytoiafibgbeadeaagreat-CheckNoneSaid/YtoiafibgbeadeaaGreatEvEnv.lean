/- The environment of the abstract machine: the functions and the types that the runs need, and that they are the program's. -/
import Derived.Test.YtoiafibgbeadeaaGreatProg
import Derived.Eval
import Derived.KernelRfl
import Derived.Test.YtoiafibgbeadeaaGreatEvY
namespace Go.Proofs.YtoiafibgbeadeaaGreat.Ev
set_option maxRecDepth 100000
noncomputable def u1 : { d // Tryz.prog.underlying 1 = some d } := ⟨_, Tryz.underlying1⟩
noncomputable def t1 : TI := ⟨u1.1, 1, 8, .nilfunc⟩
theorem ok1 : TIOK Tryz.prog 1 t1 := tiok u1.2 (by kernel_rfl)
noncomputable def u101 : { d // Tryz.prog.underlying 101 = some d } := ⟨_, Tryz.underlying101⟩
noncomputable def t101 : TI := ⟨u101.1, 34, 312, .agg [.nilptr, .int .i64 (.ofNat 0), .int .u64 (.ofNat 0), .niliface, .nilfunc, .int .i64 (.ofNat 0), .int .u64 (.ofNat 0), .int .i64 (.ofNat 0), .int .u64 (.ofNat 0), .int .u64 (.ofNat 0), .int .u64 (.ofNat 0), .int .u64 (.ofNat 0), .int .u64 (.ofNat 0), .int .u64 (.ofNat 0), .int .u64 (.ofNat 0), .int .u64 (.ofNat 0), .int .u64 (.ofNat 0), .int .u64 (.ofNat 0), .int .u64 (.ofNat 0), .int .u64 (.ofNat 0), .int .u64 (.ofNat 0), .int .u64 (.ofNat 0), .int .u64 (.ofNat 0), .int .u64 (.ofNat 0), .int .u64 (.ofNat 0), .int .u64 (.ofNat 0), .int .u64 (.ofNat 0), .int .u64 (.ofNat 0), .str ⟨#[]⟩, .int .i64 (.ofNat 0), .bool false, .int .i64 (.ofNat 0), .str ⟨#[]⟩, .nilsl]⟩
theorem ok101 : TIOK Tryz.prog 101 t101 := tiok u101.2 (by kernel_rfl)
noncomputable def u105 : { d // Tryz.prog.underlying 105 = some d } := ⟨_, Tryz.underlying105⟩
noncomputable def t105 : TI := ⟨u105.1, 1, 8, .nilptr⟩
theorem ok105 : TIOK Tryz.prog 105 t105 := tiok u105.2 (by kernel_rfl)
noncomputable def u107 : { d // Tryz.prog.underlying 107 = some d } := ⟨_, Tryz.underlying107⟩
noncomputable def t107 : TI := ⟨u107.1, 12, 192, .agg [.nilptr, .nilsl, .nilsl, .nilfunc, .bool false, .int .i64 (.ofNat 0), .nilsl, .nilsl, .nilsl, .nilsl, .int .i64 (.ofNat 0), .int .i64 (.ofNat 0)]⟩
theorem ok107 : TIOK Tryz.prog 107 t107 := tiok u107.2 (by kernel_rfl)
noncomputable def u112 : { d // Tryz.prog.underlying 112 = some d } := ⟨_, Tryz.underlying112⟩
noncomputable def t112 : TI := ⟨u112.1, 1, 8, .nilptr⟩
theorem ok112 : TIOK Tryz.prog 112 t112 := tiok u112.2 (by kernel_rfl)
noncomputable def u114 : { d // Tryz.prog.underlying 114 = some d } := ⟨_, Tryz.underlying114⟩
noncomputable def t114 : TI := ⟨u114.1, 4, 48, .agg [.int .i64 (.ofNat 0), .nilsl, .int .i64 (.ofNat 0), .int .i64 (.ofNat 0)]⟩
theorem ok114 : TIOK Tryz.prog 114 t114 := tiok u114.2 (by kernel_rfl)
noncomputable def u115 : { d // Tryz.prog.underlying 115 = some d } := ⟨_, Tryz.underlying115⟩
noncomputable def t115 : TI := ⟨u115.1, 1, 8, .nilptr⟩
theorem ok115 : TIOK Tryz.prog 115 t115 := tiok u115.2 (by kernel_rfl)
noncomputable def u116 : { d // Tryz.prog.underlying 116 = some d } := ⟨_, Tryz.underlying116⟩
noncomputable def t116 : TI := ⟨u116.1, 1, 16, .niliface⟩
theorem ok116 : TIOK Tryz.prog 116 t116 := tiok u116.2 (by kernel_rfl)
noncomputable def u117 : { d // Tryz.prog.underlying 117 = some d } := ⟨_, Tryz.underlying117⟩
noncomputable def t117 : TI := ⟨u117.1, 1, 8, .nilfunc⟩
theorem ok117 : TIOK Tryz.prog 117 t117 := tiok u117.2 (by kernel_rfl)
noncomputable def u118 : { d // Tryz.prog.underlying 118 = some d } := ⟨_, Tryz.underlying118⟩
noncomputable def t118 : TI := ⟨u118.1, 1, 24, .nilsl⟩
theorem ok118 : TIOK Tryz.prog 118 t118 := tiok u118.2 (by kernel_rfl)
noncomputable def u120 : { d // Tryz.prog.underlying 120 = some d } := ⟨_, Tryz.underlying120⟩
noncomputable def t120 : TI := ⟨u120.1, 27, 248, .agg [.int .u64 (.ofNat 0), .int .i64 (.ofNat 0), .int .u64 (.ofNat 0), .int .u64 (.ofNat 0), .int .u64 (.ofNat 0), .int .u64 (.ofNat 0), .int .u64 (.ofNat 0), .int .u64 (.ofNat 0), .int .u64 (.ofNat 0), .int .u64 (.ofNat 0), .int .u64 (.ofNat 0), .int .u64 (.ofNat 0), .int .u64 (.ofNat 0), .int .u64 (.ofNat 0), .int .u64 (.ofNat 0), .int .u64 (.ofNat 0), .int .u64 (.ofNat 0), .int .u64 (.ofNat 0), .int .u64 (.ofNat 0), .int .u64 (.ofNat 0), .int .u64 (.ofNat 0), .int .u64 (.ofNat 0), .int .u64 (.ofNat 0), .bool false, .nilsl, .nilsl, .int .i64 (.ofNat 0)]⟩
theorem ok120 : TIOK Tryz.prog 120 t120 := tiok u120.2 (by kernel_rfl)
noncomputable def u122 : { d // Tryz.prog.underlying 122 = some d } := ⟨_, Tryz.underlying122⟩
noncomputable def t122 : TI := ⟨u122.1, 38, 360, .agg [.nilptr, .int .i64 (.ofNat 0), .int .u64 (.ofNat 0), .int .u64 (.ofNat 0), .int .i64 (.ofNat 0), .niliface, .nilfunc, .int .u64 (.ofNat 0), .int .i64 (.ofNat 0), .int .u64 (.ofNat 0), .int .u64 (.ofNat 0), .int .u64 (.ofNat 0), .int .u64 (.ofNat 0), .int .u64 (.ofNat 0), .int .u64 (.ofNat 0), .int .u64 (.ofNat 0), .int .u64 (.ofNat 0), .int .u64 (.ofNat 0), .int .u64 (.ofNat 0), .int .u64 (.ofNat 0), .int .u64 (.ofNat 0), .int .u64 (.ofNat 0), .int .u64 (.ofNat 0), .int .u64 (.ofNat 0), .int .u64 (.ofNat 0), .int .u64 (.ofNat 0), .int .u64 (.ofNat 0), .int .u64 (.ofNat 0), .int .u64 (.ofNat 0), .int .u64 (.ofNat 0), .bool false, .nilsl, .nilsl, .int .i64 (.ofNat 0), .nilsl, .int .i64 (.ofNat 0), .bool false, .int .i64 (.ofNat 0)]⟩
theorem ok122 : TIOK Tryz.prog 122 t122 := tiok u122.2 (by kernel_rfl)
noncomputable def u125 : { d // Tryz.prog.underlying 125 = some d } := ⟨_, Tryz.underlying125⟩
noncomputable def t125 : TI := ⟨u125.1, 4, 48, .agg [.nilptr, .nilptr, .nilptr, .nilsl]⟩
theorem ok125 : TIOK Tryz.prog 125 t125 := tiok u125.2 (by kernel_rfl)
noncomputable def u127 : { d // Tryz.prog.underlying 127 = some d } := ⟨_, Tryz.underlying127⟩
noncomputable def t127 : TI := ⟨u127.1, 4, 32, .agg [.int .u64 (.ofNat 0), .int .u64 (.ofNat 0), .int .u64 (.ofNat 0), .int .u64 (.ofNat 0)]⟩
theorem ok127 : TIOK Tryz.prog 127 t127 := tiok u127.2 (by kernel_rfl)
noncomputable def u129 : { d // Tryz.prog.underlying 129 = some d } := ⟨_, Tryz.underlying129⟩
noncomputable def t129 : TI := ⟨u129.1, 1, 8, .nilptr⟩
theorem ok129 : TIOK Tryz.prog 129 t129 := tiok u129.2 (by kernel_rfl)
noncomputable def u130 : { d // Tryz.prog.underlying 130 = some d } := ⟨_, Tryz.underlying130⟩
noncomputable def t130 : TI := ⟨u130.1, 1, 24, .nilsl⟩
theorem ok130 : TIOK Tryz.prog 130 t130 := tiok u130.2 (by kernel_rfl)
noncomputable def u131 : { d // Tryz.prog.underlying 131 = some d } := ⟨_, Tryz.underlying131⟩
noncomputable def t131 : TI := ⟨u131.1, 1, 24, .nilsl⟩
theorem ok131 : TIOK Tryz.prog 131 t131 := tiok u131.2 (by kernel_rfl)
noncomputable def u132 : { d // Tryz.prog.underlying 132 = some d } := ⟨_, Tryz.underlying132⟩
noncomputable def t132 : TI := ⟨u132.1, 1, 16, .niliface⟩
theorem ok132 : TIOK Tryz.prog 132 t132 := tiok u132.2 (by kernel_rfl)
noncomputable def u134 : { d // Tryz.prog.underlying 134 = some d } := ⟨_, Tryz.underlying134⟩
noncomputable def t134 : TI := ⟨u134.1, 53, 456, .agg [.nilptr, .int .i64 (.ofNat 0), .nilptr, .int .u64 (.ofNat 0), .int .u64 (.ofNat 0), .int .i64 (.ofNat 0), .int .u64 (.ofNat 0), .int .u64 (.ofNat 0), .int .u64 (.ofNat 0), .int .u64 (.ofNat 0), .int .u64 (.ofNat 0), .int .u64 (.ofNat 0), .int .u64 (.ofNat 0), .int .u64 (.ofNat 0), .int .u64 (.ofNat 0), .int .u64 (.ofNat 0), .int .u64 (.ofNat 0), .int .u64 (.ofNat 0), .int .u64 (.ofNat 0), .int .u64 (.ofNat 0), .int .u64 (.ofNat 0), .int .u64 (.ofNat 0), .int .u64 (.ofNat 0), .int .u64 (.ofNat 0), .int .u64 (.ofNat 0), .int .u64 (.ofNat 0), .int .i64 (.ofNat 0), .int .u64 (.ofNat 0), .int .u64 (.ofNat 0), .int .u64 (.ofNat 0), .int .u64 (.ofNat 0), .int .u64 (.ofNat 0), .int .u64 (.ofNat 0), .int .u64 (.ofNat 0), .int .u64 (.ofNat 0), .int .u64 (.ofNat 0), .int .u64 (.ofNat 0), .int .u64 (.ofNat 0), .int .u64 (.ofNat 0), .int .u64 (.ofNat 0), .int .u64 (.ofNat 0), .int .u64 (.ofNat 0), .int .u64 (.ofNat 0), .int .u64 (.ofNat 0), .int .u64 (.ofNat 0), .int .u64 (.ofNat 0), .int .u64 (.ofNat 0), .nilsl, .nilsl, .niliface, .bool false, .bool false, .int .i64 (.ofNat 0)]⟩
theorem ok134 : TIOK Tryz.prog 134 t134 := tiok u134.2 (by kernel_rfl)
noncomputable def u138 : { d // Tryz.prog.underlying 138 = some d } := ⟨_, Tryz.underlying138⟩
noncomputable def t138 : TI := ⟨u138.1, 1, 8, .nilptr⟩
theorem ok138 : TIOK Tryz.prog 138 t138 := tiok u138.2 (by kernel_rfl)
noncomputable def u140 : { d // Tryz.prog.underlying 140 = some d } := ⟨_, Tryz.underlying140⟩
noncomputable def t140 : TI := ⟨u140.1, 9, 120, .agg [.nilptr, .nilptr, .nilptr, .nilfunc, .nilsl, .nilsl, .nilsl, .bool false, .int .i64 (.ofNat 0)]⟩
theorem ok140 : TIOK Tryz.prog 140 t140 := tiok u140.2 (by kernel_rfl)
noncomputable def u142 : { d // Tryz.prog.underlying 142 = some d } := ⟨_, Tryz.underlying142⟩
noncomputable def t142 : TI := ⟨u142.1, 8, 8, .agg [.int .u8 (.ofNat 0), .int .u8 (.ofNat 0), .int .u8 (.ofNat 0), .int .u8 (.ofNat 0), .int .u8 (.ofNat 0), .int .u8 (.ofNat 0), .int .u8 (.ofNat 0), .int .u8 (.ofNat 0)]⟩
theorem ok142 : TIOK Tryz.prog 142 t142 := tiok u142.2 (by kernel_rfl)
noncomputable def u145 : { d // Tryz.prog.underlying 145 = some d } := ⟨_, Tryz.underlying145⟩
noncomputable def t145 : TI := ⟨u145.1, 1, 8, .nilptr⟩
theorem ok145 : TIOK Tryz.prog 145 t145 := tiok u145.2 (by kernel_rfl)
noncomputable def u147 : { d // Tryz.prog.underlying 147 = some d } := ⟨_, Tryz.underlying147⟩
noncomputable def t147 : TI := ⟨u147.1, 1, 24, .nilsl⟩
theorem ok147 : TIOK Tryz.prog 147 t147 := tiok u147.2 (by kernel_rfl)
noncomputable def u148 : { d // Tryz.prog.underlying 148 = some d } := ⟨_, Tryz.underlying148⟩
noncomputable def t148 : TI := ⟨u148.1, 1, 8, .nilmap⟩
theorem ok148 : TIOK Tryz.prog 148 t148 := tiok u148.2 (by kernel_rfl)
noncomputable def u149 : { d // Tryz.prog.underlying 149 = some d } := ⟨_, Tryz.underlying149⟩
noncomputable def t149 : TI := ⟨u149.1, 1, 24, .nilsl⟩
theorem ok149 : TIOK Tryz.prog 149 t149 := tiok u149.2 (by kernel_rfl)
noncomputable def u151 : { d // Tryz.prog.underlying 151 = some d } := ⟨_, Tryz.underlying151⟩
noncomputable def t151 : TI := ⟨u151.1, 6, 112, .agg [.nilsl, .nilsl, .int .u64 (.ofNat 0), .nilmap, .nilsl, .nilsl]⟩
theorem ok151 : TIOK Tryz.prog 151 t151 := tiok u151.2 (by kernel_rfl)
noncomputable def u154 : { d // Tryz.prog.underlying 154 = some d } := ⟨_, Tryz.underlying154⟩
noncomputable def t154 : TI := ⟨u154.1, 1, 8, .nilfunc⟩
theorem ok154 : TIOK Tryz.prog 154 t154 := tiok u154.2 (by kernel_rfl)
noncomputable def u156 : { d // Tryz.prog.underlying 156 = some d } := ⟨_, Tryz.underlying156⟩
noncomputable def t156 : TI := ⟨u156.1, 0, 0, .agg []⟩
theorem ok156 : TIOK Tryz.prog 156 t156 := tiok u156.2 (by kernel_rfl)
noncomputable def u157 : { d // Tryz.prog.underlying 157 = some d } := ⟨_, Tryz.underlying157⟩
noncomputable def t157 : TI := ⟨u157.1, 1, 24, .nilsl⟩
theorem ok157 : TIOK Tryz.prog 157 t157 := tiok u157.2 (by kernel_rfl)
noncomputable def u158 : { d // Tryz.prog.underlying 158 = some d } := ⟨_, Tryz.underlying158⟩
noncomputable def t158 : TI := ⟨u158.1, 1, 8, .nilfunc⟩
theorem ok158 : TIOK Tryz.prog 158 t158 := tiok u158.2 (by kernel_rfl)
noncomputable def u160 : { d // Tryz.prog.underlying 160 = some d } := ⟨_, Tryz.underlying160⟩
noncomputable def t160 : TI := ⟨u160.1, 2, 16, .agg [.int .i64 (.ofNat 0), .int .u64 (.ofNat 0)]⟩
theorem ok160 : TIOK Tryz.prog 160 t160 := tiok u160.2 (by kernel_rfl)
noncomputable def u167 : { d // Tryz.prog.underlying 167 = some d } := ⟨_, Tryz.underlying167⟩
noncomputable def t167 : TI := ⟨u167.1, 1, 8, .nilfunc⟩
theorem ok167 : TIOK Tryz.prog 167 t167 := tiok u167.2 (by kernel_rfl)
noncomputable def u176 : { d // Tryz.prog.underlying 176 = some d } := ⟨_, Tryz.underlying176⟩
noncomputable def t176 : TI := ⟨u176.1, 2, 16, .agg [.int .i64 (.ofNat 0), .int .u64 (.ofNat 0)]⟩
theorem ok176 : TIOK Tryz.prog 176 t176 := tiok u176.2 (by kernel_rfl)
noncomputable def u181 : { d // Tryz.prog.underlying 181 = some d } := ⟨_, Tryz.underlying181⟩
noncomputable def t181 : TI := ⟨u181.1, 1, 8, .nilfunc⟩
theorem ok181 : TIOK Tryz.prog 181 t181 := tiok u181.2 (by kernel_rfl)
noncomputable def u192 : { d // Tryz.prog.underlying 192 = some d } := ⟨_, Tryz.underlying192⟩
noncomputable def t192 : TI := ⟨u192.1, 1, 8, .nilptr⟩
theorem ok192 : TIOK Tryz.prog 192 t192 := tiok u192.2 (by kernel_rfl)
noncomputable def u197 : { d // Tryz.prog.underlying 197 = some d } := ⟨_, Tryz.underlying197⟩
noncomputable def t197 : TI := ⟨u197.1, 1, 8, .nilptr⟩
theorem ok197 : TIOK Tryz.prog 197 t197 := tiok u197.2 (by kernel_rfl)
noncomputable def u20 : { d // Tryz.prog.underlying 20 = some d } := ⟨_, Tryz.underlying20⟩
noncomputable def t20 : TI := ⟨u20.1, 1, 16, .niliface⟩
theorem ok20 : TIOK Tryz.prog 20 t20 := tiok u20.2 (by kernel_rfl)
noncomputable def u200 : { d // Tryz.prog.underlying 200 = some d } := ⟨_, Tryz.underlying200⟩
noncomputable def t200 : TI := ⟨u200.1, 4, 48, .agg [.nilptr, .nilptr, .nilptr, .nilsl]⟩
theorem ok200 : TIOK Tryz.prog 200 t200 := tiok u200.2 (by kernel_rfl)
noncomputable def u206 : { d // Tryz.prog.underlying 206 = some d } := ⟨_, Tryz.underlying206⟩
noncomputable def t206 : TI := ⟨u206.1, 2, 24, .agg [.int .u64 (.ofNat 0), .str ⟨#[]⟩]⟩
theorem ok206 : TIOK Tryz.prog 206 t206 := tiok u206.2 (by kernel_rfl)
noncomputable def u209 : { d // Tryz.prog.underlying 209 = some d } := ⟨_, Tryz.underlying209⟩
noncomputable def t209 : TI := ⟨u209.1, 1, 8, .nilmap⟩
theorem ok209 : TIOK Tryz.prog 209 t209 := tiok u209.2 (by kernel_rfl)
noncomputable def u211 : { d // Tryz.prog.underlying 211 = some d } := ⟨_, Tryz.underlying211⟩
noncomputable def t211 : TI := ⟨u211.1, 7, 88, .agg [.nilsl, .nilsl, .nilmap, .int .u64 (.ofNat 0), .int .u64 (.ofNat 0), .int .u64 (.ofNat 0), .int .u64 (.ofNat 0)]⟩
theorem ok211 : TIOK Tryz.prog 211 t211 := tiok u211.2 (by kernel_rfl)
noncomputable def u214 : { d // Tryz.prog.underlying 214 = some d } := ⟨_, Tryz.underlying214⟩
noncomputable def t214 : TI := ⟨u214.1, 1, 8, .nilfunc⟩
theorem ok214 : TIOK Tryz.prog 214 t214 := tiok u214.2 (by kernel_rfl)
noncomputable def u219 : { d // Tryz.prog.underlying 219 = some d } := ⟨_, Tryz.underlying219⟩
noncomputable def t219 : TI := ⟨u219.1, 6, 64, .agg [.int .i64 (.ofNat 0), .nilsl, .int .i64 (.ofNat 0), .int .i64 (.ofNat 0), .int .i64 (.ofNat 0), .int .i64 (.ofNat 0)]⟩
theorem ok219 : TIOK Tryz.prog 219 t219 := tiok u219.2 (by kernel_rfl)
noncomputable def u22 : { d // Tryz.prog.underlying 22 = some d } := ⟨_, Tryz.underlying22⟩
noncomputable def t22 : TI := ⟨u22.1, 1, 24, .nilsl⟩
theorem ok22 : TIOK Tryz.prog 22 t22 := tiok u22.2 (by kernel_rfl)
noncomputable def u23 : { d // Tryz.prog.underlying 23 = some d } := ⟨_, Tryz.underlying23⟩
noncomputable def t23 : TI := ⟨u23.1, 1, 24, .nilsl⟩
theorem ok23 : TIOK Tryz.prog 23 t23 := tiok u23.2 (by kernel_rfl)
noncomputable def u231 : { d // Tryz.prog.underlying 231 = some d } := ⟨_, Tryz.underlying231⟩
noncomputable def t231 : TI := ⟨u231.1, 24, 192, .agg [.int .i64 (.ofNat 0), .int .u64 (.ofNat 0), .int .u64 (.ofNat 0), .int .u64 (.ofNat 0), .int .u64 (.ofNat 0), .int .u64 (.ofNat 0), .int .u64 (.ofNat 0), .int .u64 (.ofNat 0), .int .u64 (.ofNat 0), .int .u64 (.ofNat 0), .int .u64 (.ofNat 0), .int .u64 (.ofNat 0), .int .u64 (.ofNat 0), .int .u64 (.ofNat 0), .int .u64 (.ofNat 0), .int .u64 (.ofNat 0), .int .u64 (.ofNat 0), .int .u64 (.ofNat 0), .int .u64 (.ofNat 0), .int .u64 (.ofNat 0), .int .u64 (.ofNat 0), .int .u64 (.ofNat 0), .int .u64 (.ofNat 0), .bool false]⟩
theorem ok231 : TIOK Tryz.prog 231 t231 := tiok u231.2 (by kernel_rfl)
noncomputable def u239 : { d // Tryz.prog.underlying 239 = some d } := ⟨_, Tryz.underlying239⟩
noncomputable def t239 : TI := ⟨u239.1, 1, 24, .nilsl⟩
theorem ok239 : TIOK Tryz.prog 239 t239 := tiok u239.2 (by kernel_rfl)
noncomputable def u241 : { d // Tryz.prog.underlying 241 = some d } := ⟨_, Tryz.underlying241⟩
noncomputable def t241 : TI := ⟨u241.1, 1, 24, .agg [.nilsl]⟩
theorem ok241 : TIOK Tryz.prog 241 t241 := tiok u241.2 (by kernel_rfl)
noncomputable def u242 : { d // Tryz.prog.underlying 242 = some d } := ⟨_, Tryz.underlying242⟩
noncomputable def t242 : TI := ⟨u242.1, 4, 32, .agg [.int .i64 (.ofNat 0), .int .i64 (.ofNat 0), .int .i64 (.ofNat 0), .int .i64 (.ofNat 0)]⟩
theorem ok242 : TIOK Tryz.prog 242 t242 := tiok u242.2 (by kernel_rfl)
noncomputable def u245 : { d // Tryz.prog.underlying 245 = some d } := ⟨_, Tryz.underlying245⟩
noncomputable def t245 : TI := ⟨u245.1, 1, 8, .nilptr⟩
theorem ok245 : TIOK Tryz.prog 245 t245 := tiok u245.2 (by kernel_rfl)
noncomputable def u249 : { d // Tryz.prog.underlying 249 = some d } := ⟨_, Tryz.underlying249⟩
noncomputable def t249 : TI := ⟨u249.1, 1, 8, .int .u64 (.ofNat 0)⟩
theorem ok249 : TIOK Tryz.prog 249 t249 := tiok u249.2 (by kernel_rfl)
noncomputable def u254 : { d // Tryz.prog.underlying 254 = some d } := ⟨_, Tryz.underlying254⟩
noncomputable def t254 : TI := ⟨u254.1, 3, 24, .agg [.nilptr, .nilptr, .nilptr]⟩
theorem ok254 : TIOK Tryz.prog 254 t254 := tiok u254.2 (by kernel_rfl)
noncomputable def u258 : { d // Tryz.prog.underlying 258 = some d } := ⟨_, Tryz.underlying258⟩
noncomputable def t258 : TI := ⟨u258.1, 2, 16, .agg [.int .u64 (.ofNat 0), .int .u64 (.ofNat 0)]⟩
theorem ok258 : TIOK Tryz.prog 258 t258 := tiok u258.2 (by kernel_rfl)
noncomputable def u26 : { d // Tryz.prog.underlying 26 = some d } := ⟨_, Tryz.underlying26⟩
noncomputable def t26 : TI := ⟨u26.1, 1, 8, .int .u64 (.ofNat 0)⟩
theorem ok26 : TIOK Tryz.prog 26 t26 := tiok u26.2 (by kernel_rfl)
noncomputable def u263 : { d // Tryz.prog.underlying 263 = some d } := ⟨_, Tryz.underlying263⟩
noncomputable def t263 : TI := ⟨u263.1, 2, 16, .agg [.int .u64 (.ofNat 0), .int .u64 (.ofNat 0)]⟩
theorem ok263 : TIOK Tryz.prog 263 t263 := tiok u263.2 (by kernel_rfl)
noncomputable def u264 : { d // Tryz.prog.underlying 264 = some d } := ⟨_, Tryz.underlying264⟩
noncomputable def t264 : TI := ⟨u264.1, 64, 512, .agg [.int .u64 (.ofNat 0), .int .u64 (.ofNat 0), .int .u64 (.ofNat 0), .int .u64 (.ofNat 0), .int .u64 (.ofNat 0), .int .u64 (.ofNat 0), .int .u64 (.ofNat 0), .int .u64 (.ofNat 0), .int .u64 (.ofNat 0), .int .u64 (.ofNat 0), .int .u64 (.ofNat 0), .int .u64 (.ofNat 0), .int .u64 (.ofNat 0), .int .u64 (.ofNat 0), .int .u64 (.ofNat 0), .int .u64 (.ofNat 0), .int .u64 (.ofNat 0), .int .u64 (.ofNat 0), .int .u64 (.ofNat 0), .int .u64 (.ofNat 0), .int .u64 (.ofNat 0), .int .u64 (.ofNat 0), .int .u64 (.ofNat 0), .int .u64 (.ofNat 0), .int .u64 (.ofNat 0), .int .u64 (.ofNat 0), .int .u64 (.ofNat 0), .int .u64 (.ofNat 0), .int .u64 (.ofNat 0), .int .u64 (.ofNat 0), .int .u64 (.ofNat 0), .int .u64 (.ofNat 0), .int .u64 (.ofNat 0), .int .u64 (.ofNat 0), .int .u64 (.ofNat 0), .int .u64 (.ofNat 0), .int .u64 (.ofNat 0), .int .u64 (.ofNat 0), .int .u64 (.ofNat 0), .int .u64 (.ofNat 0), .int .u64 (.ofNat 0), .int .u64 (.ofNat 0), .int .u64 (.ofNat 0), .int .u64 (.ofNat 0), .int .u64 (.ofNat 0), .int .u64 (.ofNat 0), .int .u64 (.ofNat 0), .int .u64 (.ofNat 0), .int .u64 (.ofNat 0), .int .u64 (.ofNat 0), .int .u64 (.ofNat 0), .int .u64 (.ofNat 0), .int .u64 (.ofNat 0), .int .u64 (.ofNat 0), .int .u64 (.ofNat 0), .int .u64 (.ofNat 0), .int .u64 (.ofNat 0), .int .u64 (.ofNat 0), .int .u64 (.ofNat 0), .int .u64 (.ofNat 0), .int .u64 (.ofNat 0), .int .u64 (.ofNat 0), .int .u64 (.ofNat 0), .int .u64 (.ofNat 0)]⟩
theorem ok264 : TIOK Tryz.prog 264 t264 := tiok u264.2 (by kernel_rfl)
noncomputable def u266 : { d // Tryz.prog.underlying 266 = some d } := ⟨_, Tryz.underlying266⟩
noncomputable def t266 : TI := ⟨u266.1, 66, 528, .agg [.int .i64 (.ofNat 0), .nilmap, .int .u64 (.ofNat 0), .int .u64 (.ofNat 0), .int .u64 (.ofNat 0), .int .u64 (.ofNat 0), .int .u64 (.ofNat 0), .int .u64 (.ofNat 0), .int .u64 (.ofNat 0), .int .u64 (.ofNat 0), .int .u64 (.ofNat 0), .int .u64 (.ofNat 0), .int .u64 (.ofNat 0), .int .u64 (.ofNat 0), .int .u64 (.ofNat 0), .int .u64 (.ofNat 0), .int .u64 (.ofNat 0), .int .u64 (.ofNat 0), .int .u64 (.ofNat 0), .int .u64 (.ofNat 0), .int .u64 (.ofNat 0), .int .u64 (.ofNat 0), .int .u64 (.ofNat 0), .int .u64 (.ofNat 0), .int .u64 (.ofNat 0), .int .u64 (.ofNat 0), .int .u64 (.ofNat 0), .int .u64 (.ofNat 0), .int .u64 (.ofNat 0), .int .u64 (.ofNat 0), .int .u64 (.ofNat 0), .int .u64 (.ofNat 0), .int .u64 (.ofNat 0), .int .u64 (.ofNat 0), .int .u64 (.ofNat 0), .int .u64 (.ofNat 0), .int .u64 (.ofNat 0), .int .u64 (.ofNat 0), .int .u64 (.ofNat 0), .int .u64 (.ofNat 0), .int .u64 (.ofNat 0), .int .u64 (.ofNat 0), .int .u64 (.ofNat 0), .int .u64 (.ofNat 0), .int .u64 (.ofNat 0), .int .u64 (.ofNat 0), .int .u64 (.ofNat 0), .int .u64 (.ofNat 0), .int .u64 (.ofNat 0), .int .u64 (.ofNat 0), .int .u64 (.ofNat 0), .int .u64 (.ofNat 0), .int .u64 (.ofNat 0), .int .u64 (.ofNat 0), .int .u64 (.ofNat 0), .int .u64 (.ofNat 0), .int .u64 (.ofNat 0), .int .u64 (.ofNat 0), .int .u64 (.ofNat 0), .int .u64 (.ofNat 0), .int .u64 (.ofNat 0), .int .u64 (.ofNat 0), .int .u64 (.ofNat 0), .int .u64 (.ofNat 0), .int .u64 (.ofNat 0), .int .u64 (.ofNat 0)]⟩
theorem ok266 : TIOK Tryz.prog 266 t266 := tiok u266.2 (by kernel_rfl)
noncomputable def u267 : { d // Tryz.prog.underlying 267 = some d } := ⟨_, Tryz.underlying267⟩
noncomputable def t267 : TI := ⟨u267.1, 1, 8, .nilptr⟩
theorem ok267 : TIOK Tryz.prog 267 t267 := tiok u267.2 (by kernel_rfl)
noncomputable def u272 : { d // Tryz.prog.underlying 272 = some d } := ⟨_, Tryz.underlying272⟩
noncomputable def t272 : TI := ⟨u272.1, 4, 48, .agg [.int .i64 (.ofNat 0), .nilsl, .int .i64 (.ofNat 0), .int .i64 (.ofNat 0)]⟩
theorem ok272 : TIOK Tryz.prog 272 t272 := tiok u272.2 (by kernel_rfl)
noncomputable def u28 : { d // Tryz.prog.underlying 28 = some d } := ⟨_, Tryz.underlying28⟩
noncomputable def t28 : TI := ⟨u28.1, 1, 24, .nilsl⟩
theorem ok28 : TIOK Tryz.prog 28 t28 := tiok u28.2 (by kernel_rfl)
noncomputable def u282 : { d // Tryz.prog.underlying 282 = some d } := ⟨_, Tryz.underlying282⟩
noncomputable def t282 : TI := ⟨u282.1, 24, 192, .agg [.int .u64 (.ofNat 0), .int .u64 (.ofNat 0), .int .u64 (.ofNat 0), .int .u64 (.ofNat 0), .int .u64 (.ofNat 0), .int .u64 (.ofNat 0), .int .u64 (.ofNat 0), .int .u64 (.ofNat 0), .int .u64 (.ofNat 0), .int .u64 (.ofNat 0), .int .u64 (.ofNat 0), .int .u64 (.ofNat 0), .int .u64 (.ofNat 0), .int .u64 (.ofNat 0), .int .u64 (.ofNat 0), .int .u64 (.ofNat 0), .int .u64 (.ofNat 0), .int .u64 (.ofNat 0), .int .u64 (.ofNat 0), .int .u64 (.ofNat 0), .int .u64 (.ofNat 0), .int .u64 (.ofNat 0), .int .u64 (.ofNat 0), .int .u64 (.ofNat 0)]⟩
theorem ok282 : TIOK Tryz.prog 282 t282 := tiok u282.2 (by kernel_rfl)
noncomputable def u29 : { d // Tryz.prog.underlying 29 = some d } := ⟨_, Tryz.underlying29⟩
noncomputable def t29 : TI := ⟨u29.1, 1, 24, .nilsl⟩
theorem ok29 : TIOK Tryz.prog 29 t29 := tiok u29.2 (by kernel_rfl)
noncomputable def u297 : { d // Tryz.prog.underlying 297 = some d } := ⟨_, Tryz.underlying297⟩
noncomputable def t297 : TI := ⟨u297.1, 2, 16, .agg [.int .u64 (.ofNat 0), .int .u64 (.ofNat 0)]⟩
theorem ok297 : TIOK Tryz.prog 297 t297 := tiok u297.2 (by kernel_rfl)
noncomputable def u3 : { d // Tryz.prog.underlying 3 = some d } := ⟨_, Tryz.underlying3⟩
noncomputable def t3 : TI := ⟨u3.1, 1, 8, .int .i64 (.ofNat 0)⟩
theorem ok3 : TIOK Tryz.prog 3 t3 := tiok u3.2 (by kernel_rfl)
noncomputable def u31 : { d // Tryz.prog.underlying 31 = some d } := ⟨_, Tryz.underlying31⟩
noncomputable def t31 : TI := ⟨u31.1, 6, 112, .agg [.nilsl, .nilsl, .nilsl, .nilsl, .int .i64 (.ofNat 0), .int .i64 (.ofNat 0)]⟩
theorem ok31 : TIOK Tryz.prog 31 t31 := tiok u31.2 (by kernel_rfl)
noncomputable def u319 : { d // Tryz.prog.underlying 319 = some d } := ⟨_, Tryz.underlying319⟩
noncomputable def t319 : TI := ⟨u319.1, 1, 16, .niliface⟩
theorem ok319 : TIOK Tryz.prog 319 t319 := tiok u319.2 (by kernel_rfl)
noncomputable def u32 : { d // Tryz.prog.underlying 32 = some d } := ⟨_, Tryz.underlying32⟩
noncomputable def t32 : TI := ⟨u32.1, 1, 8, .int .i64 (.ofNat 0)⟩
theorem ok32 : TIOK Tryz.prog 32 t32 := tiok u32.2 (by kernel_rfl)
noncomputable def u325 : { d // Tryz.prog.underlying 325 = some d } := ⟨_, Tryz.underlying325⟩
noncomputable def t325 : TI := ⟨u325.1, 1, 8, .int .i64 (.ofNat 0)⟩
theorem ok325 : TIOK Tryz.prog 325 t325 := tiok u325.2 (by kernel_rfl)
noncomputable def u333 : { d // Tryz.prog.underlying 333 = some d } := ⟨_, Tryz.underlying333⟩
noncomputable def t333 : TI := ⟨u333.1, 1, 4, .int .u32 (.ofNat 0)⟩
theorem ok333 : TIOK Tryz.prog 333 t333 := tiok u333.2 (by kernel_rfl)
noncomputable def u338 : { d // Tryz.prog.underlying 338 = some d } := ⟨_, Tryz.underlying338⟩
noncomputable def t338 : TI := ⟨u338.1, 24, 192, .agg [.int .u64 (.ofNat 0), .int .i64 (.ofNat 0), .int .u64 (.ofNat 0), .int .u64 (.ofNat 0), .int .u64 (.ofNat 0), .int .u64 (.ofNat 0), .int .u64 (.ofNat 0), .int .u64 (.ofNat 0), .int .u64 (.ofNat 0), .int .u64 (.ofNat 0), .int .u64 (.ofNat 0), .int .u64 (.ofNat 0), .int .u64 (.ofNat 0), .int .u64 (.ofNat 0), .int .u64 (.ofNat 0), .int .u64 (.ofNat 0), .int .u64 (.ofNat 0), .int .u64 (.ofNat 0), .int .u64 (.ofNat 0), .int .u64 (.ofNat 0), .int .u64 (.ofNat 0), .int .u64 (.ofNat 0), .int .u64 (.ofNat 0), .bool false]⟩
theorem ok338 : TIOK Tryz.prog 338 t338 := tiok u338.2 (by kernel_rfl)
noncomputable def u339 : { d // Tryz.prog.underlying 339 = some d } := ⟨_, Tryz.underlying339⟩
noncomputable def t339 : TI := ⟨u339.1, 1, 16, .niliface⟩
theorem ok339 : TIOK Tryz.prog 339 t339 := tiok u339.2 (by kernel_rfl)
noncomputable def u341 : { d // Tryz.prog.underlying 341 = some d } := ⟨_, Tryz.underlying341⟩
noncomputable def t341 : TI := ⟨u341.1, 34, 280, .agg [.nilptr, .int .i64 (.ofNat 0), .int .u64 (.ofNat 0), .int .i64 (.ofNat 0), .int .u64 (.ofNat 0), .int .i64 (.ofNat 0), .int .u64 (.ofNat 0), .int .u64 (.ofNat 0), .int .u64 (.ofNat 0), .int .u64 (.ofNat 0), .int .u64 (.ofNat 0), .int .u64 (.ofNat 0), .int .u64 (.ofNat 0), .int .u64 (.ofNat 0), .int .u64 (.ofNat 0), .int .u64 (.ofNat 0), .int .u64 (.ofNat 0), .int .u64 (.ofNat 0), .int .u64 (.ofNat 0), .int .u64 (.ofNat 0), .int .u64 (.ofNat 0), .int .u64 (.ofNat 0), .int .u64 (.ofNat 0), .int .u64 (.ofNat 0), .int .u64 (.ofNat 0), .int .u64 (.ofNat 0), .int .u64 (.ofNat 0), .bool false, .int .u64 (.ofNat 0), .int .u64 (.ofNat 0), .niliface, .nilfunc, .bool false, .int .i64 (.ofNat 0)]⟩
theorem ok341 : TIOK Tryz.prog 341 t341 := tiok u341.2 (by kernel_rfl)
noncomputable def u344 : { d // Tryz.prog.underlying 344 = some d } := ⟨_, Tryz.underlying344⟩
noncomputable def t344 : TI := ⟨u344.1, 1, 8, .nilptr⟩
theorem ok344 : TIOK Tryz.prog 344 t344 := tiok u344.2 (by kernel_rfl)
noncomputable def u351 : { d // Tryz.prog.underlying 351 = some d } := ⟨_, Tryz.underlying351⟩
noncomputable def t351 : TI := ⟨u351.1, 1, 8, .nilfunc⟩
theorem ok351 : TIOK Tryz.prog 351 t351 := tiok u351.2 (by kernel_rfl)
noncomputable def u359 : { d // Tryz.prog.underlying 359 = some d } := ⟨_, Tryz.underlying359⟩
noncomputable def t359 : TI := ⟨u359.1, 7, 72, .agg [.nilptr, .int .i64 (.ofNat 0), .nilsl, .int .i64 (.ofNat 0), .nilfunc, .bool false, .int .i64 (.ofNat 0)]⟩
theorem ok359 : TIOK Tryz.prog 359 t359 := tiok u359.2 (by kernel_rfl)
noncomputable def u36 : { d // Tryz.prog.underlying 36 = some d } := ⟨_, Tryz.underlying36⟩
noncomputable def t36 : TI := ⟨u36.1, 1, 8, .nilptr⟩
theorem ok36 : TIOK Tryz.prog 36 t36 := tiok u36.2 (by kernel_rfl)
noncomputable def u361 : { d // Tryz.prog.underlying 361 = some d } := ⟨_, Tryz.underlying361⟩
noncomputable def t361 : TI := ⟨u361.1, 1, 8, .nilptr⟩
theorem ok361 : TIOK Tryz.prog 361 t361 := tiok u361.2 (by kernel_rfl)
noncomputable def u366 : { d // Tryz.prog.underlying 366 = some d } := ⟨_, Tryz.underlying366⟩
noncomputable def t366 : TI := ⟨u366.1, 1, 8, .nilfunc⟩
theorem ok366 : TIOK Tryz.prog 366 t366 := tiok u366.2 (by kernel_rfl)
noncomputable def u376 : { d // Tryz.prog.underlying 376 = some d } := ⟨_, Tryz.underlying376⟩
noncomputable def t376 : TI := ⟨u376.1, 65, 520, .agg [.int .i64 (.ofNat 0), .int .i64 (.ofNat 0), .int .i64 (.ofNat 0), .int .i64 (.ofNat 0), .int .i64 (.ofNat 0), .int .i64 (.ofNat 0), .int .i64 (.ofNat 0), .int .i64 (.ofNat 0), .int .i64 (.ofNat 0), .int .i64 (.ofNat 0), .int .i64 (.ofNat 0), .int .i64 (.ofNat 0), .int .i64 (.ofNat 0), .int .i64 (.ofNat 0), .int .i64 (.ofNat 0), .int .i64 (.ofNat 0), .int .i64 (.ofNat 0), .int .i64 (.ofNat 0), .int .i64 (.ofNat 0), .int .i64 (.ofNat 0), .int .i64 (.ofNat 0), .int .i64 (.ofNat 0), .int .i64 (.ofNat 0), .int .i64 (.ofNat 0), .int .i64 (.ofNat 0), .int .i64 (.ofNat 0), .int .i64 (.ofNat 0), .int .i64 (.ofNat 0), .int .i64 (.ofNat 0), .int .i64 (.ofNat 0), .int .i64 (.ofNat 0), .int .i64 (.ofNat 0), .int .i64 (.ofNat 0), .int .i64 (.ofNat 0), .int .i64 (.ofNat 0), .int .i64 (.ofNat 0), .int .i64 (.ofNat 0), .int .i64 (.ofNat 0), .int .i64 (.ofNat 0), .int .i64 (.ofNat 0), .int .i64 (.ofNat 0), .int .i64 (.ofNat 0), .int .i64 (.ofNat 0), .int .i64 (.ofNat 0), .int .i64 (.ofNat 0), .int .i64 (.ofNat 0), .int .i64 (.ofNat 0), .int .i64 (.ofNat 0), .int .i64 (.ofNat 0), .int .i64 (.ofNat 0), .int .i64 (.ofNat 0), .int .i64 (.ofNat 0), .int .i64 (.ofNat 0), .int .i64 (.ofNat 0), .int .i64 (.ofNat 0), .int .i64 (.ofNat 0), .int .i64 (.ofNat 0), .int .i64 (.ofNat 0), .int .i64 (.ofNat 0), .int .i64 (.ofNat 0), .int .i64 (.ofNat 0), .int .i64 (.ofNat 0), .int .i64 (.ofNat 0), .int .i64 (.ofNat 0), .int .i64 (.ofNat 0)]⟩
theorem ok376 : TIOK Tryz.prog 376 t376 := tiok u376.2 (by kernel_rfl)
noncomputable def u378 : { d // Tryz.prog.underlying 378 = some d } := ⟨_, Tryz.underlying378⟩
noncomputable def t378 : TI := ⟨u378.1, 66, 544, .agg [.nilsl, .int .i64 (.ofNat 0), .int .i64 (.ofNat 0), .int .i64 (.ofNat 0), .int .i64 (.ofNat 0), .int .i64 (.ofNat 0), .int .i64 (.ofNat 0), .int .i64 (.ofNat 0), .int .i64 (.ofNat 0), .int .i64 (.ofNat 0), .int .i64 (.ofNat 0), .int .i64 (.ofNat 0), .int .i64 (.ofNat 0), .int .i64 (.ofNat 0), .int .i64 (.ofNat 0), .int .i64 (.ofNat 0), .int .i64 (.ofNat 0), .int .i64 (.ofNat 0), .int .i64 (.ofNat 0), .int .i64 (.ofNat 0), .int .i64 (.ofNat 0), .int .i64 (.ofNat 0), .int .i64 (.ofNat 0), .int .i64 (.ofNat 0), .int .i64 (.ofNat 0), .int .i64 (.ofNat 0), .int .i64 (.ofNat 0), .int .i64 (.ofNat 0), .int .i64 (.ofNat 0), .int .i64 (.ofNat 0), .int .i64 (.ofNat 0), .int .i64 (.ofNat 0), .int .i64 (.ofNat 0), .int .i64 (.ofNat 0), .int .i64 (.ofNat 0), .int .i64 (.ofNat 0), .int .i64 (.ofNat 0), .int .i64 (.ofNat 0), .int .i64 (.ofNat 0), .int .i64 (.ofNat 0), .int .i64 (.ofNat 0), .int .i64 (.ofNat 0), .int .i64 (.ofNat 0), .int .i64 (.ofNat 0), .int .i64 (.ofNat 0), .int .i64 (.ofNat 0), .int .i64 (.ofNat 0), .int .i64 (.ofNat 0), .int .i64 (.ofNat 0), .int .i64 (.ofNat 0), .int .i64 (.ofNat 0), .int .i64 (.ofNat 0), .int .i64 (.ofNat 0), .int .i64 (.ofNat 0), .int .i64 (.ofNat 0), .int .i64 (.ofNat 0), .int .i64 (.ofNat 0), .int .i64 (.ofNat 0), .int .i64 (.ofNat 0), .int .i64 (.ofNat 0), .int .i64 (.ofNat 0), .int .i64 (.ofNat 0), .int .i64 (.ofNat 0), .int .i64 (.ofNat 0), .int .i64 (.ofNat 0), .int .i64 (.ofNat 0)]⟩
theorem ok378 : TIOK Tryz.prog 378 t378 := tiok u378.2 (by kernel_rfl)
noncomputable def u387 : { d // Tryz.prog.underlying 387 = some d } := ⟨_, Tryz.underlying387⟩
noncomputable def t387 : TI := ⟨u387.1, 78, 624, .agg [.nilptr, .int .u64 (.ofNat 0), .int .i64 (.ofNat 0), .bool false, .int .u64 (.ofNat 0), .int .u64 (.ofNat 0), .int .u64 (.ofNat 0), .int .u64 (.ofNat 0), .int .u64 (.ofNat 0), .int .u64 (.ofNat 0), .int .u64 (.ofNat 0), .int .u64 (.ofNat 0), .int .u64 (.ofNat 0), .int .u64 (.ofNat 0), .int .u64 (.ofNat 0), .int .u64 (.ofNat 0), .int .u64 (.ofNat 0), .int .u64 (.ofNat 0), .int .u64 (.ofNat 0), .int .u64 (.ofNat 0), .int .u64 (.ofNat 0), .int .u64 (.ofNat 0), .int .u64 (.ofNat 0), .int .u64 (.ofNat 0), .int .u64 (.ofNat 0), .int .u64 (.ofNat 0), .int .u64 (.ofNat 0), .int .u64 (.ofNat 0), .int .u64 (.ofNat 0), .int .u64 (.ofNat 0), .int .u64 (.ofNat 0), .int .u64 (.ofNat 0), .int .u64 (.ofNat 0), .int .u64 (.ofNat 0), .int .u64 (.ofNat 0), .int .u64 (.ofNat 0), .int .u64 (.ofNat 0), .int .u64 (.ofNat 0), .int .u64 (.ofNat 0), .int .u64 (.ofNat 0), .int .u64 (.ofNat 0), .int .u64 (.ofNat 0), .int .u64 (.ofNat 0), .int .u64 (.ofNat 0), .int .u64 (.ofNat 0), .int .u64 (.ofNat 0), .int .u64 (.ofNat 0), .int .u64 (.ofNat 0), .int .u64 (.ofNat 0), .int .u64 (.ofNat 0), .int .u64 (.ofNat 0), .int .u64 (.ofNat 0), .int .u64 (.ofNat 0), .bool false, .nilfunc, .bool false, .int .i64 (.ofNat 0), .int .i64 (.ofNat 0), .int .u64 (.ofNat 0), .int .u64 (.ofNat 0), .int .u64 (.ofNat 0), .int .u64 (.ofNat 0), .int .u64 (.ofNat 0), .int .u64 (.ofNat 0), .int .u64 (.ofNat 0), .int .u64 (.ofNat 0), .int .u64 (.ofNat 0), .int .u64 (.ofNat 0), .int .u64 (.ofNat 0), .int .u64 (.ofNat 0), .int .u64 (.ofNat 0), .int .u64 (.ofNat 0), .int .u64 (.ofNat 0), .int .u64 (.ofNat 0), .int .u64 (.ofNat 0), .int .u64 (.ofNat 0), .int .u64 (.ofNat 0), .int .u64 (.ofNat 0)]⟩
theorem ok387 : TIOK Tryz.prog 387 t387 := tiok u387.2 (by kernel_rfl)
noncomputable def u39 : { d // Tryz.prog.underlying 39 = some d } := ⟨_, Tryz.underlying39⟩
noncomputable def t39 : TI := ⟨u39.1, 1, 8, .nilptr⟩
theorem ok39 : TIOK Tryz.prog 39 t39 := tiok u39.2 (by kernel_rfl)
noncomputable def u395 : { d // Tryz.prog.underlying 395 = some d } := ⟨_, Tryz.underlying395⟩
noncomputable def t395 : TI := ⟨u395.1, 7, 80, .agg [.nilptr, .int .u64 (.ofNat 0), .nilfunc, .nilsl, .str ⟨#[]⟩, .bool false, .int .i64 (.ofNat 0)]⟩
theorem ok395 : TIOK Tryz.prog 395 t395 := tiok u395.2 (by kernel_rfl)
noncomputable def u396 : { d // Tryz.prog.underlying 396 = some d } := ⟨_, Tryz.underlying396⟩
noncomputable def t396 : TI := ⟨u396.1, 1, 8, .nilptr⟩
theorem ok396 : TIOK Tryz.prog 396 t396 := tiok u396.2 (by kernel_rfl)
noncomputable def u4 : { d // Tryz.prog.underlying 4 = some d } := ⟨_, Tryz.underlying4⟩
noncomputable def t4 : TI := ⟨u4.1, 1, 1, .bool false⟩
theorem ok4 : TIOK Tryz.prog 4 t4 := tiok u4.2 (by kernel_rfl)
noncomputable def u403 : { d // Tryz.prog.underlying 403 = some d } := ⟨_, Tryz.underlying403⟩
noncomputable def t403 : TI := ⟨u403.1, 23, 200, .agg [.int .u64 (.ofNat 0), .int .i64 (.ofNat 0), .int .u64 (.ofNat 0), .int .u64 (.ofNat 0), .int .u64 (.ofNat 0), .int .u64 (.ofNat 0), .int .u64 (.ofNat 0), .int .u64 (.ofNat 0), .int .u64 (.ofNat 0), .int .u64 (.ofNat 0), .int .u64 (.ofNat 0), .int .u64 (.ofNat 0), .int .u64 (.ofNat 0), .int .u64 (.ofNat 0), .int .u64 (.ofNat 0), .int .u64 (.ofNat 0), .int .u64 (.ofNat 0), .int .u64 (.ofNat 0), .int .u64 (.ofNat 0), .int .u64 (.ofNat 0), .int .u64 (.ofNat 0), .int .u64 (.ofNat 0), .nilsl]⟩
theorem ok403 : TIOK Tryz.prog 403 t403 := tiok u403.2 (by kernel_rfl)
noncomputable def u411 : { d // Tryz.prog.underlying 411 = some d } := ⟨_, Tryz.underlying411⟩
noncomputable def t411 : TI := ⟨u411.1, 6, 56, .agg [.nilptr, .int .i64 (.ofNat 0), .nilsl, .bool false, .bool false, .int .i64 (.ofNat 0)]⟩
theorem ok411 : TIOK Tryz.prog 411 t411 := tiok u411.2 (by kernel_rfl)
noncomputable def u413 : { d // Tryz.prog.underlying 413 = some d } := ⟨_, Tryz.underlying413⟩
noncomputable def t413 : TI := ⟨u413.1, 27, 208, .agg [.nilptr, .int .u64 (.ofNat 0), .int .i64 (.ofNat 0), .int .u64 (.ofNat 0), .int .u64 (.ofNat 0), .int .u64 (.ofNat 0), .int .u64 (.ofNat 0), .int .u64 (.ofNat 0), .int .u64 (.ofNat 0), .int .u64 (.ofNat 0), .int .u64 (.ofNat 0), .int .u64 (.ofNat 0), .int .u64 (.ofNat 0), .int .u64 (.ofNat 0), .int .u64 (.ofNat 0), .int .u64 (.ofNat 0), .int .u64 (.ofNat 0), .int .u64 (.ofNat 0), .int .u64 (.ofNat 0), .int .u64 (.ofNat 0), .int .u64 (.ofNat 0), .int .u64 (.ofNat 0), .int .u64 (.ofNat 0), .int .i64 (.ofNat 0), .bool false, .bool false, .int .i64 (.ofNat 0)]⟩
theorem ok413 : TIOK Tryz.prog 413 t413 := tiok u413.2 (by kernel_rfl)
noncomputable def u42 : { d // Tryz.prog.underlying 42 = some d } := ⟨_, Tryz.underlying42⟩
noncomputable def t42 : TI := ⟨u42.1, 1, 24, .nilsl⟩
theorem ok42 : TIOK Tryz.prog 42 t42 := tiok u42.2 (by kernel_rfl)
noncomputable def u43 : { d // Tryz.prog.underlying 43 = some d } := ⟨_, Tryz.underlying43⟩
noncomputable def t43 : TI := ⟨u43.1, 1, 8, .nilptr⟩
theorem ok43 : TIOK Tryz.prog 43 t43 := tiok u43.2 (by kernel_rfl)
noncomputable def u44 : { d // Tryz.prog.underlying 44 = some d } := ⟨_, Tryz.underlying44⟩
noncomputable def t44 : TI := ⟨u44.1, 4, 32, .agg [.nilptr, .nilptr, .nilptr, .nilptr]⟩
theorem ok44 : TIOK Tryz.prog 44 t44 := tiok u44.2 (by kernel_rfl)
noncomputable def u45 : { d // Tryz.prog.underlying 45 = some d } := ⟨_, Tryz.underlying45⟩
noncomputable def t45 : TI := ⟨u45.1, 1, 8, .nilmap⟩
theorem ok45 : TIOK Tryz.prog 45 t45 := tiok u45.2 (by kernel_rfl)
noncomputable def u47 : { d // Tryz.prog.underlying 47 = some d } := ⟨_, Tryz.underlying47⟩
noncomputable def t47 : TI := ⟨u47.1, 7, 72, .agg [.int .i64 (.ofNat 0), .nilsl, .nilptr, .nilptr, .nilptr, .nilptr, .nilmap]⟩
theorem ok47 : TIOK Tryz.prog 47 t47 := tiok u47.2 (by kernel_rfl)
noncomputable def u48 : { d // Tryz.prog.underlying 48 = some d } := ⟨_, Tryz.underlying48⟩
noncomputable def t48 : TI := ⟨u48.1, 1, 8, .nilptr⟩
theorem ok48 : TIOK Tryz.prog 48 t48 := tiok u48.2 (by kernel_rfl)
noncomputable def u49 : { d // Tryz.prog.underlying 49 = some d } := ⟨_, Tryz.underlying49⟩
noncomputable def t49 : TI := ⟨u49.1, 1, 8, .int .u64 (.ofNat 0)⟩
theorem ok49 : TIOK Tryz.prog 49 t49 := tiok u49.2 (by kernel_rfl)
noncomputable def u5 : { d // Tryz.prog.underlying 5 = some d } := ⟨_, Tryz.underlying5⟩
noncomputable def t5 : TI := ⟨u5.1, 1, 1, .int .u8 (.ofNat 0)⟩
theorem ok5 : TIOK Tryz.prog 5 t5 := tiok u5.2 (by kernel_rfl)
noncomputable def u50 : { d // Tryz.prog.underlying 50 = some d } := ⟨_, Tryz.underlying50⟩
noncomputable def t50 : TI := ⟨u50.1, 1, 8, .nilfunc⟩
theorem ok50 : TIOK Tryz.prog 50 t50 := tiok u50.2 (by kernel_rfl)
noncomputable def u52 : { d // Tryz.prog.underlying 52 = some d } := ⟨_, Tryz.underlying52⟩
noncomputable def t52 : TI := ⟨u52.1, 9, 72, .agg [.nilptr, .nilptr, .int .i64 (.ofNat 0), .int .u64 (.ofNat 0), .int .i64 (.ofNat 0), .int .i64 (.ofNat 0), .nilfunc, .bool false, .int .i64 (.ofNat 0)]⟩
theorem ok52 : TIOK Tryz.prog 52 t52 := tiok u52.2 (by kernel_rfl)
noncomputable def u63 : { d // Tryz.prog.underlying 63 = some d } := ⟨_, Tryz.underlying63⟩
noncomputable def t63 : TI := ⟨u63.1, 1, 8, .nilptr⟩
theorem ok63 : TIOK Tryz.prog 63 t63 := tiok u63.2 (by kernel_rfl)
noncomputable def u64 : { d // Tryz.prog.underlying 64 = some d } := ⟨_, Tryz.underlying64⟩
noncomputable def t64 : TI := ⟨u64.1, 1, 8, .nilptr⟩
theorem ok64 : TIOK Tryz.prog 64 t64 := tiok u64.2 (by kernel_rfl)
noncomputable def u66 : { d // Tryz.prog.underlying 66 = some d } := ⟨_, Tryz.underlying66⟩
noncomputable def t66 : TI := ⟨u66.1, 1, 8, .agg [.nilptr]⟩
theorem ok66 : TIOK Tryz.prog 66 t66 := tiok u66.2 (by kernel_rfl)
noncomputable def u67 : { d // Tryz.prog.underlying 67 = some d } := ⟨_, Tryz.underlying67⟩
noncomputable def t67 : TI := ⟨u67.1, 1, 8, .nilptr⟩
theorem ok67 : TIOK Tryz.prog 67 t67 := tiok u67.2 (by kernel_rfl)
noncomputable def u68 : { d // Tryz.prog.underlying 68 = some d } := ⟨_, Tryz.underlying68⟩
noncomputable def t68 : TI := ⟨u68.1, 8, 64, .agg [.int .u64 (.ofNat 0), .int .u64 (.ofNat 0), .int .u64 (.ofNat 0), .int .u64 (.ofNat 0), .int .u64 (.ofNat 0), .int .u64 (.ofNat 0), .int .u64 (.ofNat 0), .int .u64 (.ofNat 0)]⟩
theorem ok68 : TIOK Tryz.prog 68 t68 := tiok u68.2 (by kernel_rfl)
noncomputable def u69 : { d // Tryz.prog.underlying 69 = some d } := ⟨_, Tryz.underlying69⟩
noncomputable def t69 : TI := ⟨u69.1, 8, 64, .agg [.int .u64 (.ofNat 0), .int .u64 (.ofNat 0), .int .u64 (.ofNat 0), .int .u64 (.ofNat 0), .int .u64 (.ofNat 0), .int .u64 (.ofNat 0), .int .u64 (.ofNat 0), .int .u64 (.ofNat 0)]⟩
theorem ok69 : TIOK Tryz.prog 69 t69 := tiok u69.2 (by kernel_rfl)
noncomputable def u71 : { d // Tryz.prog.underlying 71 = some d } := ⟨_, Tryz.underlying71⟩
noncomputable def t71 : TI := ⟨u71.1, 21, 168, .agg [.int .i64 (.ofNat 0), .int .u64 (.ofNat 0), .int .u64 (.ofNat 0), .int .u64 (.ofNat 0), .int .u64 (.ofNat 0), .int .u64 (.ofNat 0), .int .u64 (.ofNat 0), .int .u64 (.ofNat 0), .int .u64 (.ofNat 0), .int .u64 (.ofNat 0), .int .u64 (.ofNat 0), .int .u64 (.ofNat 0), .int .u64 (.ofNat 0), .int .u64 (.ofNat 0), .int .u64 (.ofNat 0), .int .u64 (.ofNat 0), .int .u64 (.ofNat 0), .int .u64 (.ofNat 0), .int .u64 (.ofNat 0), .int .u64 (.ofNat 0), .int .u64 (.ofNat 0)]⟩
theorem ok71 : TIOK Tryz.prog 71 t71 := tiok u71.2 (by kernel_rfl)
noncomputable def u72 : { d // Tryz.prog.underlying 72 = some d } := ⟨_, Tryz.underlying72⟩
noncomputable def t72 : TI := ⟨u72.1, 1, 8, .nilptr⟩
theorem ok72 : TIOK Tryz.prog 72 t72 := tiok u72.2 (by kernel_rfl)
noncomputable def u73 : { d // Tryz.prog.underlying 73 = some d } := ⟨_, Tryz.underlying73⟩
noncomputable def t73 : TI := ⟨u73.1, 1, 8, .nilptr⟩
theorem ok73 : TIOK Tryz.prog 73 t73 := tiok u73.2 (by kernel_rfl)
noncomputable def u75 : { d // Tryz.prog.underlying 75 = some d } := ⟨_, Tryz.underlying75⟩
noncomputable def t75 : TI := ⟨u75.1, 34, 264, .agg [.nilptr, .nilptr, .int .i64 (.ofNat 0), .int .u64 (.ofNat 0), .int .u64 (.ofNat 0), .int .i64 (.ofNat 0), .int .u64 (.ofNat 0), .int .u64 (.ofNat 0), .int .u64 (.ofNat 0), .int .u64 (.ofNat 0), .int .u64 (.ofNat 0), .int .u64 (.ofNat 0), .int .u64 (.ofNat 0), .int .u64 (.ofNat 0), .int .u64 (.ofNat 0), .int .u64 (.ofNat 0), .int .u64 (.ofNat 0), .int .u64 (.ofNat 0), .int .u64 (.ofNat 0), .int .u64 (.ofNat 0), .int .u64 (.ofNat 0), .int .u64 (.ofNat 0), .int .u64 (.ofNat 0), .int .u64 (.ofNat 0), .int .u64 (.ofNat 0), .int .u64 (.ofNat 0), .int .u64 (.ofNat 0), .bool false, .nilptr, .nilptr, .nilfunc, .bool false, .bool false, .int .i64 (.ofNat 0)]⟩
theorem ok75 : TIOK Tryz.prog 75 t75 := tiok u75.2 (by kernel_rfl)
noncomputable def u79 : { d // Tryz.prog.underlying 79 = some d } := ⟨_, Tryz.underlying79⟩
noncomputable def t79 : TI := ⟨u79.1, 1, 8, .nilptr⟩
theorem ok79 : TIOK Tryz.prog 79 t79 := tiok u79.2 (by kernel_rfl)
noncomputable def u81 : { d // Tryz.prog.underlying 81 = some d } := ⟨_, Tryz.underlying81⟩
noncomputable def t81 : TI := ⟨u81.1, 1, 24, .nilsl⟩
theorem ok81 : TIOK Tryz.prog 81 t81 := tiok u81.2 (by kernel_rfl)
noncomputable def u83 : { d // Tryz.prog.underlying 83 = some d } := ⟨_, Tryz.underlying83⟩
noncomputable def t83 : TI := ⟨u83.1, 4, 48, .agg [.int .i64 (.ofNat 0), .nilsl, .int .i64 (.ofNat 0), .int .i64 (.ofNat 0)]⟩
theorem ok83 : TIOK Tryz.prog 83 t83 := tiok u83.2 (by kernel_rfl)
noncomputable def u85 : { d // Tryz.prog.underlying 85 = some d } := ⟨_, Tryz.underlying85⟩
noncomputable def t85 : TI := ⟨u85.1, 1, 24, .nilsl⟩
theorem ok85 : TIOK Tryz.prog 85 t85 := tiok u85.2 (by kernel_rfl)
noncomputable def u87 : { d // Tryz.prog.underlying 87 = some d } := ⟨_, Tryz.underlying87⟩
noncomputable def t87 : TI := ⟨u87.1, 8, 96, .agg [.nilsl, .int .i64 (.ofNat 0), .int .i64 (.ofNat 0), .int .i64 (.ofNat 0), .int .i64 (.ofNat 0), .int .i64 (.ofNat 0), .int .i64 (.ofNat 0), .nilsl]⟩
theorem ok87 : TIOK Tryz.prog 87 t87 := tiok u87.2 (by kernel_rfl)
noncomputable def u89 : { d // Tryz.prog.underlying 89 = some d } := ⟨_, Tryz.underlying89⟩
noncomputable def t89 : TI := ⟨u89.1, 22, 176, .agg [.int .u64 (.ofNat 0), .int .i64 (.ofNat 0), .int .u64 (.ofNat 0), .int .u64 (.ofNat 0), .int .u64 (.ofNat 0), .int .u64 (.ofNat 0), .int .u64 (.ofNat 0), .int .u64 (.ofNat 0), .int .u64 (.ofNat 0), .int .u64 (.ofNat 0), .int .u64 (.ofNat 0), .int .u64 (.ofNat 0), .int .u64 (.ofNat 0), .int .u64 (.ofNat 0), .int .u64 (.ofNat 0), .int .u64 (.ofNat 0), .int .u64 (.ofNat 0), .int .u64 (.ofNat 0), .int .u64 (.ofNat 0), .int .u64 (.ofNat 0), .int .u64 (.ofNat 0), .int .u64 (.ofNat 0)]⟩
theorem ok89 : TIOK Tryz.prog 89 t89 := tiok u89.2 (by kernel_rfl)
noncomputable def u9 : { d // Tryz.prog.underlying 9 = some d } := ⟨_, Tryz.underlying9⟩
noncomputable def t9 : TI := ⟨u9.1, 1, 16, .str ⟨#[]⟩⟩
theorem ok9 : TIOK Tryz.prog 9 t9 := tiok u9.2 (by kernel_rfl)
noncomputable def u90 : { d // Tryz.prog.underlying 90 = some d } := ⟨_, Tryz.underlying90⟩
noncomputable def t90 : TI := ⟨u90.1, 1, 24, .nilsl⟩
theorem ok90 : TIOK Tryz.prog 90 t90 := tiok u90.2 (by kernel_rfl)
noncomputable def u94 : { d // Tryz.prog.underlying 94 = some d } := ⟨_, Tryz.underlying94⟩
noncomputable def t94 : TI := ⟨u94.1, 1, 8, .nilptr⟩
theorem ok94 : TIOK Tryz.prog 94 t94 := tiok u94.2 (by kernel_rfl)
noncomputable def u96 : { d // Tryz.prog.underlying 96 = some d } := ⟨_, Tryz.underlying96⟩
noncomputable def t96 : TI := ⟨u96.1, 1, 16, .niliface⟩
theorem ok96 : TIOK Tryz.prog 96 t96 := tiok u96.2 (by kernel_rfl)
noncomputable def u97 : { d // Tryz.prog.underlying 97 = some d } := ⟨_, Tryz.underlying97⟩
noncomputable def t97 : TI := ⟨u97.1, 1, 8, .nilfunc⟩
theorem ok97 : TIOK Tryz.prog 97 t97 := tiok u97.2 (by kernel_rfl)
noncomputable def u99 : { d // Tryz.prog.underlying 99 = some d } := ⟨_, Tryz.underlying99⟩
noncomputable def t99 : TI := ⟨u99.1, 3, 48, .agg [.int .i64 (.ofNat 0), .str ⟨#[]⟩, .nilsl]⟩
theorem ok99 : TIOK Tryz.prog 99 t99 := tiok u99.2 (by kernel_rfl)
noncomputable def tyL : List (Nat × TI) := [(1, t1), (101, t101), (105, t105), (107, t107), (112, t112), (114, t114), (115, t115), (116, t116), (117, t117), (118, t118), (120, t120), (122, t122), (125, t125), (127, t127), (129, t129), (130, t130), (131, t131), (132, t132), (134, t134), (138, t138), (140, t140), (142, t142), (145, t145), (147, t147), (148, t148), (149, t149), (151, t151), (154, t154), (156, t156), (157, t157), (158, t158), (160, t160), (167, t167), (176, t176), (181, t181), (192, t192), (197, t197), (20, t20), (200, t200), (206, t206), (209, t209), (211, t211), (214, t214), (219, t219), (22, t22), (23, t23), (231, t231), (239, t239), (241, t241), (242, t242), (245, t245), (249, t249), (254, t254), (258, t258), (26, t26), (263, t263), (264, t264), (266, t266), (267, t267), (272, t272), (28, t28), (282, t282), (29, t29), (297, t297), (3, t3), (31, t31), (319, t319), (32, t32), (325, t325), (333, t333), (338, t338), (339, t339), (341, t341), (344, t344), (351, t351), (359, t359), (36, t36), (361, t361), (366, t366), (376, t376), (378, t378), (387, t387), (39, t39), (395, t395), (396, t396), (4, t4), (403, t403), (411, t411), (413, t413), (42, t42), (43, t43), (44, t44), (45, t45), (47, t47), (48, t48), (49, t49), (5, t5), (50, t50), (52, t52), (63, t63), (64, t64), (66, t66), (67, t67), (68, t68), (69, t69), (71, t71), (72, t72), (73, t73), (75, t75), (79, t79), (81, t81), (83, t83), (85, t85), (87, t87), (89, t89), (9, t9), (90, t90), (94, t94), (96, t96), (97, t97), (99, t99)]
noncomputable def tyT : Tr TI := .n none (.n (some t1) (.n (some t3) (.n none (.n none (.n (some t31) (.n (some t63) (.n (some t127) (.e) (.e)) (.n none (.n (some t319) (.e) (.e)) (.e))) (.n none (.e) (.n none (.n (some t351) (.e) (.e)) (.e)))) (.n (some t47) (.n (some t79) (.e) (.e)) (.n none (.e) (.n (some t239) (.e) (.e))))) (.n (some t23) (.n (some t39) (.n (some t71) (.n none (.n (some t263) (.e) (.e)) (.e)) (.e)) (.n none (.n (some t167) (.e) (.e)) (.n (some t231) (.n (some t359) (.e) (.e)) (.e)))) (.n none (.n (some t87) (.n (some t151) (.e) (.e)) (.e)) (.e)))) (.n none (.n none (.n none (.n (some t67) (.n (some t131) (.e) (.n (some t387) (.e) (.e))) (.e)) (.n (some t99) (.e) (.e))) (.n none (.n (some t83) (.n (some t147) (.e) (.n (some t403) (.e) (.e))) (.n (some t211) (.n (some t339) (.e) (.e)) (.e))) (.n (some t115) (.e) (.e)))) (.n none (.n (some t43) (.n (some t75) (.n none (.n (some t267) (.e) (.e)) (.n (some t395) (.e) (.e))) (.e)) (.n (some t107) (.e) (.e))) (.n none (.n none (.n none (.e) (.n (some t411) (.e) (.e))) (.n (some t219) (.e) (.e))) (.e))))) (.n (some t5) (.n (some t9) (.n none (.n none (.n none (.n (some t129) (.e) (.e)) (.e)) (.n (some t97) (.e) (.e))) (.n (some t49) (.n (some t81) (.n (some t145) (.e) (.e)) (.n (some t209) (.e) (.e))) (.n none (.e) (.n (some t241) (.e) (.e))))) (.n none (.n none (.n (some t73) (.e) (.e)) (.n (some t105) (.n none (.n (some t297) (.e) (.e)) (.e)) (.n none (.n (some t361) (.e) (.e)) (.e)))) (.n none (.n (some t89) (.e) (.e)) (.n none (.e) (.n (some t249) (.e) (.e)))))) (.n none (.n none (.n none (.n (some t69) (.e) (.n (some t197) (.n (some t325) (.e) (.e)) (.e))) (.n (some t101) (.e) (.e))) (.n none (.n (some t85) (.n (some t149) (.e) (.e)) (.n none (.n (some t341) (.e) (.e)) (.e))) (.n (some t117) (.n (some t181) (.e) (.e)) (.n (some t245) (.e) (.e))))) (.n (some t29) (.n (some t45) (.n none (.e) (.n none (.n (some t333) (.e) (.e)) (.e))) (.e)) (.n none (.n none (.n (some t157) (.e) (.n (some t413) (.e) (.e))) (.e)) (.n (some t125) (.e) (.e))))))) (.n none (.n (some t4) (.n none (.n none (.n (some t32) (.n (some t64) (.e) (.n (some t192) (.e) (.e))) (.n (some t96) (.n (some t160) (.e) (.e)) (.e))) (.n (some t48) (.n none (.n none (.n (some t272) (.e) (.e)) (.e)) (.e)) (.n (some t112) (.n (some t176) (.e) (.e)) (.e)))) (.n none (.n none (.n (some t72) (.n none (.n (some t264) (.e) (.e)) (.e)) (.n (some t200) (.e) (.e))) (.e)) (.n none (.n none (.e) (.n none (.n (some t344) (.e) (.e)) (.e))) (.n (some t120) (.e) (.n none (.n (some t376) (.e) (.e)) (.e)))))) (.n none (.n (some t20) (.n (some t36) (.n (some t68) (.n (some t132) (.e) (.e)) (.e)) (.e)) (.n (some t52) (.n none (.n (some t148) (.e) (.e)) (.e)) (.n (some t116) (.e) (.e)))) (.n (some t28) (.n (some t44) (.n none (.n (some t140) (.e) (.n (some t396) (.e) (.e))) (.e)) (.e)) (.n none (.n none (.n (some t156) (.e) (.e)) (.e)) (.e))))) (.n none (.n none (.n none (.n none (.n (some t66) (.n (some t130) (.n (some t258) (.e) (.e)) (.e)) (.e)) (.e)) (.n (some t50) (.n none (.e) (.n none (.n (some t338) (.e) (.e)) (.e))) (.n (some t114) (.e) (.n (some t242) (.e) (.e))))) (.n (some t26) (.n (some t42) (.n none (.n (some t138) (.n (some t266) (.e) (.e)) (.e)) (.e)) (.e)) (.n none (.n (some t90) (.n (some t154) (.n (some t282) (.e) (.e)) (.e)) (.e)) (.n (some t122) (.e) (.n none (.n (some t378) (.e) (.e)) (.e)))))) (.n none (.n (some t22) (.n none (.n none (.n (some t134) (.e) (.e)) (.e)) (.e)) (.n none (.n none (.e) (.n (some t214) (.e) (.e))) (.n (some t118) (.e) (.e)))) (.n none (.n none (.n none (.n (some t142) (.e) (.e)) (.n (some t206) (.e) (.e))) (.n none (.e) (.n none (.n (some t366) (.e) (.e)) (.e)))) (.n none (.n (some t94) (.n (some t158) (.e) (.e)) (.e)) (.n none (.e) (.n (some t254) (.e) (.e))))))))
theorem tyT_eq : tyT = ofL tyL := by kernel_rfl
theorem tyL_ok : ∀ p ∈ tyL, TIOK Tryz.prog p.1 p.2 := allc ok1 (allc ok101 (allc ok105 (allc ok107 (allc ok112 (allc ok114 (allc ok115 (allc ok116 (allc ok117 (allc ok118 (allc ok120 (allc ok122 (allc ok125 (allc ok127 (allc ok129 (allc ok130 (allc ok131 (allc ok132 (allc ok134 (allc ok138 (allc ok140 (allc ok142 (allc ok145 (allc ok147 (allc ok148 (allc ok149 (allc ok151 (allc ok154 (allc ok156 (allc ok157 (allc ok158 (allc ok160 (allc ok167 (allc ok176 (allc ok181 (allc ok192 (allc ok197 (allc ok20 (allc ok200 (allc ok206 (allc ok209 (allc ok211 (allc ok214 (allc ok219 (allc ok22 (allc ok23 (allc ok231 (allc ok239 (allc ok241 (allc ok242 (allc ok245 (allc ok249 (allc ok254 (allc ok258 (allc ok26 (allc ok263 (allc ok264 (allc ok266 (allc ok267 (allc ok272 (allc ok28 (allc ok282 (allc ok29 (allc ok297 (allc ok3 (allc ok31 (allc ok319 (allc ok32 (allc ok325 (allc ok333 (allc ok338 (allc ok339 (allc ok341 (allc ok344 (allc ok351 (allc ok359 (allc ok36 (allc ok361 (allc ok366 (allc ok376 (allc ok378 (allc ok387 (allc ok39 (allc ok395 (allc ok396 (allc ok4 (allc ok403 (allc ok411 (allc ok413 (allc ok42 (allc ok43 (allc ok44 (allc ok45 (allc ok47 (allc ok48 (allc ok49 (allc ok5 (allc ok50 (allc ok52 (allc ok63 (allc ok64 (allc ok66 (allc ok67 (allc ok68 (allc ok69 (allc ok71 (allc ok72 (allc ok73 (allc ok75 (allc ok79 (allc ok81 (allc ok83 (allc ok85 (allc ok87 (allc ok89 (allc ok9 (allc ok90 (allc ok94 (allc ok96 (allc ok97 (allc ok99 (alln)))))))))))))))))))))))))))))))))))))))))))))))))))))))))))))))))))))))))))))))))))))))))))))))))))))))))))))))))))))))))
theorem fok10 : FNOK Tryz.prog 10 Tryz.f10 := ⟨Tryz.func10, by decide +kernel, by kernel_rfl, by kernel_rfl⟩
theorem fok100 : FNOK Tryz.prog 100 Tryz.f100 := ⟨Tryz.func100, by decide +kernel, by kernel_rfl, by kernel_rfl⟩
theorem fok101 : FNOK Tryz.prog 101 Tryz.f101 := ⟨Tryz.func101, by decide +kernel, by kernel_rfl, by kernel_rfl⟩
theorem fok102 : FNOK Tryz.prog 102 Tryz.f102 := ⟨Tryz.func102, by decide +kernel, by kernel_rfl, by kernel_rfl⟩
theorem fok103 : FNOK Tryz.prog 103 Tryz.f103 := ⟨Tryz.func103, by decide +kernel, by kernel_rfl, by kernel_rfl⟩
theorem fok104 : FNOK Tryz.prog 104 Tryz.f104 := ⟨Tryz.func104, by decide +kernel, by kernel_rfl, by kernel_rfl⟩
theorem fok105 : FNOK Tryz.prog 105 Tryz.f105 := ⟨Tryz.func105, by decide +kernel, by kernel_rfl, by kernel_rfl⟩
theorem fok106 : FNOK Tryz.prog 106 Tryz.f106 := ⟨Tryz.func106, by decide +kernel, by kernel_rfl, by kernel_rfl⟩
theorem fok107 : FNOK Tryz.prog 107 Tryz.f107 := ⟨Tryz.func107, by decide +kernel, by kernel_rfl, by kernel_rfl⟩
theorem fok108 : FNOK Tryz.prog 108 Tryz.f108 := ⟨Tryz.func108, by decide +kernel, by kernel_rfl, by kernel_rfl⟩
theorem fok109 : FNOK Tryz.prog 109 Tryz.f109 := ⟨Tryz.func109, by decide +kernel, by kernel_rfl, by kernel_rfl⟩
theorem fok11 : FNOK Tryz.prog 11 Tryz.f11 := ⟨Tryz.func11, by decide +kernel, by kernel_rfl, by kernel_rfl⟩
theorem fok110 : FNOK Tryz.prog 110 Tryz.f110 := ⟨Tryz.func110, by decide +kernel, by kernel_rfl, by kernel_rfl⟩
theorem fok111 : FNOK Tryz.prog 111 Tryz.f111 := ⟨Tryz.func111, by decide +kernel, by kernel_rfl, by kernel_rfl⟩
theorem fok112 : FNOK Tryz.prog 112 Tryz.f112 := ⟨Tryz.func112, by decide +kernel, by kernel_rfl, by kernel_rfl⟩
theorem fok113 : FNOK Tryz.prog 113 Tryz.f113 := ⟨Tryz.func113, by decide +kernel, by kernel_rfl, by kernel_rfl⟩
theorem fok114 : FNOK Tryz.prog 114 Tryz.f114 := ⟨Tryz.func114, by decide +kernel, by kernel_rfl, by kernel_rfl⟩
theorem fok115 : FNOK Tryz.prog 115 Tryz.f115 := ⟨Tryz.func115, by decide +kernel, by kernel_rfl, by kernel_rfl⟩
theorem fok116 : FNOK Tryz.prog 116 Tryz.f116 := ⟨Tryz.func116, by decide +kernel, by kernel_rfl, by kernel_rfl⟩
theorem fok117 : FNOK Tryz.prog 117 Tryz.f117 := ⟨Tryz.func117, by decide +kernel, by kernel_rfl, by kernel_rfl⟩
theorem fok118 : FNOK Tryz.prog 118 Tryz.f118 := ⟨Tryz.func118, by decide +kernel, by kernel_rfl, by kernel_rfl⟩
theorem fok119 : FNOK Tryz.prog 119 Tryz.f119 := ⟨Tryz.func119, by decide +kernel, by kernel_rfl, by kernel_rfl⟩
theorem fok12 : FNOK Tryz.prog 12 Tryz.f12 := ⟨Tryz.func12, by decide +kernel, by kernel_rfl, by kernel_rfl⟩
theorem fok120 : FNOK Tryz.prog 120 Tryz.f120 := ⟨Tryz.func120, by decide +kernel, by kernel_rfl, by kernel_rfl⟩
theorem fok121 : FNOK Tryz.prog 121 Tryz.f121 := ⟨Tryz.func121, by decide +kernel, by kernel_rfl, by kernel_rfl⟩
theorem fok122 : FNOK Tryz.prog 122 Tryz.f122 := ⟨Tryz.func122, by decide +kernel, by kernel_rfl, by kernel_rfl⟩
theorem fok123 : FNOK Tryz.prog 123 Tryz.f123 := ⟨Tryz.func123, by decide +kernel, by kernel_rfl, by kernel_rfl⟩
theorem fok124 : FNOK Tryz.prog 124 Tryz.f124 := ⟨Tryz.func124, by decide +kernel, by kernel_rfl, by kernel_rfl⟩
theorem fok125 : FNOK Tryz.prog 125 Tryz.f125 := ⟨Tryz.func125, by decide +kernel, by kernel_rfl, by kernel_rfl⟩
theorem fok126 : FNOK Tryz.prog 126 Tryz.f126 := ⟨Tryz.func126, by decide +kernel, by kernel_rfl, by kernel_rfl⟩
theorem fok127 : FNOK Tryz.prog 127 Tryz.f127 := ⟨Tryz.func127, by decide +kernel, by kernel_rfl, by kernel_rfl⟩
theorem fok128 : FNOK Tryz.prog 128 Tryz.f128 := ⟨Tryz.func128, by decide +kernel, by kernel_rfl, by kernel_rfl⟩
theorem fok129 : FNOK Tryz.prog 129 Tryz.f129 := ⟨Tryz.func129, by decide +kernel, by kernel_rfl, by kernel_rfl⟩
theorem fok13 : FNOK Tryz.prog 13 Tryz.f13 := ⟨Tryz.func13, by decide +kernel, by kernel_rfl, by kernel_rfl⟩
theorem fok130 : FNOK Tryz.prog 130 Tryz.f130 := ⟨Tryz.func130, by decide +kernel, by kernel_rfl, by kernel_rfl⟩
theorem fok131 : FNOK Tryz.prog 131 Tryz.f131 := ⟨Tryz.func131, by decide +kernel, by kernel_rfl, by kernel_rfl⟩
theorem fok132 : FNOK Tryz.prog 132 Tryz.f132 := ⟨Tryz.func132, by decide +kernel, by kernel_rfl, by kernel_rfl⟩
theorem fok133 : FNOK Tryz.prog 133 Tryz.f133 := ⟨Tryz.func133, by decide +kernel, by kernel_rfl, by kernel_rfl⟩
theorem fok134 : FNOK Tryz.prog 134 Tryz.f134 := ⟨Tryz.func134, by decide +kernel, by kernel_rfl, by kernel_rfl⟩
theorem fok135 : FNOK Tryz.prog 135 Tryz.f135 := ⟨Tryz.func135, by decide +kernel, by kernel_rfl, by kernel_rfl⟩
theorem fok136 : FNOK Tryz.prog 136 Tryz.f136 := ⟨Tryz.func136, by decide +kernel, by kernel_rfl, by kernel_rfl⟩
theorem fok137 : FNOK Tryz.prog 137 Tryz.f137 := ⟨Tryz.func137, by decide +kernel, by kernel_rfl, by kernel_rfl⟩
theorem fok138 : FNOK Tryz.prog 138 Tryz.f138 := ⟨Tryz.func138, by decide +kernel, by kernel_rfl, by kernel_rfl⟩
theorem fok139 : FNOK Tryz.prog 139 Tryz.f139 := ⟨Tryz.func139, by decide +kernel, by kernel_rfl, by kernel_rfl⟩
theorem fok14 : FNOK Tryz.prog 14 Tryz.f14 := ⟨Tryz.func14, by decide +kernel, by kernel_rfl, by kernel_rfl⟩
theorem fok140 : FNOK Tryz.prog 140 Tryz.f140 := ⟨Tryz.func140, by decide +kernel, by kernel_rfl, by kernel_rfl⟩
theorem fok141 : FNOK Tryz.prog 141 Tryz.f141 := ⟨Tryz.func141, by decide +kernel, by kernel_rfl, by kernel_rfl⟩
theorem fok142 : FNOK Tryz.prog 142 Tryz.f142 := ⟨Tryz.func142, by decide +kernel, by kernel_rfl, by kernel_rfl⟩
theorem fok143 : FNOK Tryz.prog 143 Tryz.f143 := ⟨Tryz.func143, by decide +kernel, by kernel_rfl, by kernel_rfl⟩
theorem fok144 : FNOK Tryz.prog 144 Tryz.f144 := ⟨Tryz.func144, by decide +kernel, by kernel_rfl, by kernel_rfl⟩
theorem fok145 : FNOK Tryz.prog 145 Tryz.f145 := ⟨Tryz.func145, by decide +kernel, by kernel_rfl, by kernel_rfl⟩
theorem fok147 : FNOK Tryz.prog 147 Tryz.f147 := ⟨Tryz.func147, by decide +kernel, by kernel_rfl, by kernel_rfl⟩
theorem fok148 : FNOK Tryz.prog 148 Tryz.f148 := ⟨Tryz.func148, by decide +kernel, by kernel_rfl, by kernel_rfl⟩
theorem fok149 : FNOK Tryz.prog 149 Tryz.f149 := ⟨Tryz.func149, by decide +kernel, by kernel_rfl, by kernel_rfl⟩
theorem fok15 : FNOK Tryz.prog 15 Tryz.f15 := ⟨Tryz.func15, by decide +kernel, by kernel_rfl, by kernel_rfl⟩
theorem fok150 : FNOK Tryz.prog 150 Tryz.f150 := ⟨Tryz.func150, by decide +kernel, by kernel_rfl, by kernel_rfl⟩
theorem fok151 : FNOK Tryz.prog 151 Tryz.f151 := ⟨Tryz.func151, by decide +kernel, by kernel_rfl, by kernel_rfl⟩
theorem fok152 : FNOK Tryz.prog 152 Tryz.f152 := ⟨Tryz.func152, by decide +kernel, by kernel_rfl, by kernel_rfl⟩
theorem fok153 : FNOK Tryz.prog 153 Tryz.f153 := ⟨Tryz.func153, by decide +kernel, by kernel_rfl, by kernel_rfl⟩
theorem fok154 : FNOK Tryz.prog 154 Tryz.f154 := ⟨Tryz.func154, by decide +kernel, by kernel_rfl, by kernel_rfl⟩
theorem fok155 : FNOK Tryz.prog 155 Tryz.f155 := ⟨Tryz.func155, by decide +kernel, by kernel_rfl, by kernel_rfl⟩
theorem fok156 : FNOK Tryz.prog 156 Tryz.f156 := ⟨Tryz.func156, by decide +kernel, by kernel_rfl, by kernel_rfl⟩
theorem fok157 : FNOK Tryz.prog 157 Tryz.f157 := ⟨Tryz.func157, by decide +kernel, by kernel_rfl, by kernel_rfl⟩
theorem fok158 : FNOK Tryz.prog 158 Tryz.f158 := ⟨Tryz.func158, by decide +kernel, by kernel_rfl, by kernel_rfl⟩
theorem fok159 : FNOK Tryz.prog 159 Tryz.f159 := ⟨Tryz.func159, by decide +kernel, by kernel_rfl, by kernel_rfl⟩
theorem fok16 : FNOK Tryz.prog 16 Tryz.f16 := ⟨Tryz.func16, by decide +kernel, by kernel_rfl, by kernel_rfl⟩
theorem fok160 : FNOK Tryz.prog 160 Tryz.f160 := ⟨Tryz.func160, by decide +kernel, by kernel_rfl, by kernel_rfl⟩
theorem fok161 : FNOK Tryz.prog 161 Tryz.f161 := ⟨Tryz.func161, by decide +kernel, by kernel_rfl, by kernel_rfl⟩
theorem fok162 : FNOK Tryz.prog 162 Tryz.f162 := ⟨Tryz.func162, by decide +kernel, by kernel_rfl, by kernel_rfl⟩
theorem fok163 : FNOK Tryz.prog 163 Tryz.f163 := ⟨Tryz.func163, by decide +kernel, by kernel_rfl, by kernel_rfl⟩
theorem fok164 : FNOK Tryz.prog 164 Tryz.f164 := ⟨Tryz.func164, by decide +kernel, by kernel_rfl, by kernel_rfl⟩
theorem fok165 : FNOK Tryz.prog 165 Tryz.f165 := ⟨Tryz.func165, by decide +kernel, by kernel_rfl, by kernel_rfl⟩
theorem fok166 : FNOK Tryz.prog 166 Tryz.f166 := ⟨Tryz.func166, by decide +kernel, by kernel_rfl, by kernel_rfl⟩
theorem fok167 : FNOK Tryz.prog 167 Tryz.f167 := ⟨Tryz.func167, by decide +kernel, by kernel_rfl, by kernel_rfl⟩
theorem fok168 : FNOK Tryz.prog 168 Tryz.f168 := ⟨Tryz.func168, by decide +kernel, by kernel_rfl, by kernel_rfl⟩
theorem fok169 : FNOK Tryz.prog 169 Tryz.f169 := ⟨Tryz.func169, by decide +kernel, by kernel_rfl, by kernel_rfl⟩
theorem fok17 : FNOK Tryz.prog 17 Tryz.f17 := ⟨Tryz.func17, by decide +kernel, by kernel_rfl, by kernel_rfl⟩
theorem fok170 : FNOK Tryz.prog 170 Tryz.f170 := ⟨Tryz.func170, by decide +kernel, by kernel_rfl, by kernel_rfl⟩
theorem fok171 : FNOK Tryz.prog 171 Tryz.f171 := ⟨Tryz.func171, by decide +kernel, by kernel_rfl, by kernel_rfl⟩
theorem fok172 : FNOK Tryz.prog 172 Tryz.f172 := ⟨Tryz.func172, by decide +kernel, by kernel_rfl, by kernel_rfl⟩
theorem fok173 : FNOK Tryz.prog 173 Tryz.f173 := ⟨Tryz.func173, by decide +kernel, by kernel_rfl, by kernel_rfl⟩
theorem fok174 : FNOK Tryz.prog 174 Tryz.f174 := ⟨Tryz.func174, by decide +kernel, by kernel_rfl, by kernel_rfl⟩
theorem fok175 : FNOK Tryz.prog 175 Tryz.f175 := ⟨Tryz.func175, by decide +kernel, by kernel_rfl, by kernel_rfl⟩
theorem fok176 : FNOK Tryz.prog 176 Tryz.f176 := ⟨Tryz.func176, by decide +kernel, by kernel_rfl, by kernel_rfl⟩
theorem fok177 : FNOK Tryz.prog 177 Tryz.f177 := ⟨Tryz.func177, by decide +kernel, by kernel_rfl, by kernel_rfl⟩
theorem fok178 : FNOK Tryz.prog 178 Tryz.f178 := ⟨Tryz.func178, by decide +kernel, by kernel_rfl, by kernel_rfl⟩
theorem fok179 : FNOK Tryz.prog 179 Tryz.f179 := ⟨Tryz.func179, by decide +kernel, by kernel_rfl, by kernel_rfl⟩
theorem fok18 : FNOK Tryz.prog 18 Tryz.f18 := ⟨Tryz.func18, by decide +kernel, by kernel_rfl, by kernel_rfl⟩
theorem fok180 : FNOK Tryz.prog 180 Tryz.f180 := ⟨Tryz.func180, by decide +kernel, by kernel_rfl, by kernel_rfl⟩
theorem fok181 : FNOK Tryz.prog 181 Tryz.f181 := ⟨Tryz.func181, by decide +kernel, by kernel_rfl, by kernel_rfl⟩
theorem fok182 : FNOK Tryz.prog 182 Tryz.f182 := ⟨Tryz.func182, by decide +kernel, by kernel_rfl, by kernel_rfl⟩
theorem fok183 : FNOK Tryz.prog 183 Tryz.f183 := ⟨Tryz.func183, by decide +kernel, by kernel_rfl, by kernel_rfl⟩
theorem fok184 : FNOK Tryz.prog 184 Tryz.f184 := ⟨Tryz.func184, by decide +kernel, by kernel_rfl, by kernel_rfl⟩
theorem fok185 : FNOK Tryz.prog 185 Tryz.f185 := ⟨Tryz.func185, by decide +kernel, by kernel_rfl, by kernel_rfl⟩
theorem fok186 : FNOK Tryz.prog 186 Tryz.f186 := ⟨Tryz.func186, by decide +kernel, by kernel_rfl, by kernel_rfl⟩
theorem fok187 : FNOK Tryz.prog 187 Tryz.f187 := ⟨Tryz.func187, by decide +kernel, by kernel_rfl, by kernel_rfl⟩
theorem fok188 : FNOK Tryz.prog 188 Tryz.f188 := ⟨Tryz.func188, by decide +kernel, by kernel_rfl, by kernel_rfl⟩
theorem fok189 : FNOK Tryz.prog 189 Tryz.f189 := ⟨Tryz.func189, by decide +kernel, by kernel_rfl, by kernel_rfl⟩
theorem fok19 : FNOK Tryz.prog 19 Tryz.f19 := ⟨Tryz.func19, by decide +kernel, by kernel_rfl, by kernel_rfl⟩
theorem fok190 : FNOK Tryz.prog 190 Tryz.f190 := ⟨Tryz.func190, by decide +kernel, by kernel_rfl, by kernel_rfl⟩
theorem fok191 : FNOK Tryz.prog 191 Tryz.f191 := ⟨Tryz.func191, by decide +kernel, by kernel_rfl, by kernel_rfl⟩
theorem fok192 : FNOK Tryz.prog 192 Tryz.f192 := ⟨Tryz.func192, by decide +kernel, by kernel_rfl, by kernel_rfl⟩
theorem fok193 : FNOK Tryz.prog 193 Tryz.f193 := ⟨Tryz.func193, by decide +kernel, by kernel_rfl, by kernel_rfl⟩
theorem fok194 : FNOK Tryz.prog 194 Tryz.f194 := ⟨Tryz.func194, by decide +kernel, by kernel_rfl, by kernel_rfl⟩
theorem fok195 : FNOK Tryz.prog 195 Tryz.f195 := ⟨Tryz.func195, by decide +kernel, by kernel_rfl, by kernel_rfl⟩
theorem fok196 : FNOK Tryz.prog 196 Tryz.f196 := ⟨Tryz.func196, by decide +kernel, by kernel_rfl, by kernel_rfl⟩
theorem fok197 : FNOK Tryz.prog 197 Tryz.f197 := ⟨Tryz.func197, by decide +kernel, by kernel_rfl, by kernel_rfl⟩
theorem fok198 : FNOK Tryz.prog 198 Tryz.f198 := ⟨Tryz.func198, by decide +kernel, by kernel_rfl, by kernel_rfl⟩
theorem fok199 : FNOK Tryz.prog 199 Tryz.f199 := ⟨Tryz.func199, by decide +kernel, by kernel_rfl, by kernel_rfl⟩
theorem fok20 : FNOK Tryz.prog 20 Tryz.f20 := ⟨Tryz.func20, by decide +kernel, by kernel_rfl, by kernel_rfl⟩
theorem fok200 : FNOK Tryz.prog 200 Tryz.f200 := ⟨Tryz.func200, by decide +kernel, by kernel_rfl, by kernel_rfl⟩
theorem fok201 : FNOK Tryz.prog 201 Tryz.f201 := ⟨Tryz.func201, by decide +kernel, by kernel_rfl, by kernel_rfl⟩
theorem fok202 : FNOK Tryz.prog 202 Tryz.f202 := ⟨Tryz.func202, by decide +kernel, by kernel_rfl, by kernel_rfl⟩
theorem fok203 : FNOK Tryz.prog 203 Tryz.f203 := ⟨Tryz.func203, by decide +kernel, by kernel_rfl, by kernel_rfl⟩
theorem fok204 : FNOK Tryz.prog 204 Tryz.f204 := ⟨Tryz.func204, by decide +kernel, by kernel_rfl, by kernel_rfl⟩
theorem fok205 : FNOK Tryz.prog 205 Tryz.f205 := ⟨Tryz.func205, by decide +kernel, by kernel_rfl, by kernel_rfl⟩
theorem fok206 : FNOK Tryz.prog 206 Tryz.f206 := ⟨Tryz.func206, by decide +kernel, by kernel_rfl, by kernel_rfl⟩
theorem fok207 : FNOK Tryz.prog 207 Tryz.f207 := ⟨Tryz.func207, by decide +kernel, by kernel_rfl, by kernel_rfl⟩
theorem fok208 : FNOK Tryz.prog 208 Tryz.f208 := ⟨Tryz.func208, by decide +kernel, by kernel_rfl, by kernel_rfl⟩
theorem fok209 : FNOK Tryz.prog 209 Tryz.f209 := ⟨Tryz.func209, by decide +kernel, by kernel_rfl, by kernel_rfl⟩
theorem fok21 : FNOK Tryz.prog 21 Tryz.f21 := ⟨Tryz.func21, by decide +kernel, by kernel_rfl, by kernel_rfl⟩
theorem fok210 : FNOK Tryz.prog 210 Tryz.f210 := ⟨Tryz.func210, by decide +kernel, by kernel_rfl, by kernel_rfl⟩
theorem fok211 : FNOK Tryz.prog 211 Tryz.f211 := ⟨Tryz.func211, by decide +kernel, by kernel_rfl, by kernel_rfl⟩
theorem fok212 : FNOK Tryz.prog 212 Tryz.f212 := ⟨Tryz.func212, by decide +kernel, by kernel_rfl, by kernel_rfl⟩
theorem fok213 : FNOK Tryz.prog 213 Tryz.f213 := ⟨Tryz.func213, by decide +kernel, by kernel_rfl, by kernel_rfl⟩
theorem fok214 : FNOK Tryz.prog 214 Tryz.f214 := ⟨Tryz.func214, by decide +kernel, by kernel_rfl, by kernel_rfl⟩
theorem fok215 : FNOK Tryz.prog 215 Tryz.f215 := ⟨Tryz.func215, by decide +kernel, by kernel_rfl, by kernel_rfl⟩
theorem fok216 : FNOK Tryz.prog 216 Tryz.f216 := ⟨Tryz.func216, by decide +kernel, by kernel_rfl, by kernel_rfl⟩
theorem fok217 : FNOK Tryz.prog 217 Tryz.f217 := ⟨Tryz.func217, by decide +kernel, by kernel_rfl, by kernel_rfl⟩
theorem fok218 : FNOK Tryz.prog 218 Tryz.f218 := ⟨Tryz.func218, by decide +kernel, by kernel_rfl, by kernel_rfl⟩
theorem fok219 : FNOK Tryz.prog 219 Tryz.f219 := ⟨Tryz.func219, by decide +kernel, by kernel_rfl, by kernel_rfl⟩
theorem fok22 : FNOK Tryz.prog 22 Tryz.f22 := ⟨Tryz.func22, by decide +kernel, by kernel_rfl, by kernel_rfl⟩
theorem fok220 : FNOK Tryz.prog 220 Tryz.f220 := ⟨Tryz.func220, by decide +kernel, by kernel_rfl, by kernel_rfl⟩
theorem fok222 : FNOK Tryz.prog 222 Tryz.f222 := ⟨Tryz.func222, by decide +kernel, by kernel_rfl, by kernel_rfl⟩
theorem fok223 : FNOK Tryz.prog 223 Tryz.f223 := ⟨Tryz.func223, by decide +kernel, by kernel_rfl, by kernel_rfl⟩
theorem fok225 : FNOK Tryz.prog 225 Tryz.f225 := ⟨Tryz.func225, by decide +kernel, by kernel_rfl, by kernel_rfl⟩
theorem fok226 : FNOK Tryz.prog 226 Tryz.f226 := ⟨Tryz.func226, by decide +kernel, by kernel_rfl, by kernel_rfl⟩
theorem fok227 : FNOK Tryz.prog 227 Tryz.f227 := ⟨Tryz.func227, by decide +kernel, by kernel_rfl, by kernel_rfl⟩
theorem fok228 : FNOK Tryz.prog 228 Tryz.f228 := ⟨Tryz.func228, by decide +kernel, by kernel_rfl, by kernel_rfl⟩
theorem fok229 : FNOK Tryz.prog 229 Tryz.f229 := ⟨Tryz.func229, by decide +kernel, by kernel_rfl, by kernel_rfl⟩
theorem fok23 : FNOK Tryz.prog 23 Tryz.f23 := ⟨Tryz.func23, by decide +kernel, by kernel_rfl, by kernel_rfl⟩
theorem fok230 : FNOK Tryz.prog 230 Tryz.f230 := ⟨Tryz.func230, by decide +kernel, by kernel_rfl, by kernel_rfl⟩
theorem fok231 : FNOK Tryz.prog 231 Tryz.f231 := ⟨Tryz.func231, by decide +kernel, by kernel_rfl, by kernel_rfl⟩
theorem fok232 : FNOK Tryz.prog 232 Tryz.f232 := ⟨Tryz.func232, by decide +kernel, by kernel_rfl, by kernel_rfl⟩
theorem fok233 : FNOK Tryz.prog 233 Tryz.f233 := ⟨Tryz.func233, by decide +kernel, by kernel_rfl, by kernel_rfl⟩
theorem fok234 : FNOK Tryz.prog 234 Tryz.f234 := ⟨Tryz.func234, by decide +kernel, by kernel_rfl, by kernel_rfl⟩
theorem fok235 : FNOK Tryz.prog 235 Tryz.f235 := ⟨Tryz.func235, by decide +kernel, by kernel_rfl, by kernel_rfl⟩
theorem fok236 : FNOK Tryz.prog 236 Tryz.f236 := ⟨Tryz.func236, by decide +kernel, by kernel_rfl, by kernel_rfl⟩
theorem fok237 : FNOK Tryz.prog 237 Tryz.f237 := ⟨Tryz.func237, by decide +kernel, by kernel_rfl, by kernel_rfl⟩
theorem fok24 : FNOK Tryz.prog 24 Tryz.f24 := ⟨Tryz.func24, by decide +kernel, by kernel_rfl, by kernel_rfl⟩
theorem fok247 : FNOK Tryz.prog 247 Tryz.f247 := ⟨Tryz.func247, by decide +kernel, by kernel_rfl, by kernel_rfl⟩
theorem fok248 : FNOK Tryz.prog 248 Tryz.f248 := ⟨Tryz.func248, by decide +kernel, by kernel_rfl, by kernel_rfl⟩
theorem fok249 : FNOK Tryz.prog 249 Tryz.f249 := ⟨Tryz.func249, by decide +kernel, by kernel_rfl, by kernel_rfl⟩
theorem fok25 : FNOK Tryz.prog 25 Tryz.f25 := ⟨Tryz.func25, by decide +kernel, by kernel_rfl, by kernel_rfl⟩
theorem fok250 : FNOK Tryz.prog 250 Tryz.f250 := ⟨Tryz.func250, by decide +kernel, by kernel_rfl, by kernel_rfl⟩
theorem fok251 : FNOK Tryz.prog 251 Tryz.f251 := ⟨Tryz.func251, by decide +kernel, by kernel_rfl, by kernel_rfl⟩
theorem fok252 : FNOK Tryz.prog 252 Tryz.f252 := ⟨Tryz.func252, by decide +kernel, by kernel_rfl, by kernel_rfl⟩
theorem fok253 : FNOK Tryz.prog 253 Tryz.f253 := ⟨Tryz.func253, by decide +kernel, by kernel_rfl, by kernel_rfl⟩
theorem fok254 : FNOK Tryz.prog 254 Tryz.f254 := ⟨Tryz.func254, by decide +kernel, by kernel_rfl, by kernel_rfl⟩
theorem fok255 : FNOK Tryz.prog 255 Tryz.f255 := ⟨Tryz.func255, by decide +kernel, by kernel_rfl, by kernel_rfl⟩
theorem fok256 : FNOK Tryz.prog 256 Tryz.f256 := ⟨Tryz.func256, by decide +kernel, by kernel_rfl, by kernel_rfl⟩
theorem fok257 : FNOK Tryz.prog 257 Tryz.f257 := ⟨Tryz.func257, by decide +kernel, by kernel_rfl, by kernel_rfl⟩
theorem fok258 : FNOK Tryz.prog 258 Tryz.f258 := ⟨Tryz.func258, by decide +kernel, by kernel_rfl, by kernel_rfl⟩
theorem fok259 : FNOK Tryz.prog 259 Tryz.f259 := ⟨Tryz.func259, by decide +kernel, by kernel_rfl, by kernel_rfl⟩
theorem fok26 : FNOK Tryz.prog 26 Tryz.f26 := ⟨Tryz.func26, by decide +kernel, by kernel_rfl, by kernel_rfl⟩
theorem fok260 : FNOK Tryz.prog 260 Tryz.f260 := ⟨Tryz.func260, by decide +kernel, by kernel_rfl, by kernel_rfl⟩
theorem fok261 : FNOK Tryz.prog 261 Tryz.f261 := ⟨Tryz.func261, by decide +kernel, by kernel_rfl, by kernel_rfl⟩
theorem fok262 : FNOK Tryz.prog 262 Tryz.f262 := ⟨Tryz.func262, by decide +kernel, by kernel_rfl, by kernel_rfl⟩
theorem fok263 : FNOK Tryz.prog 263 Tryz.f263 := ⟨Tryz.func263, by decide +kernel, by kernel_rfl, by kernel_rfl⟩
theorem fok264 : FNOK Tryz.prog 264 Tryz.f264 := ⟨Tryz.func264, by decide +kernel, by kernel_rfl, by kernel_rfl⟩
theorem fok265 : FNOK Tryz.prog 265 Tryz.f265 := ⟨Tryz.func265, by decide +kernel, by kernel_rfl, by kernel_rfl⟩
theorem fok266 : FNOK Tryz.prog 266 Tryz.f266 := ⟨Tryz.func266, by decide +kernel, by kernel_rfl, by kernel_rfl⟩
theorem fok267 : FNOK Tryz.prog 267 Tryz.f267 := ⟨Tryz.func267, by decide +kernel, by kernel_rfl, by kernel_rfl⟩
theorem fok268 : FNOK Tryz.prog 268 Tryz.f268 := ⟨Tryz.func268, by decide +kernel, by kernel_rfl, by kernel_rfl⟩
theorem fok269 : FNOK Tryz.prog 269 Tryz.f269 := ⟨Tryz.func269, by decide +kernel, by kernel_rfl, by kernel_rfl⟩
theorem fok27 : FNOK Tryz.prog 27 Tryz.f27 := ⟨Tryz.func27, by decide +kernel, by kernel_rfl, by kernel_rfl⟩
theorem fok270 : FNOK Tryz.prog 270 Tryz.f270 := ⟨Tryz.func270, by decide +kernel, by kernel_rfl, by kernel_rfl⟩
theorem fok271 : FNOK Tryz.prog 271 Tryz.f271 := ⟨Tryz.func271, by decide +kernel, by kernel_rfl, by kernel_rfl⟩
theorem fok272 : FNOK Tryz.prog 272 Tryz.f272 := ⟨Tryz.func272, by decide +kernel, by kernel_rfl, by kernel_rfl⟩
theorem fok273 : FNOK Tryz.prog 273 Tryz.f273 := ⟨Tryz.func273, by decide +kernel, by kernel_rfl, by kernel_rfl⟩
theorem fok274 : FNOK Tryz.prog 274 Tryz.f274 := ⟨Tryz.func274, by decide +kernel, by kernel_rfl, by kernel_rfl⟩
theorem fok275 : FNOK Tryz.prog 275 Tryz.f275 := ⟨Tryz.func275, by decide +kernel, by kernel_rfl, by kernel_rfl⟩
theorem fok276 : FNOK Tryz.prog 276 Tryz.f276 := ⟨Tryz.func276, by decide +kernel, by kernel_rfl, by kernel_rfl⟩
theorem fok277 : FNOK Tryz.prog 277 Tryz.f277 := ⟨Tryz.func277, by decide +kernel, by kernel_rfl, by kernel_rfl⟩
theorem fok278 : FNOK Tryz.prog 278 Tryz.f278 := ⟨Tryz.func278, by decide +kernel, by kernel_rfl, by kernel_rfl⟩
theorem fok279 : FNOK Tryz.prog 279 Tryz.f279 := ⟨Tryz.func279, by decide +kernel, by kernel_rfl, by kernel_rfl⟩
theorem fok28 : FNOK Tryz.prog 28 Tryz.f28 := ⟨Tryz.func28, by decide +kernel, by kernel_rfl, by kernel_rfl⟩
theorem fok280 : FNOK Tryz.prog 280 Tryz.f280 := ⟨Tryz.func280, by decide +kernel, by kernel_rfl, by kernel_rfl⟩
theorem fok281 : FNOK Tryz.prog 281 Tryz.f281 := ⟨Tryz.func281, by decide +kernel, by kernel_rfl, by kernel_rfl⟩
theorem fok282 : FNOK Tryz.prog 282 Tryz.f282 := ⟨Tryz.func282, by decide +kernel, by kernel_rfl, by kernel_rfl⟩
theorem fok283 : FNOK Tryz.prog 283 Tryz.f283 := ⟨Tryz.func283, by decide +kernel, by kernel_rfl, by kernel_rfl⟩
theorem fok284 : FNOK Tryz.prog 284 Tryz.f284 := ⟨Tryz.func284, by decide +kernel, by kernel_rfl, by kernel_rfl⟩
theorem fok285 : FNOK Tryz.prog 285 Tryz.f285 := ⟨Tryz.func285, by decide +kernel, by kernel_rfl, by kernel_rfl⟩
theorem fok286 : FNOK Tryz.prog 286 Tryz.f286 := ⟨Tryz.func286, by decide +kernel, by kernel_rfl, by kernel_rfl⟩
theorem fok287 : FNOK Tryz.prog 287 Tryz.f287 := ⟨Tryz.func287, by decide +kernel, by kernel_rfl, by kernel_rfl⟩
theorem fok289 : FNOK Tryz.prog 289 Tryz.f289 := ⟨Tryz.func289, by decide +kernel, by kernel_rfl, by kernel_rfl⟩
theorem fok29 : FNOK Tryz.prog 29 Tryz.f29 := ⟨Tryz.func29, by decide +kernel, by kernel_rfl, by kernel_rfl⟩
theorem fok290 : FNOK Tryz.prog 290 Tryz.f290 := ⟨Tryz.func290, by decide +kernel, by kernel_rfl, by kernel_rfl⟩
theorem fok291 : FNOK Tryz.prog 291 Tryz.f291 := ⟨Tryz.func291, by decide +kernel, by kernel_rfl, by kernel_rfl⟩
theorem fok292 : FNOK Tryz.prog 292 Tryz.f292 := ⟨Tryz.func292, by decide +kernel, by kernel_rfl, by kernel_rfl⟩
theorem fok293 : FNOK Tryz.prog 293 Tryz.f293 := ⟨Tryz.func293, by decide +kernel, by kernel_rfl, by kernel_rfl⟩
theorem fok294 : FNOK Tryz.prog 294 Tryz.f294 := ⟨Tryz.func294, by decide +kernel, by kernel_rfl, by kernel_rfl⟩
theorem fok3 : FNOK Tryz.prog 3 Tryz.f3 := ⟨Tryz.func3, by decide +kernel, by kernel_rfl, by kernel_rfl⟩
theorem fok30 : FNOK Tryz.prog 30 Tryz.f30 := ⟨Tryz.func30, by decide +kernel, by kernel_rfl, by kernel_rfl⟩
theorem fok301 : FNOK Tryz.prog 301 Tryz.f301 := ⟨Tryz.func301, by decide +kernel, by kernel_rfl, by kernel_rfl⟩
theorem fok302 : FNOK Tryz.prog 302 Tryz.f302 := ⟨Tryz.func302, by decide +kernel, by kernel_rfl, by kernel_rfl⟩
theorem fok303 : FNOK Tryz.prog 303 Tryz.f303 := ⟨Tryz.func303, by decide +kernel, by kernel_rfl, by kernel_rfl⟩
theorem fok304 : FNOK Tryz.prog 304 Tryz.f304 := ⟨Tryz.func304, by decide +kernel, by kernel_rfl, by kernel_rfl⟩
theorem fok305 : FNOK Tryz.prog 305 Tryz.f305 := ⟨Tryz.func305, by decide +kernel, by kernel_rfl, by kernel_rfl⟩
theorem fok307 : FNOK Tryz.prog 307 Tryz.f307 := ⟨Tryz.func307, by decide +kernel, by kernel_rfl, by kernel_rfl⟩
theorem fok31 : FNOK Tryz.prog 31 Tryz.f31 := ⟨Tryz.func31, by decide +kernel, by kernel_rfl, by kernel_rfl⟩
theorem fok310 : FNOK Tryz.prog 310 Tryz.f310 := ⟨Tryz.func310, by decide +kernel, by kernel_rfl, by kernel_rfl⟩
theorem fok311 : FNOK Tryz.prog 311 Tryz.f311 := ⟨Tryz.func311, by decide +kernel, by kernel_rfl, by kernel_rfl⟩
theorem fok312 : FNOK Tryz.prog 312 Tryz.f312 := ⟨Tryz.func312, by decide +kernel, by kernel_rfl, by kernel_rfl⟩
theorem fok313 : FNOK Tryz.prog 313 Tryz.f313 := ⟨Tryz.func313, by decide +kernel, by kernel_rfl, by kernel_rfl⟩
theorem fok314 : FNOK Tryz.prog 314 Tryz.f314 := ⟨Tryz.func314, by decide +kernel, by kernel_rfl, by kernel_rfl⟩
theorem fok315 : FNOK Tryz.prog 315 Tryz.f315 := ⟨Tryz.func315, by decide +kernel, by kernel_rfl, by kernel_rfl⟩
theorem fok316 : FNOK Tryz.prog 316 Tryz.f316 := ⟨Tryz.func316, by decide +kernel, by kernel_rfl, by kernel_rfl⟩
theorem fok317 : FNOK Tryz.prog 317 Tryz.f317 := ⟨Tryz.func317, by decide +kernel, by kernel_rfl, by kernel_rfl⟩
theorem fok318 : FNOK Tryz.prog 318 Tryz.f318 := ⟨Tryz.func318, by decide +kernel, by kernel_rfl, by kernel_rfl⟩
theorem fok319 : FNOK Tryz.prog 319 Tryz.f319 := ⟨Tryz.func319, by decide +kernel, by kernel_rfl, by kernel_rfl⟩
theorem fok32 : FNOK Tryz.prog 32 Tryz.f32 := ⟨Tryz.func32, by decide +kernel, by kernel_rfl, by kernel_rfl⟩
theorem fok320 : FNOK Tryz.prog 320 Tryz.f320 := ⟨Tryz.func320, by decide +kernel, by kernel_rfl, by kernel_rfl⟩
theorem fok321 : FNOK Tryz.prog 321 Tryz.f321 := ⟨Tryz.func321, by decide +kernel, by kernel_rfl, by kernel_rfl⟩
theorem fok322 : FNOK Tryz.prog 322 Tryz.f322 := ⟨Tryz.func322, by decide +kernel, by kernel_rfl, by kernel_rfl⟩
theorem fok323 : FNOK Tryz.prog 323 Tryz.f323 := ⟨Tryz.func323, by decide +kernel, by kernel_rfl, by kernel_rfl⟩
theorem fok324 : FNOK Tryz.prog 324 Tryz.f324 := ⟨Tryz.func324, by decide +kernel, by kernel_rfl, by kernel_rfl⟩
theorem fok325 : FNOK Tryz.prog 325 Tryz.f325 := ⟨Tryz.func325, by decide +kernel, by kernel_rfl, by kernel_rfl⟩
theorem fok326 : FNOK Tryz.prog 326 Tryz.f326 := ⟨Tryz.func326, by decide +kernel, by kernel_rfl, by kernel_rfl⟩
theorem fok327 : FNOK Tryz.prog 327 Tryz.f327 := ⟨Tryz.func327, by decide +kernel, by kernel_rfl, by kernel_rfl⟩
theorem fok328 : FNOK Tryz.prog 328 Tryz.f328 := ⟨Tryz.func328, by decide +kernel, by kernel_rfl, by kernel_rfl⟩
theorem fok329 : FNOK Tryz.prog 329 Tryz.f329 := ⟨Tryz.func329, by decide +kernel, by kernel_rfl, by kernel_rfl⟩
theorem fok33 : FNOK Tryz.prog 33 Tryz.f33 := ⟨Tryz.func33, by decide +kernel, by kernel_rfl, by kernel_rfl⟩
theorem fok330 : FNOK Tryz.prog 330 Tryz.f330 := ⟨Tryz.func330, by decide +kernel, by kernel_rfl, by kernel_rfl⟩
theorem fok332 : FNOK Tryz.prog 332 Tryz.f332 := ⟨Tryz.func332, by decide +kernel, by kernel_rfl, by kernel_rfl⟩
theorem fok333 : FNOK Tryz.prog 333 Tryz.f333 := ⟨Tryz.func333, by decide +kernel, by kernel_rfl, by kernel_rfl⟩
theorem fok334 : FNOK Tryz.prog 334 Tryz.f334 := ⟨Tryz.func334, by decide +kernel, by kernel_rfl, by kernel_rfl⟩
theorem fok336 : FNOK Tryz.prog 336 Tryz.f336 := ⟨Tryz.func336, by decide +kernel, by kernel_rfl, by kernel_rfl⟩
theorem fok337 : FNOK Tryz.prog 337 Tryz.f337 := ⟨Tryz.func337, by decide +kernel, by kernel_rfl, by kernel_rfl⟩
theorem fok339 : FNOK Tryz.prog 339 Tryz.f339 := ⟨Tryz.func339, by decide +kernel, by kernel_rfl, by kernel_rfl⟩
theorem fok34 : FNOK Tryz.prog 34 Tryz.f34 := ⟨Tryz.func34, by decide +kernel, by kernel_rfl, by kernel_rfl⟩
theorem fok340 : FNOK Tryz.prog 340 Tryz.f340 := ⟨Tryz.func340, by decide +kernel, by kernel_rfl, by kernel_rfl⟩
theorem fok341 : FNOK Tryz.prog 341 Tryz.f341 := ⟨Tryz.func341, by decide +kernel, by kernel_rfl, by kernel_rfl⟩
theorem fok342 : FNOK Tryz.prog 342 Tryz.f342 := ⟨Tryz.func342, by decide +kernel, by kernel_rfl, by kernel_rfl⟩
theorem fok343 : FNOK Tryz.prog 343 Tryz.f343 := ⟨Tryz.func343, by decide +kernel, by kernel_rfl, by kernel_rfl⟩
theorem fok344 : FNOK Tryz.prog 344 Tryz.f344 := ⟨Tryz.func344, by decide +kernel, by kernel_rfl, by kernel_rfl⟩
theorem fok345 : FNOK Tryz.prog 345 Tryz.f345 := ⟨Tryz.func345, by decide +kernel, by kernel_rfl, by kernel_rfl⟩
theorem fok346 : FNOK Tryz.prog 346 Tryz.f346 := ⟨Tryz.func346, by decide +kernel, by kernel_rfl, by kernel_rfl⟩
theorem fok347 : FNOK Tryz.prog 347 Tryz.f347 := ⟨Tryz.func347, by decide +kernel, by kernel_rfl, by kernel_rfl⟩
theorem fok348 : FNOK Tryz.prog 348 Tryz.f348 := ⟨Tryz.func348, by decide +kernel, by kernel_rfl, by kernel_rfl⟩
theorem fok349 : FNOK Tryz.prog 349 Tryz.f349 := ⟨Tryz.func349, by decide +kernel, by kernel_rfl, by kernel_rfl⟩
theorem fok35 : FNOK Tryz.prog 35 Tryz.f35 := ⟨Tryz.func35, by decide +kernel, by kernel_rfl, by kernel_rfl⟩
theorem fok352 : FNOK Tryz.prog 352 Tryz.f352 := ⟨Tryz.func352, by decide +kernel, by kernel_rfl, by kernel_rfl⟩
theorem fok353 : FNOK Tryz.prog 353 Tryz.f353 := ⟨Tryz.func353, by decide +kernel, by kernel_rfl, by kernel_rfl⟩
theorem fok354 : FNOK Tryz.prog 354 Tryz.f354 := ⟨Tryz.func354, by decide +kernel, by kernel_rfl, by kernel_rfl⟩
theorem fok355 : FNOK Tryz.prog 355 Tryz.f355 := ⟨Tryz.func355, by decide +kernel, by kernel_rfl, by kernel_rfl⟩
theorem fok356 : FNOK Tryz.prog 356 Tryz.f356 := ⟨Tryz.func356, by decide +kernel, by kernel_rfl, by kernel_rfl⟩
theorem fok357 : FNOK Tryz.prog 357 Tryz.f357 := ⟨Tryz.func357, by decide +kernel, by kernel_rfl, by kernel_rfl⟩
theorem fok358 : FNOK Tryz.prog 358 Tryz.f358 := ⟨Tryz.func358, by decide +kernel, by kernel_rfl, by kernel_rfl⟩
theorem fok359 : FNOK Tryz.prog 359 Tryz.f359 := ⟨Tryz.func359, by decide +kernel, by kernel_rfl, by kernel_rfl⟩
theorem fok36 : FNOK Tryz.prog 36 Tryz.f36 := ⟨Tryz.func36, by decide +kernel, by kernel_rfl, by kernel_rfl⟩
theorem fok37 : FNOK Tryz.prog 37 Tryz.f37 := ⟨Tryz.func37, by decide +kernel, by kernel_rfl, by kernel_rfl⟩
theorem fok379 : FNOK Tryz.prog 379 Tryz.f379 := ⟨Tryz.func379, by decide +kernel, by kernel_rfl, by kernel_rfl⟩
theorem fok38 : FNOK Tryz.prog 38 Tryz.f38 := ⟨Tryz.func38, by decide +kernel, by kernel_rfl, by kernel_rfl⟩
theorem fok380 : FNOK Tryz.prog 380 Tryz.f380 := ⟨Tryz.func380, by decide +kernel, by kernel_rfl, by kernel_rfl⟩
theorem fok381 : FNOK Tryz.prog 381 Tryz.f381 := ⟨Tryz.func381, by decide +kernel, by kernel_rfl, by kernel_rfl⟩
theorem fok382 : FNOK Tryz.prog 382 Tryz.f382 := ⟨Tryz.func382, by decide +kernel, by kernel_rfl, by kernel_rfl⟩
theorem fok383 : FNOK Tryz.prog 383 Tryz.f383 := ⟨Tryz.func383, by decide +kernel, by kernel_rfl, by kernel_rfl⟩
theorem fok384 : FNOK Tryz.prog 384 Tryz.f384 := ⟨Tryz.func384, by decide +kernel, by kernel_rfl, by kernel_rfl⟩
theorem fok385 : FNOK Tryz.prog 385 Tryz.f385 := ⟨Tryz.func385, by decide +kernel, by kernel_rfl, by kernel_rfl⟩
theorem fok39 : FNOK Tryz.prog 39 Tryz.f39 := ⟨Tryz.func39, by decide +kernel, by kernel_rfl, by kernel_rfl⟩
theorem fok4 : FNOK Tryz.prog 4 Tryz.f4 := ⟨Tryz.func4, by decide +kernel, by kernel_rfl, by kernel_rfl⟩
theorem fok40 : FNOK Tryz.prog 40 Tryz.f40 := ⟨Tryz.func40, by decide +kernel, by kernel_rfl, by kernel_rfl⟩
theorem fok41 : FNOK Tryz.prog 41 Tryz.f41 := ⟨Tryz.func41, by decide +kernel, by kernel_rfl, by kernel_rfl⟩
theorem fok42 : FNOK Tryz.prog 42 Tryz.f42 := ⟨Tryz.func42, by decide +kernel, by kernel_rfl, by kernel_rfl⟩
theorem fok43 : FNOK Tryz.prog 43 Tryz.f43 := ⟨Tryz.func43, by decide +kernel, by kernel_rfl, by kernel_rfl⟩
theorem fok44 : FNOK Tryz.prog 44 Tryz.f44 := ⟨Tryz.func44, by decide +kernel, by kernel_rfl, by kernel_rfl⟩
theorem fok45 : FNOK Tryz.prog 45 Tryz.f45 := ⟨Tryz.func45, by decide +kernel, by kernel_rfl, by kernel_rfl⟩
theorem fok46 : FNOK Tryz.prog 46 Tryz.f46 := ⟨Tryz.func46, by decide +kernel, by kernel_rfl, by kernel_rfl⟩
theorem fok47 : FNOK Tryz.prog 47 Tryz.f47 := ⟨Tryz.func47, by decide +kernel, by kernel_rfl, by kernel_rfl⟩
theorem fok48 : FNOK Tryz.prog 48 Tryz.f48 := ⟨Tryz.func48, by decide +kernel, by kernel_rfl, by kernel_rfl⟩
theorem fok49 : FNOK Tryz.prog 49 Tryz.f49 := ⟨Tryz.func49, by decide +kernel, by kernel_rfl, by kernel_rfl⟩
theorem fok5 : FNOK Tryz.prog 5 Tryz.f5 := ⟨Tryz.func5, by decide +kernel, by kernel_rfl, by kernel_rfl⟩
theorem fok50 : FNOK Tryz.prog 50 Tryz.f50 := ⟨Tryz.func50, by decide +kernel, by kernel_rfl, by kernel_rfl⟩
theorem fok51 : FNOK Tryz.prog 51 Tryz.f51 := ⟨Tryz.func51, by decide +kernel, by kernel_rfl, by kernel_rfl⟩
theorem fok52 : FNOK Tryz.prog 52 Tryz.f52 := ⟨Tryz.func52, by decide +kernel, by kernel_rfl, by kernel_rfl⟩
theorem fok53 : FNOK Tryz.prog 53 Tryz.f53 := ⟨Tryz.func53, by decide +kernel, by kernel_rfl, by kernel_rfl⟩
theorem fok54 : FNOK Tryz.prog 54 Tryz.f54 := ⟨Tryz.func54, by decide +kernel, by kernel_rfl, by kernel_rfl⟩
theorem fok55 : FNOK Tryz.prog 55 Tryz.f55 := ⟨Tryz.func55, by decide +kernel, by kernel_rfl, by kernel_rfl⟩
theorem fok56 : FNOK Tryz.prog 56 Tryz.f56 := ⟨Tryz.func56, by decide +kernel, by kernel_rfl, by kernel_rfl⟩
theorem fok57 : FNOK Tryz.prog 57 Tryz.f57 := ⟨Tryz.func57, by decide +kernel, by kernel_rfl, by kernel_rfl⟩
theorem fok58 : FNOK Tryz.prog 58 Tryz.f58 := ⟨Tryz.func58, by decide +kernel, by kernel_rfl, by kernel_rfl⟩
theorem fok59 : FNOK Tryz.prog 59 Tryz.f59 := ⟨Tryz.func59, by decide +kernel, by kernel_rfl, by kernel_rfl⟩
theorem fok6 : FNOK Tryz.prog 6 Tryz.f6 := ⟨Tryz.func6, by decide +kernel, by kernel_rfl, by kernel_rfl⟩
theorem fok60 : FNOK Tryz.prog 60 Tryz.f60 := ⟨Tryz.func60, by decide +kernel, by kernel_rfl, by kernel_rfl⟩
theorem fok61 : FNOK Tryz.prog 61 Tryz.f61 := ⟨Tryz.func61, by decide +kernel, by kernel_rfl, by kernel_rfl⟩
theorem fok62 : FNOK Tryz.prog 62 Tryz.f62 := ⟨Tryz.func62, by decide +kernel, by kernel_rfl, by kernel_rfl⟩
theorem fok63 : FNOK Tryz.prog 63 Tryz.f63 := ⟨Tryz.func63, by decide +kernel, by kernel_rfl, by kernel_rfl⟩
theorem fok64 : FNOK Tryz.prog 64 Tryz.f64 := ⟨Tryz.func64, by decide +kernel, by kernel_rfl, by kernel_rfl⟩
theorem fok65 : FNOK Tryz.prog 65 Tryz.f65 := ⟨Tryz.func65, by decide +kernel, by kernel_rfl, by kernel_rfl⟩
theorem fok66 : FNOK Tryz.prog 66 Tryz.f66 := ⟨Tryz.func66, by decide +kernel, by kernel_rfl, by kernel_rfl⟩
theorem fok67 : FNOK Tryz.prog 67 Tryz.f67 := ⟨Tryz.func67, by decide +kernel, by kernel_rfl, by kernel_rfl⟩
theorem fok68 : FNOK Tryz.prog 68 Tryz.f68 := ⟨Tryz.func68, by decide +kernel, by kernel_rfl, by kernel_rfl⟩
theorem fok69 : FNOK Tryz.prog 69 Tryz.f69 := ⟨Tryz.func69, by decide +kernel, by kernel_rfl, by kernel_rfl⟩
theorem fok7 : FNOK Tryz.prog 7 Tryz.f7 := ⟨Tryz.func7, by decide +kernel, by kernel_rfl, by kernel_rfl⟩
theorem fok70 : FNOK Tryz.prog 70 Tryz.f70 := ⟨Tryz.func70, by decide +kernel, by kernel_rfl, by kernel_rfl⟩
theorem fok71 : FNOK Tryz.prog 71 Tryz.f71 := ⟨Tryz.func71, by decide +kernel, by kernel_rfl, by kernel_rfl⟩
theorem fok72 : FNOK Tryz.prog 72 Tryz.f72 := ⟨Tryz.func72, by decide +kernel, by kernel_rfl, by kernel_rfl⟩
theorem fok73 : FNOK Tryz.prog 73 Tryz.f73 := ⟨Tryz.func73, by decide +kernel, by kernel_rfl, by kernel_rfl⟩
theorem fok74 : FNOK Tryz.prog 74 Tryz.f74 := ⟨Tryz.func74, by decide +kernel, by kernel_rfl, by kernel_rfl⟩
theorem fok75 : FNOK Tryz.prog 75 Tryz.f75 := ⟨Tryz.func75, by decide +kernel, by kernel_rfl, by kernel_rfl⟩
theorem fok76 : FNOK Tryz.prog 76 Tryz.f76 := ⟨Tryz.func76, by decide +kernel, by kernel_rfl, by kernel_rfl⟩
theorem fok77 : FNOK Tryz.prog 77 Tryz.f77 := ⟨Tryz.func77, by decide +kernel, by kernel_rfl, by kernel_rfl⟩
theorem fok78 : FNOK Tryz.prog 78 Tryz.f78 := ⟨Tryz.func78, by decide +kernel, by kernel_rfl, by kernel_rfl⟩
theorem fok79 : FNOK Tryz.prog 79 Tryz.f79 := ⟨Tryz.func79, by decide +kernel, by kernel_rfl, by kernel_rfl⟩
theorem fok8 : FNOK Tryz.prog 8 Tryz.f8 := ⟨Tryz.func8, by decide +kernel, by kernel_rfl, by kernel_rfl⟩
theorem fok80 : FNOK Tryz.prog 80 Tryz.f80 := ⟨Tryz.func80, by decide +kernel, by kernel_rfl, by kernel_rfl⟩
theorem fok81 : FNOK Tryz.prog 81 Tryz.f81 := ⟨Tryz.func81, by decide +kernel, by kernel_rfl, by kernel_rfl⟩
theorem fok82 : FNOK Tryz.prog 82 Tryz.f82 := ⟨Tryz.func82, by decide +kernel, by kernel_rfl, by kernel_rfl⟩
theorem fok83 : FNOK Tryz.prog 83 Tryz.f83 := ⟨Tryz.func83, by decide +kernel, by kernel_rfl, by kernel_rfl⟩
theorem fok84 : FNOK Tryz.prog 84 Tryz.f84 := ⟨Tryz.func84, by decide +kernel, by kernel_rfl, by kernel_rfl⟩
theorem fok85 : FNOK Tryz.prog 85 Tryz.f85 := ⟨Tryz.func85, by decide +kernel, by kernel_rfl, by kernel_rfl⟩
theorem fok86 : FNOK Tryz.prog 86 Tryz.f86 := ⟨Tryz.func86, by decide +kernel, by kernel_rfl, by kernel_rfl⟩
theorem fok87 : FNOK Tryz.prog 87 Tryz.f87 := ⟨Tryz.func87, by decide +kernel, by kernel_rfl, by kernel_rfl⟩
theorem fok88 : FNOK Tryz.prog 88 Tryz.f88 := ⟨Tryz.func88, by decide +kernel, by kernel_rfl, by kernel_rfl⟩
theorem fok89 : FNOK Tryz.prog 89 Tryz.f89 := ⟨Tryz.func89, by decide +kernel, by kernel_rfl, by kernel_rfl⟩
theorem fok9 : FNOK Tryz.prog 9 Tryz.f9 := ⟨Tryz.func9, by decide +kernel, by kernel_rfl, by kernel_rfl⟩
theorem fok90 : FNOK Tryz.prog 90 Tryz.f90 := ⟨Tryz.func90, by decide +kernel, by kernel_rfl, by kernel_rfl⟩
theorem fok91 : FNOK Tryz.prog 91 Tryz.f91 := ⟨Tryz.func91, by decide +kernel, by kernel_rfl, by kernel_rfl⟩
theorem fok92 : FNOK Tryz.prog 92 Tryz.f92 := ⟨Tryz.func92, by decide +kernel, by kernel_rfl, by kernel_rfl⟩
theorem fok93 : FNOK Tryz.prog 93 Tryz.f93 := ⟨Tryz.func93, by decide +kernel, by kernel_rfl, by kernel_rfl⟩
theorem fok94 : FNOK Tryz.prog 94 Tryz.f94 := ⟨Tryz.func94, by decide +kernel, by kernel_rfl, by kernel_rfl⟩
theorem fok95 : FNOK Tryz.prog 95 Tryz.f95 := ⟨Tryz.func95, by decide +kernel, by kernel_rfl, by kernel_rfl⟩
theorem fok96 : FNOK Tryz.prog 96 Tryz.f96 := ⟨Tryz.func96, by decide +kernel, by kernel_rfl, by kernel_rfl⟩
theorem fok97 : FNOK Tryz.prog 97 Tryz.f97 := ⟨Tryz.func97, by decide +kernel, by kernel_rfl, by kernel_rfl⟩
theorem fok98 : FNOK Tryz.prog 98 Tryz.f98 := ⟨Tryz.func98, by decide +kernel, by kernel_rfl, by kernel_rfl⟩
theorem fok99 : FNOK Tryz.prog 99 Tryz.f99 := ⟨Tryz.func99, by decide +kernel, by kernel_rfl, by kernel_rfl⟩
noncomputable def fnL : List (Nat × Func) := [(10, Tryz.f10), (100, Tryz.f100), (101, Tryz.f101), (102, Tryz.f102), (103, Tryz.f103), (104, Tryz.f104), (105, Tryz.f105), (106, Tryz.f106), (107, Tryz.f107), (108, Tryz.f108), (109, Tryz.f109), (11, Tryz.f11), (110, Tryz.f110), (111, Tryz.f111), (112, Tryz.f112), (113, Tryz.f113), (114, Tryz.f114), (115, Tryz.f115), (116, Tryz.f116), (117, Tryz.f117), (118, Tryz.f118), (119, Tryz.f119), (12, Tryz.f12), (120, Tryz.f120), (121, Tryz.f121), (122, Tryz.f122), (123, Tryz.f123), (124, Tryz.f124), (125, Tryz.f125), (126, Tryz.f126), (127, Tryz.f127), (128, Tryz.f128), (129, Tryz.f129), (13, Tryz.f13), (130, Tryz.f130), (131, Tryz.f131), (132, Tryz.f132), (133, Tryz.f133), (134, Tryz.f134), (135, Tryz.f135), (136, Tryz.f136), (137, Tryz.f137), (138, Tryz.f138), (139, Tryz.f139), (14, Tryz.f14), (140, Tryz.f140), (141, Tryz.f141), (142, Tryz.f142), (143, Tryz.f143), (144, Tryz.f144), (145, Tryz.f145), (147, Tryz.f147), (148, Tryz.f148), (149, Tryz.f149), (15, Tryz.f15), (150, Tryz.f150), (151, Tryz.f151), (152, Tryz.f152), (153, Tryz.f153), (154, Tryz.f154), (155, Tryz.f155), (156, Tryz.f156), (157, Tryz.f157), (158, Tryz.f158), (159, Tryz.f159), (16, Tryz.f16), (160, Tryz.f160), (161, Tryz.f161), (162, Tryz.f162), (163, Tryz.f163), (164, Tryz.f164), (165, Tryz.f165), (166, Tryz.f166), (167, Tryz.f167), (168, Tryz.f168), (169, Tryz.f169), (17, Tryz.f17), (170, Tryz.f170), (171, Tryz.f171), (172, Tryz.f172), (173, Tryz.f173), (174, Tryz.f174), (175, Tryz.f175), (176, Tryz.f176), (177, Tryz.f177), (178, Tryz.f178), (179, Tryz.f179), (18, Tryz.f18), (180, Tryz.f180), (181, Tryz.f181), (182, Tryz.f182), (183, Tryz.f183), (184, Tryz.f184), (185, Tryz.f185), (186, Tryz.f186), (187, Tryz.f187), (188, Tryz.f188), (189, Tryz.f189), (19, Tryz.f19), (190, Tryz.f190), (191, Tryz.f191), (192, Tryz.f192), (193, Tryz.f193), (194, Tryz.f194), (195, Tryz.f195), (196, Tryz.f196), (197, Tryz.f197), (198, Tryz.f198), (199, Tryz.f199), (20, Tryz.f20), (200, Tryz.f200), (201, Tryz.f201), (202, Tryz.f202), (203, Tryz.f203), (204, Tryz.f204), (205, Tryz.f205), (206, Tryz.f206), (207, Tryz.f207), (208, Tryz.f208), (209, Tryz.f209), (21, Tryz.f21), (210, Tryz.f210), (211, Tryz.f211), (212, Tryz.f212), (213, Tryz.f213), (214, Tryz.f214), (215, Tryz.f215), (216, Tryz.f216), (217, Tryz.f217), (218, Tryz.f218), (219, Tryz.f219), (22, Tryz.f22), (220, Tryz.f220), (222, Tryz.f222), (223, Tryz.f223), (225, Tryz.f225), (226, Tryz.f226), (227, Tryz.f227), (228, Tryz.f228), (229, Tryz.f229), (23, Tryz.f23), (230, Tryz.f230), (231, Tryz.f231), (232, Tryz.f232), (233, Tryz.f233), (234, Tryz.f234), (235, Tryz.f235), (236, Tryz.f236), (237, Tryz.f237), (24, Tryz.f24), (247, Tryz.f247), (248, Tryz.f248), (249, Tryz.f249), (25, Tryz.f25), (250, Tryz.f250), (251, Tryz.f251), (252, Tryz.f252), (253, Tryz.f253), (254, Tryz.f254), (255, Tryz.f255), (256, Tryz.f256), (257, Tryz.f257), (258, Tryz.f258), (259, Tryz.f259), (26, Tryz.f26), (260, Tryz.f260), (261, Tryz.f261), (262, Tryz.f262), (263, Tryz.f263), (264, Tryz.f264), (265, Tryz.f265), (266, Tryz.f266), (267, Tryz.f267), (268, Tryz.f268), (269, Tryz.f269), (27, Tryz.f27), (270, Tryz.f270), (271, Tryz.f271), (272, Tryz.f272), (273, Tryz.f273), (274, Tryz.f274), (275, Tryz.f275), (276, Tryz.f276), (277, Tryz.f277), (278, Tryz.f278), (279, Tryz.f279), (28, Tryz.f28), (280, Tryz.f280), (281, Tryz.f281), (282, Tryz.f282), (283, Tryz.f283), (284, Tryz.f284), (285, Tryz.f285), (286, Tryz.f286), (287, Tryz.f287), (289, Tryz.f289), (29, Tryz.f29), (290, Tryz.f290), (291, Tryz.f291), (292, Tryz.f292), (293, Tryz.f293), (294, Tryz.f294), (3, Tryz.f3), (30, Tryz.f30), (301, Tryz.f301), (302, Tryz.f302), (303, Tryz.f303), (304, Tryz.f304), (305, Tryz.f305), (307, Tryz.f307), (31, Tryz.f31), (310, Tryz.f310), (311, Tryz.f311), (312, Tryz.f312), (313, Tryz.f313), (314, Tryz.f314), (315, Tryz.f315), (316, Tryz.f316), (317, Tryz.f317), (318, Tryz.f318), (319, Tryz.f319), (32, Tryz.f32), (320, Tryz.f320), (321, Tryz.f321), (322, Tryz.f322), (323, Tryz.f323), (324, Tryz.f324), (325, Tryz.f325), (326, Tryz.f326), (327, Tryz.f327), (328, Tryz.f328), (329, Tryz.f329), (33, Tryz.f33), (330, Tryz.f330), (332, Tryz.f332), (333, Tryz.f333), (334, Tryz.f334), (336, Tryz.f336), (337, Tryz.f337), (339, Tryz.f339), (34, Tryz.f34), (340, Tryz.f340), (341, Tryz.f341), (342, Tryz.f342), (343, Tryz.f343), (344, Tryz.f344), (345, Tryz.f345), (346, Tryz.f346), (347, Tryz.f347), (348, Tryz.f348), (349, Tryz.f349), (35, Tryz.f35), (352, Tryz.f352), (353, Tryz.f353), (354, Tryz.f354), (355, Tryz.f355), (356, Tryz.f356), (357, Tryz.f357), (358, Tryz.f358), (359, Tryz.f359), (36, Tryz.f36), (37, Tryz.f37), (379, Tryz.f379), (38, Tryz.f38), (380, Tryz.f380), (381, Tryz.f381), (382, Tryz.f382), (383, Tryz.f383), (384, Tryz.f384), (385, Tryz.f385), (39, Tryz.f39), (4, Tryz.f4), (40, Tryz.f40), (41, Tryz.f41), (42, Tryz.f42), (43, Tryz.f43), (44, Tryz.f44), (45, Tryz.f45), (46, Tryz.f46), (47, Tryz.f47), (48, Tryz.f48), (49, Tryz.f49), (5, Tryz.f5), (50, Tryz.f50), (51, Tryz.f51), (52, Tryz.f52), (53, Tryz.f53), (54, Tryz.f54), (55, Tryz.f55), (56, Tryz.f56), (57, Tryz.f57), (58, Tryz.f58), (59, Tryz.f59), (6, Tryz.f6), (60, Tryz.f60), (61, Tryz.f61), (62, Tryz.f62), (63, Tryz.f63), (64, Tryz.f64), (65, Tryz.f65), (66, Tryz.f66), (67, Tryz.f67), (68, Tryz.f68), (69, Tryz.f69), (7, Tryz.f7), (70, Tryz.f70), (71, Tryz.f71), (72, Tryz.f72), (73, Tryz.f73), (74, Tryz.f74), (75, Tryz.f75), (76, Tryz.f76), (77, Tryz.f77), (78, Tryz.f78), (79, Tryz.f79), (8, Tryz.f8), (80, Tryz.f80), (81, Tryz.f81), (82, Tryz.f82), (83, Tryz.f83), (84, Tryz.f84), (85, Tryz.f85), (86, Tryz.f86), (87, Tryz.f87), (88, Tryz.f88), (89, Tryz.f89), (9, Tryz.f9), (90, Tryz.f90), (91, Tryz.f91), (92, Tryz.f92), (93, Tryz.f93), (94, Tryz.f94), (95, Tryz.f95), (96, Tryz.f96), (97, Tryz.f97), (98, Tryz.f98), (99, Tryz.f99)]
noncomputable def fnT : Tr Func := .n none (.n none (.n (some Tryz.f3) (.n (some Tryz.f7) (.n (some Tryz.f15) (.n (some Tryz.f31) (.n (some Tryz.f63) (.n (some Tryz.f127) (.n (some Tryz.f255) (.e) (.e)) (.n (some Tryz.f383) (.e) (.e))) (.n (some Tryz.f191) (.n (some Tryz.f319) (.e) (.e)) (.e))) (.n (some Tryz.f95) (.n (some Tryz.f159) (.n (some Tryz.f287) (.e) (.e)) (.e)) (.n (some Tryz.f223) (.e) (.e)))) (.n (some Tryz.f47) (.n (some Tryz.f79) (.n (some Tryz.f143) (.n (some Tryz.f271) (.e) (.e)) (.e)) (.n (some Tryz.f207) (.e) (.e))) (.n (some Tryz.f111) (.n (some Tryz.f175) (.n (some Tryz.f303) (.e) (.e)) (.e)) (.e)))) (.n (some Tryz.f23) (.n (some Tryz.f39) (.n (some Tryz.f71) (.n (some Tryz.f135) (.n (some Tryz.f263) (.e) (.e)) (.e)) (.n (some Tryz.f199) (.n (some Tryz.f327) (.e) (.e)) (.e))) (.n (some Tryz.f103) (.n (some Tryz.f167) (.e) (.e)) (.n (some Tryz.f231) (.n (some Tryz.f359) (.e) (.e)) (.e)))) (.n (some Tryz.f55) (.n (some Tryz.f87) (.n (some Tryz.f151) (.n (some Tryz.f279) (.e) (.e)) (.e)) (.n (some Tryz.f215) (.n (some Tryz.f343) (.e) (.e)) (.e))) (.n (some Tryz.f119) (.n (some Tryz.f183) (.n (some Tryz.f311) (.e) (.e)) (.e)) (.n (some Tryz.f247) (.e) (.e)))))) (.n (some Tryz.f11) (.n (some Tryz.f19) (.n (some Tryz.f35) (.n (some Tryz.f67) (.n (some Tryz.f131) (.n (some Tryz.f259) (.e) (.e)) (.e)) (.n (some Tryz.f195) (.n (some Tryz.f323) (.e) (.e)) (.e))) (.n (some Tryz.f99) (.n (some Tryz.f163) (.n (some Tryz.f291) (.e) (.e)) (.e)) (.n (some Tryz.f227) (.n (some Tryz.f355) (.e) (.e)) (.e)))) (.n (some Tryz.f51) (.n (some Tryz.f83) (.n (some Tryz.f147) (.n (some Tryz.f275) (.e) (.e)) (.e)) (.n (some Tryz.f211) (.n (some Tryz.f339) (.e) (.e)) (.e))) (.n (some Tryz.f115) (.n (some Tryz.f179) (.n (some Tryz.f307) (.e) (.e)) (.e)) (.e)))) (.n (some Tryz.f27) (.n (some Tryz.f43) (.n (some Tryz.f75) (.n (some Tryz.f139) (.n (some Tryz.f267) (.e) (.e)) (.e)) (.n (some Tryz.f203) (.e) (.e))) (.n (some Tryz.f107) (.n (some Tryz.f171) (.e) (.e)) (.n (some Tryz.f235) (.e) (.e)))) (.n (some Tryz.f59) (.n (some Tryz.f91) (.n (some Tryz.f155) (.n (some Tryz.f283) (.e) (.e)) (.e)) (.n (some Tryz.f219) (.n (some Tryz.f347) (.e) (.e)) (.e))) (.n (some Tryz.f123) (.n (some Tryz.f187) (.n (some Tryz.f315) (.e) (.e)) (.e)) (.n (some Tryz.f251) (.n (some Tryz.f379) (.e) (.e)) (.e))))))) (.n (some Tryz.f5) (.n (some Tryz.f9) (.n (some Tryz.f17) (.n (some Tryz.f33) (.n (some Tryz.f65) (.n (some Tryz.f129) (.n (some Tryz.f257) (.e) (.e)) (.n (some Tryz.f385) (.e) (.e))) (.n (some Tryz.f193) (.n (some Tryz.f321) (.e) (.e)) (.e))) (.n (some Tryz.f97) (.n (some Tryz.f161) (.n (some Tryz.f289) (.e) (.e)) (.e)) (.n (some Tryz.f225) (.n (some Tryz.f353) (.e) (.e)) (.e)))) (.n (some Tryz.f49) (.n (some Tryz.f81) (.n (some Tryz.f145) (.n (some Tryz.f273) (.e) (.e)) (.e)) (.n (some Tryz.f209) (.n (some Tryz.f337) (.e) (.e)) (.e))) (.n (some Tryz.f113) (.n (some Tryz.f177) (.n (some Tryz.f305) (.e) (.e)) (.e)) (.e)))) (.n (some Tryz.f25) (.n (some Tryz.f41) (.n (some Tryz.f73) (.n (some Tryz.f137) (.n (some Tryz.f265) (.e) (.e)) (.e)) (.n (some Tryz.f201) (.n (some Tryz.f329) (.e) (.e)) (.e))) (.n (some Tryz.f105) (.n (some Tryz.f169) (.e) (.e)) (.n (some Tryz.f233) (.e) (.e)))) (.n (some Tryz.f57) (.n (some Tryz.f89) (.n (some Tryz.f153) (.n (some Tryz.f281) (.e) (.e)) (.e)) (.n (some Tryz.f217) (.n (some Tryz.f345) (.e) (.e)) (.e))) (.n (some Tryz.f121) (.n (some Tryz.f185) (.n (some Tryz.f313) (.e) (.e)) (.e)) (.n (some Tryz.f249) (.e) (.e)))))) (.n (some Tryz.f13) (.n (some Tryz.f21) (.n (some Tryz.f37) (.n (some Tryz.f69) (.n (some Tryz.f133) (.n (some Tryz.f261) (.e) (.e)) (.e)) (.n (some Tryz.f197) (.n (some Tryz.f325) (.e) (.e)) (.e))) (.n (some Tryz.f101) (.n (some Tryz.f165) (.n (some Tryz.f293) (.e) (.e)) (.e)) (.n (some Tryz.f229) (.n (some Tryz.f357) (.e) (.e)) (.e)))) (.n (some Tryz.f53) (.n (some Tryz.f85) (.n (some Tryz.f149) (.n (some Tryz.f277) (.e) (.e)) (.e)) (.n (some Tryz.f213) (.n (some Tryz.f341) (.e) (.e)) (.e))) (.n (some Tryz.f117) (.n (some Tryz.f181) (.e) (.e)) (.e)))) (.n (some Tryz.f29) (.n (some Tryz.f45) (.n (some Tryz.f77) (.n (some Tryz.f141) (.n (some Tryz.f269) (.e) (.e)) (.e)) (.n (some Tryz.f205) (.n (some Tryz.f333) (.e) (.e)) (.e))) (.n (some Tryz.f109) (.n (some Tryz.f173) (.n (some Tryz.f301) (.e) (.e)) (.e)) (.n (some Tryz.f237) (.e) (.e)))) (.n (some Tryz.f61) (.n (some Tryz.f93) (.n (some Tryz.f157) (.n (some Tryz.f285) (.e) (.e)) (.e)) (.n none (.n (some Tryz.f349) (.e) (.e)) (.e))) (.n (some Tryz.f125) (.n (some Tryz.f189) (.n (some Tryz.f317) (.e) (.e)) (.e)) (.n (some Tryz.f253) (.n (some Tryz.f381) (.e) (.e)) (.e)))))))) (.n none (.n (some Tryz.f4) (.n (some Tryz.f8) (.n (some Tryz.f16) (.n (some Tryz.f32) (.n (some Tryz.f64) (.n (some Tryz.f128) (.n (some Tryz.f256) (.e) (.e)) (.n (some Tryz.f384) (.e) (.e))) (.n (some Tryz.f192) (.n (some Tryz.f320) (.e) (.e)) (.e))) (.n (some Tryz.f96) (.n (some Tryz.f160) (.e) (.e)) (.n none (.n (some Tryz.f352) (.e) (.e)) (.e)))) (.n (some Tryz.f48) (.n (some Tryz.f80) (.n (some Tryz.f144) (.n (some Tryz.f272) (.e) (.e)) (.e)) (.n (some Tryz.f208) (.n (some Tryz.f336) (.e) (.e)) (.e))) (.n (some Tryz.f112) (.n (some Tryz.f176) (.n (some Tryz.f304) (.e) (.e)) (.e)) (.e)))) (.n (some Tryz.f24) (.n (some Tryz.f40) (.n (some Tryz.f72) (.n (some Tryz.f136) (.n (some Tryz.f264) (.e) (.e)) (.e)) (.n (some Tryz.f200) (.n (some Tryz.f328) (.e) (.e)) (.e))) (.n (some Tryz.f104) (.n (some Tryz.f168) (.e) (.e)) (.n (some Tryz.f232) (.e) (.e)))) (.n (some Tryz.f56) (.n (some Tryz.f88) (.n (some Tryz.f152) (.n (some Tryz.f280) (.e) (.e)) (.e)) (.n (some Tryz.f216) (.n (some Tryz.f344) (.e) (.e)) (.e))) (.n (some Tryz.f120) (.n (some Tryz.f184) (.n (some Tryz.f312) (.e) (.e)) (.e)) (.n (some Tryz.f248) (.e) (.e)))))) (.n (some Tryz.f12) (.n (some Tryz.f20) (.n (some Tryz.f36) (.n (some Tryz.f68) (.n (some Tryz.f132) (.n (some Tryz.f260) (.e) (.e)) (.e)) (.n (some Tryz.f196) (.n (some Tryz.f324) (.e) (.e)) (.e))) (.n (some Tryz.f100) (.n (some Tryz.f164) (.n (some Tryz.f292) (.e) (.e)) (.e)) (.n (some Tryz.f228) (.n (some Tryz.f356) (.e) (.e)) (.e)))) (.n (some Tryz.f52) (.n (some Tryz.f84) (.n (some Tryz.f148) (.n (some Tryz.f276) (.e) (.e)) (.e)) (.n (some Tryz.f212) (.n (some Tryz.f340) (.e) (.e)) (.e))) (.n (some Tryz.f116) (.n (some Tryz.f180) (.e) (.e)) (.e)))) (.n (some Tryz.f28) (.n (some Tryz.f44) (.n (some Tryz.f76) (.n (some Tryz.f140) (.n (some Tryz.f268) (.e) (.e)) (.e)) (.n (some Tryz.f204) (.n (some Tryz.f332) (.e) (.e)) (.e))) (.n (some Tryz.f108) (.n (some Tryz.f172) (.e) (.e)) (.n (some Tryz.f236) (.e) (.e)))) (.n (some Tryz.f60) (.n (some Tryz.f92) (.n (some Tryz.f156) (.n (some Tryz.f284) (.e) (.e)) (.e)) (.n (some Tryz.f220) (.n (some Tryz.f348) (.e) (.e)) (.e))) (.n (some Tryz.f124) (.n (some Tryz.f188) (.n (some Tryz.f316) (.e) (.e)) (.e)) (.n (some Tryz.f252) (.n (some Tryz.f380) (.e) (.e)) (.e))))))) (.n (some Tryz.f6) (.n (some Tryz.f10) (.n (some Tryz.f18) (.n (some Tryz.f34) (.n (some Tryz.f66) (.n (some Tryz.f130) (.n (some Tryz.f258) (.e) (.e)) (.e)) (.n (some Tryz.f194) (.n (some Tryz.f322) (.e) (.e)) (.e))) (.n (some Tryz.f98) (.n (some Tryz.f162) (.n (some Tryz.f290) (.e) (.e)) (.e)) (.n (some Tryz.f226) (.n (some Tryz.f354) (.e) (.e)) (.e)))) (.n (some Tryz.f50) (.n (some Tryz.f82) (.n none (.n (some Tryz.f274) (.e) (.e)) (.e)) (.n (some Tryz.f210) (.e) (.e))) (.n (some Tryz.f114) (.n (some Tryz.f178) (.e) (.e)) (.e)))) (.n (some Tryz.f26) (.n (some Tryz.f42) (.n (some Tryz.f74) (.n (some Tryz.f138) (.n (some Tryz.f266) (.e) (.e)) (.e)) (.n (some Tryz.f202) (.n (some Tryz.f330) (.e) (.e)) (.e))) (.n (some Tryz.f106) (.n (some Tryz.f170) (.e) (.e)) (.n (some Tryz.f234) (.e) (.e)))) (.n (some Tryz.f58) (.n (some Tryz.f90) (.n (some Tryz.f154) (.n (some Tryz.f282) (.e) (.e)) (.e)) (.n (some Tryz.f218) (.n (some Tryz.f346) (.e) (.e)) (.e))) (.n (some Tryz.f122) (.n (some Tryz.f186) (.n (some Tryz.f314) (.e) (.e)) (.e)) (.n (some Tryz.f250) (.e) (.e)))))) (.n (some Tryz.f14) (.n (some Tryz.f22) (.n (some Tryz.f38) (.n (some Tryz.f70) (.n (some Tryz.f134) (.n (some Tryz.f262) (.e) (.e)) (.e)) (.n (some Tryz.f198) (.n (some Tryz.f326) (.e) (.e)) (.e))) (.n (some Tryz.f102) (.n (some Tryz.f166) (.n (some Tryz.f294) (.e) (.e)) (.e)) (.n (some Tryz.f230) (.n (some Tryz.f358) (.e) (.e)) (.e)))) (.n (some Tryz.f54) (.n (some Tryz.f86) (.n (some Tryz.f150) (.n (some Tryz.f278) (.e) (.e)) (.e)) (.n (some Tryz.f214) (.n (some Tryz.f342) (.e) (.e)) (.e))) (.n (some Tryz.f118) (.n (some Tryz.f182) (.n (some Tryz.f310) (.e) (.e)) (.e)) (.e)))) (.n (some Tryz.f30) (.n (some Tryz.f46) (.n (some Tryz.f78) (.n (some Tryz.f142) (.n (some Tryz.f270) (.e) (.e)) (.e)) (.n (some Tryz.f206) (.n (some Tryz.f334) (.e) (.e)) (.e))) (.n (some Tryz.f110) (.n (some Tryz.f174) (.n (some Tryz.f302) (.e) (.e)) (.e)) (.e))) (.n (some Tryz.f62) (.n (some Tryz.f94) (.n (some Tryz.f158) (.n (some Tryz.f286) (.e) (.e)) (.e)) (.n (some Tryz.f222) (.e) (.e))) (.n (some Tryz.f126) (.n (some Tryz.f190) (.n (some Tryz.f318) (.e) (.e)) (.e)) (.n (some Tryz.f254) (.n (some Tryz.f382) (.e) (.e)) (.e))))))))
theorem fnT_eq : fnT = ofL fnL := by kernel_rfl
theorem fnL_ok : ∀ p ∈ fnL, FNOK Tryz.prog p.1 p.2 := allc fok10 (allc fok100 (allc fok101 (allc fok102 (allc fok103 (allc fok104 (allc fok105 (allc fok106 (allc fok107 (allc fok108 (allc fok109 (allc fok11 (allc fok110 (allc fok111 (allc fok112 (allc fok113 (allc fok114 (allc fok115 (allc fok116 (allc fok117 (allc fok118 (allc fok119 (allc fok12 (allc fok120 (allc fok121 (allc fok122 (allc fok123 (allc fok124 (allc fok125 (allc fok126 (allc fok127 (allc fok128 (allc fok129 (allc fok13 (allc fok130 (allc fok131 (allc fok132 (allc fok133 (allc fok134 (allc fok135 (allc fok136 (allc fok137 (allc fok138 (allc fok139 (allc fok14 (allc fok140 (allc fok141 (allc fok142 (allc fok143 (allc fok144 (allc fok145 (allc fok147 (allc fok148 (allc fok149 (allc fok15 (allc fok150 (allc fok151 (allc fok152 (allc fok153 (allc fok154 (allc fok155 (allc fok156 (allc fok157 (allc fok158 (allc fok159 (allc fok16 (allc fok160 (allc fok161 (allc fok162 (allc fok163 (allc fok164 (allc fok165 (allc fok166 (allc fok167 (allc fok168 (allc fok169 (allc fok17 (allc fok170 (allc fok171 (allc fok172 (allc fok173 (allc fok174 (allc fok175 (allc fok176 (allc fok177 (allc fok178 (allc fok179 (allc fok18 (allc fok180 (allc fok181 (allc fok182 (allc fok183 (allc fok184 (allc fok185 (allc fok186 (allc fok187 (allc fok188 (allc fok189 (allc fok19 (allc fok190 (allc fok191 (allc fok192 (allc fok193 (allc fok194 (allc fok195 (allc fok196 (allc fok197 (allc fok198 (allc fok199 (allc fok20 (allc fok200 (allc fok201 (allc fok202 (allc fok203 (allc fok204 (allc fok205 (allc fok206 (allc fok207 (allc fok208 (allc fok209 (allc fok21 (allc fok210 (allc fok211 (allc fok212 (allc fok213 (allc fok214 (allc fok215 (allc fok216 (allc fok217 (allc fok218 (allc fok219 (allc fok22 (allc fok220 (allc fok222 (allc fok223 (allc fok225 (allc fok226 (allc fok227 (allc fok228 (allc fok229 (allc fok23 (allc fok230 (allc fok231 (allc fok232 (allc fok233 (allc fok234 (allc fok235 (allc fok236 (allc fok237 (allc fok24 (allc fok247 (allc fok248 (allc fok249 (allc fok25 (allc fok250 (allc fok251 (allc fok252 (allc fok253 (allc fok254 (allc fok255 (allc fok256 (allc fok257 (allc fok258 (allc fok259 (allc fok26 (allc fok260 (allc fok261 (allc fok262 (allc fok263 (allc fok264 (allc fok265 (allc fok266 (allc fok267 (allc fok268 (allc fok269 (allc fok27 (allc fok270 (allc fok271 (allc fok272 (allc fok273 (allc fok274 (allc fok275 (allc fok276 (allc fok277 (allc fok278 (allc fok279 (allc fok28 (allc fok280 (allc fok281 (allc fok282 (allc fok283 (allc fok284 (allc fok285 (allc fok286 (allc fok287 (allc fok289 (allc fok29 (allc fok290 (allc fok291 (allc fok292 (allc fok293 (allc fok294 (allc fok3 (allc fok30 (allc fok301 (allc fok302 (allc fok303 (allc fok304 (allc fok305 (allc fok307 (allc fok31 (allc fok310 (allc fok311 (allc fok312 (allc fok313 (allc fok314 (allc fok315 (allc fok316 (allc fok317 (allc fok318 (allc fok319 (allc fok32 (allc fok320 (allc fok321 (allc fok322 (allc fok323 (allc fok324 (allc fok325 (allc fok326 (allc fok327 (allc fok328 (allc fok329 (allc fok33 (allc fok330 (allc fok332 (allc fok333 (allc fok334 (allc fok336 (allc fok337 (allc fok339 (allc fok34 (allc fok340 (allc fok341 (allc fok342 (allc fok343 (allc fok344 (allc fok345 (allc fok346 (allc fok347 (allc fok348 (allc fok349 (allc fok35 (allc fok352 (allc fok353 (allc fok354 (allc fok355 (allc fok356 (allc fok357 (allc fok358 (allc fok359 (allc fok36 (allc fok37 (allc fok379 (allc fok38 (allc fok380 (allc fok381 (allc fok382 (allc fok383 (allc fok384 (allc fok385 (allc fok39 (allc fok4 (allc fok40 (allc fok41 (allc fok42 (allc fok43 (allc fok44 (allc fok45 (allc fok46 (allc fok47 (allc fok48 (allc fok49 (allc fok5 (allc fok50 (allc fok51 (allc fok52 (allc fok53 (allc fok54 (allc fok55 (allc fok56 (allc fok57 (allc fok58 (allc fok59 (allc fok6 (allc fok60 (allc fok61 (allc fok62 (allc fok63 (allc fok64 (allc fok65 (allc fok66 (allc fok67 (allc fok68 (allc fok69 (allc fok7 (allc fok70 (allc fok71 (allc fok72 (allc fok73 (allc fok74 (allc fok75 (allc fok76 (allc fok77 (allc fok78 (allc fok79 (allc fok8 (allc fok80 (allc fok81 (allc fok82 (allc fok83 (allc fok84 (allc fok85 (allc fok86 (allc fok87 (allc fok88 (allc fok89 (allc fok9 (allc fok90 (allc fok91 (allc fok92 (allc fok93 (allc fok94 (allc fok95 (allc fok96 (allc fok97 (allc fok98 (allc fok99 (alln)))))))))))))))))))))))))))))))))))))))))))))))))))))))))))))))))))))))))))))))))))))))))))))))))))))))))))))))))))))))))))))))))))))))))))))))))))))))))))))))))))))))))))))))))))))))))))))))))))))))))))))))))))))))))))))))))))))))))))))))))))))))))))))))))))))))))))))))))))))))))))))))))))))))))))))))))))))))))))))))))))))))))))))))))
theorem mok245_0 : MethOK Tryz.prog 245 ("Len", 164, (some 239)) := methok (ptr := false) (by kernel_rfl) (by kernel_rfl)
theorem mok245_1 : MethOK Tryz.prog 245 ("Less", 379, (some 239)) := methok (ptr := false) (by kernel_rfl) (by kernel_rfl)
theorem mok245_2 : MethOK Tryz.prog 245 ("Pop", 381, none) := methok (ptr := true) (by kernel_rfl) (by kernel_rfl)
theorem mok245_3 : MethOK Tryz.prog 245 ("Push", 382, none) := methok (ptr := true) (by kernel_rfl) (by kernel_rfl)
theorem mok245_4 : MethOK Tryz.prog 245 ("Swap", 380, (some 239)) := methok (ptr := false) (by kernel_rfl) (by kernel_rfl)
theorem mok267_0 : MethOK Tryz.prog 267 ("Step", 383, none) := methok (ptr := true) (by kernel_rfl) (by kernel_rfl)
theorem mok344_0 : MethOK Tryz.prog 344 ("Step", 384, none) := methok (ptr := true) (by kernel_rfl) (by kernel_rfl)
theorem mok396_0 : MethOK Tryz.prog 396 ("Step", 385, none) := methok (ptr := true) (by kernel_rfl) (by kernel_rfl)
theorem mok48_0 : MethOK Tryz.prog 48 ("Step", 21, none) := methok (ptr := true) (by kernel_rfl) (by kernel_rfl)
theorem mok64_0 : MethOK Tryz.prog 64 ("Step", 339, none) := methok (ptr := true) (by kernel_rfl) (by kernel_rfl)
theorem mok72_0 : MethOK Tryz.prog 72 ("Step", 302, none) := methok (ptr := true) (by kernel_rfl) (by kernel_rfl)
theorem mok73_0 : MethOK Tryz.prog 73 ("Step", 337, none) := methok (ptr := true) (by kernel_rfl) (by kernel_rfl)
noncomputable def mL : List (Nat × List (String × Nat × Option Nat)) := [(245, [("Len", 164, (some 239)), ("Less", 379, (some 239)), ("Pop", 381, none), ("Push", 382, none), ("Swap", 380, (some 239))]), (267, [("Step", 383, none)]), (344, [("Step", 384, none)]), (396, [("Step", 385, none)]), (48, [("Step", 21, none)]), (64, [("Step", 339, none)]), (72, [("Step", 302, none)]), (73, [("Step", 337, none)])]
noncomputable def mT : Tr (List (String × Nat × Option Nat)) := .n none (.n none (.n none (.e) (.n none (.e) (.n none (.n none (.n none (.n none (.n (some [("Step", 383, none)]) (.e) (.e)) (.e)) (.e)) (.e)) (.e)))) (.n none (.n none (.e) (.n none (.n none (.n (some [("Step", 337, none)]) (.e) (.e)) (.e)) (.e))) (.n none (.n none (.e) (.n none (.e) (.n none (.e) (.n (some [("Len", 164, (some 239)), ("Less", 379, (some 239)), ("Pop", 381, none), ("Push", 382, none), ("Swap", 380, (some 239))]) (.e) (.e))))) (.e)))) (.n none (.n none (.n none (.n none (.n none (.n (some [("Step", 339, none)]) (.e) (.e)) (.e)) (.n (some [("Step", 21, none)]) (.e) (.e))) (.n none (.n none (.n (some [("Step", 302, none)]) (.e) (.e)) (.e)) (.n none (.n none (.e) (.n none (.n (some [("Step", 384, none)]) (.e) (.e)) (.e))) (.e)))) (.n none (.e) (.n none (.n none (.n none (.n none (.e) (.n (some [("Step", 385, none)]) (.e) (.e))) (.e)) (.e)) (.e)))) (.e))
theorem mT_eq : mT = ofL mL := by kernel_rfl
theorem mL_ok : ∀ q ∈ mL, ∀ p ∈ q.2, MethOK Tryz.prog q.1 p := allc (allc (mok245_0) (allc (mok245_1) (allc (mok245_2) (allc (mok245_3) (allc (mok245_4) (alln)))))) (allc (allc (mok267_0) (alln)) (allc (allc (mok344_0) (alln)) (allc (allc (mok396_0) (alln)) (allc (allc (mok48_0) (alln)) (allc (allc (mok64_0) (alln)) (allc (allc (mok72_0) (alln)) (allc (allc (mok73_0) (alln)) (alln))))))))
noncomputable def iL : List (Nat × List (Nat × Bool)) := []
noncomputable def iT : Tr (List (Nat × Bool)) := .e
theorem iT_eq : iT = ofL iL := by kernel_rfl
theorem iL_ok : ∀ q ∈ iL, ∀ p ∈ q.2, ∃ want i, Tryz.prog.underlying q.1 = some (.interface want) ∧ Tryz.prog.info? p.1 = some i ∧ (Instr.missingMethod want i.methods).isNone = p.2 := alln
theorem xok360 : (1 : Nat) = 1 ∧ EXTOK Tryz.prog 360 := ⟨rfl, ⟨Tryz.f360, Tryz.func360, by decide +kernel, by kernel_rfl, by kernel_rfl, by kernel_rfl⟩⟩
noncomputable def eL : List (Nat × Nat) := [(360, 1)]
noncomputable def eT : Tr Nat := .n none (.e) (.n none (.n none (.n none (.e) (.n none (.n none (.e) (.n none (.e) (.n none (.n (some 1) (.e) (.e)) (.e)))) (.e))) (.e)) (.e))
theorem eT_eq : eT = ofL eL := by kernel_rfl
theorem eL_ok : ∀ q ∈ eL, q.2 = 1 ∧ EXTOK Tryz.prog q.1 := allc (xok360) (alln)
theorem lok107 : PlainOK Tryz.prog 107 := plainok (Tryz.stoodInHeld107) Tryz.eqGuardType107 Tryz.underlying107 (by kernel_rfl)
theorem lok114 : PlainOK Tryz.prog 114 := plainok (Tryz.stoodInHeld114) Tryz.eqGuardType114 Tryz.underlying114 (by kernel_rfl)
theorem lok120 : PlainOK Tryz.prog 120 := plainok (Tryz.stoodInHeld120) Tryz.eqGuardType120 Tryz.underlying120 (by kernel_rfl)
theorem lok125 : PlainOK Tryz.prog 125 := plainok (Tryz.stoodInHeld125) Tryz.eqGuardType125 Tryz.underlying125 (by kernel_rfl)
theorem lok127 : PlainOK Tryz.prog 127 := plainok (Tryz.stoodInHeld127) Tryz.eqGuardType127 Tryz.underlying127 (by kernel_rfl)
theorem lok140 : PlainOK Tryz.prog 140 := plainok (Tryz.stoodInHeld140) Tryz.eqGuardType140 Tryz.underlying140 (by kernel_rfl)
theorem lok142 : PlainOK Tryz.prog 142 := plainok (by kernel_rfl) Tryz.eqGuardType142 Tryz.underlying142 (by kernel_rfl)
theorem lok151 : PlainOK Tryz.prog 151 := plainok (Tryz.stoodInHeld151) Tryz.eqGuardType151 Tryz.underlying151 (by kernel_rfl)
theorem lok156 : PlainOK Tryz.prog 156 := plainok (Tryz.stoodInHeld156) Tryz.eqGuardType156 Tryz.underlying156 (by kernel_rfl)
theorem lok160 : PlainOK Tryz.prog 160 := plainok (Tryz.stoodInHeld160) Tryz.eqGuardType160 Tryz.underlying160 (by kernel_rfl)
theorem lok176 : PlainOK Tryz.prog 176 := plainok (Tryz.stoodInHeld176) Tryz.eqGuardType176 Tryz.underlying176 (by kernel_rfl)
theorem lok200 : PlainOK Tryz.prog 200 := plainok (Tryz.stoodInHeld200) Tryz.eqGuardType200 Tryz.underlying200 (by kernel_rfl)
theorem lok206 : PlainOK Tryz.prog 206 := plainok (Tryz.stoodInHeld206) Tryz.eqGuardType206 Tryz.underlying206 (by kernel_rfl)
theorem lok211 : PlainOK Tryz.prog 211 := plainok (Tryz.stoodInHeld211) Tryz.eqGuardType211 Tryz.underlying211 (by kernel_rfl)
theorem lok219 : PlainOK Tryz.prog 219 := plainok (Tryz.stoodInHeld219) Tryz.eqGuardType219 Tryz.underlying219 (by kernel_rfl)
theorem lok231 : PlainOK Tryz.prog 231 := plainok (Tryz.stoodInHeld231) Tryz.eqGuardType231 Tryz.underlying231 (by kernel_rfl)
theorem lok241 : PlainOK Tryz.prog 241 := plainok (Tryz.stoodInHeld241) Tryz.eqGuardType241 Tryz.underlying241 (by kernel_rfl)
theorem lok242 : PlainOK Tryz.prog 242 := plainok (by kernel_rfl) Tryz.eqGuardType242 Tryz.underlying242 (by kernel_rfl)
theorem lok254 : PlainOK Tryz.prog 254 := plainok (Tryz.stoodInHeld254) Tryz.eqGuardType254 Tryz.underlying254 (by kernel_rfl)
theorem lok258 : PlainOK Tryz.prog 258 := plainok (Tryz.stoodInHeld258) Tryz.eqGuardType258 Tryz.underlying258 (by kernel_rfl)
theorem lok263 : PlainOK Tryz.prog 263 := plainok (Tryz.stoodInHeld263) Tryz.eqGuardType263 Tryz.underlying263 (by kernel_rfl)
theorem lok264 : PlainOK Tryz.prog 264 := plainok (by kernel_rfl) Tryz.eqGuardType264 Tryz.underlying264 (by kernel_rfl)
theorem lok266 : PlainOK Tryz.prog 266 := plainok (Tryz.stoodInHeld266) Tryz.eqGuardType266 Tryz.underlying266 (by kernel_rfl)
theorem lok272 : PlainOK Tryz.prog 272 := plainok (Tryz.stoodInHeld272) Tryz.eqGuardType272 Tryz.underlying272 (by kernel_rfl)
theorem lok282 : PlainOK Tryz.prog 282 := plainok (by kernel_rfl) Tryz.eqGuardType282 Tryz.underlying282 (by kernel_rfl)
theorem lok297 : PlainOK Tryz.prog 297 := plainok (Tryz.stoodInHeld297) Tryz.eqGuardType297 Tryz.underlying297 (by kernel_rfl)
theorem lok31 : PlainOK Tryz.prog 31 := plainok (Tryz.stoodInHeld31) Tryz.eqGuardType31 Tryz.underlying31 (by kernel_rfl)
theorem lok338 : PlainOK Tryz.prog 338 := plainok (Tryz.stoodInHeld338) Tryz.eqGuardType338 Tryz.underlying338 (by kernel_rfl)
theorem lok359 : PlainOK Tryz.prog 359 := plainok (Tryz.stoodInHeld359) Tryz.eqGuardType359 Tryz.underlying359 (by kernel_rfl)
theorem lok376 : PlainOK Tryz.prog 376 := plainok (by kernel_rfl) Tryz.eqGuardType376 Tryz.underlying376 (by kernel_rfl)
theorem lok378 : PlainOK Tryz.prog 378 := plainok (Tryz.stoodInHeld378) Tryz.eqGuardType378 Tryz.underlying378 (by kernel_rfl)
theorem lok387 : PlainOK Tryz.prog 387 := plainok (Tryz.stoodInHeld387) Tryz.eqGuardType387 Tryz.underlying387 (by kernel_rfl)
theorem lok395 : PlainOK Tryz.prog 395 := plainok (Tryz.stoodInHeld395) Tryz.eqGuardType395 Tryz.underlying395 (by kernel_rfl)
theorem lok403 : PlainOK Tryz.prog 403 := plainok (Tryz.stoodInHeld403) Tryz.eqGuardType403 Tryz.underlying403 (by kernel_rfl)
theorem lok411 : PlainOK Tryz.prog 411 := plainok (Tryz.stoodInHeld411) Tryz.eqGuardType411 Tryz.underlying411 (by kernel_rfl)
theorem lok413 : PlainOK Tryz.prog 413 := plainok (Tryz.stoodInHeld413) Tryz.eqGuardType413 Tryz.underlying413 (by kernel_rfl)
theorem lok44 : PlainOK Tryz.prog 44 := plainok (by kernel_rfl) Tryz.eqGuardType44 Tryz.underlying44 (by kernel_rfl)
theorem lok47 : PlainOK Tryz.prog 47 := plainok (Tryz.stoodInHeld47) Tryz.eqGuardType47 Tryz.underlying47 (by kernel_rfl)
theorem lok52 : PlainOK Tryz.prog 52 := plainok (Tryz.stoodInHeld52) Tryz.eqGuardType52 Tryz.underlying52 (by kernel_rfl)
theorem lok66 : PlainOK Tryz.prog 66 := plainok (Tryz.stoodInHeld66) Tryz.eqGuardType66 Tryz.underlying66 (by kernel_rfl)
theorem lok68 : PlainOK Tryz.prog 68 := plainok (by kernel_rfl) Tryz.eqGuardType68 Tryz.underlying68 (by kernel_rfl)
theorem lok69 : PlainOK Tryz.prog 69 := plainok (by kernel_rfl) Tryz.eqGuardType69 Tryz.underlying69 (by kernel_rfl)
theorem lok71 : PlainOK Tryz.prog 71 := plainok (Tryz.stoodInHeld71) Tryz.eqGuardType71 Tryz.underlying71 (by kernel_rfl)
theorem lok75 : PlainOK Tryz.prog 75 := plainok (Tryz.stoodInHeld75) Tryz.eqGuardType75 Tryz.underlying75 (by kernel_rfl)
theorem lok83 : PlainOK Tryz.prog 83 := plainok (Tryz.stoodInHeld83) Tryz.eqGuardType83 Tryz.underlying83 (by kernel_rfl)
theorem lok87 : PlainOK Tryz.prog 87 := plainok (Tryz.stoodInHeld87) Tryz.eqGuardType87 Tryz.underlying87 (by kernel_rfl)
theorem lok89 : PlainOK Tryz.prog 89 := plainok (Tryz.stoodInHeld89) Tryz.eqGuardType89 Tryz.underlying89 (by kernel_rfl)
theorem lok99 : PlainOK Tryz.prog 99 := plainok (Tryz.stoodInHeld99) Tryz.eqGuardType99 Tryz.underlying99 (by kernel_rfl)
noncomputable def pL : List (Nat × Unit) := [(107, ()), (114, ()), (120, ()), (125, ()), (127, ()), (140, ()), (142, ()), (151, ()), (156, ()), (160, ()), (176, ()), (200, ()), (206, ()), (211, ()), (219, ()), (231, ()), (241, ()), (242, ()), (254, ()), (258, ()), (263, ()), (264, ()), (266, ()), (272, ()), (282, ()), (297, ()), (31, ()), (338, ()), (359, ()), (376, ()), (378, ()), (387, ()), (395, ()), (403, ()), (411, ()), (413, ()), (44, ()), (47, ()), (52, ()), (66, ()), (68, ()), (69, ()), (71, ()), (75, ()), (83, ()), (87, ()), (89, ()), (99, ())]
noncomputable def pT : Tr Unit := .n none (.n none (.n none (.n none (.n none (.n (some ()) (.n none (.n (some ()) (.e) (.e)) (.e)) (.e)) (.n (some ()) (.e) (.e))) (.n none (.n none (.n (some ()) (.n none (.n (some ()) (.e) (.e)) (.e)) (.e)) (.n none (.e) (.n (some ()) (.n (some ()) (.e) (.e)) (.e)))) (.n none (.n (some ()) (.n (some ()) (.e) (.e)) (.e)) (.e)))) (.n none (.n none (.n none (.n none (.n none (.e) (.n (some ()) (.e) (.e))) (.e)) (.n (some ()) (.e) (.e))) (.n none (.n (some ()) (.n none (.e) (.n (some ()) (.e) (.e))) (.n (some ()) (.e) (.e))) (.e))) (.n none (.n none (.n (some ()) (.n none (.e) (.n (some ()) (.e) (.e))) (.e)) (.n (some ()) (.e) (.e))) (.n none (.n none (.n none (.e) (.n (some ()) (.e) (.e))) (.n (some ()) (.e) (.e))) (.e))))) (.n none (.n none (.n none (.e) (.n none (.e) (.n none (.e) (.n (some ()) (.e) (.e))))) (.n none (.n none (.e) (.n none (.n none (.n (some ()) (.e) (.e)) (.e)) (.e))) (.n none (.n (some ()) (.e) (.e)) (.e)))) (.n none (.n none (.n none (.n (some ()) (.e) (.e)) (.e)) (.e)) (.n none (.e) (.n none (.n none (.n none (.e) (.n (some ()) (.e) (.e))) (.e)) (.n (some ()) (.e) (.e))))))) (.n none (.n none (.n none (.n none (.n none (.e) (.n none (.n (some ()) (.e) (.e)) (.e))) (.n none (.n none (.n none (.n (some ()) (.e) (.e)) (.e)) (.e)) (.n none (.n (some ()) (.e) (.e)) (.e)))) (.n none (.n none (.n none (.n none (.n (some ()) (.e) (.e)) (.e)) (.n (some ()) (.e) (.e))) (.e)) (.n none (.e) (.n (some ()) (.e) (.n none (.n (some ()) (.e) (.e)) (.e)))))) (.n none (.n none (.n none (.n (some ()) (.e) (.e)) (.e)) (.n (some ()) (.e) (.e))) (.n none (.n (some ()) (.n none (.n (some ()) (.e) (.e)) (.e)) (.e)) (.n none (.n none (.n (some ()) (.e) (.e)) (.e)) (.e))))) (.n none (.n none (.n none (.n none (.n (some ()) (.n none (.n (some ()) (.e) (.e)) (.e)) (.e)) (.e)) (.n none (.n none (.e) (.n none (.n (some ()) (.e) (.e)) (.e))) (.n (some ()) (.e) (.n (some ()) (.e) (.e))))) (.n none (.n none (.n none (.n none (.n (some ()) (.e) (.e)) (.e)) (.e)) (.e)) (.n none (.n none (.n none (.n (some ()) (.e) (.e)) (.e)) (.e)) (.n none (.e) (.n none (.n (some ()) (.e) (.e)) (.e)))))) (.n none (.e) (.n none (.n none (.n none (.n (some ()) (.e) (.e)) (.n (some ()) (.e) (.e))) (.e)) (.n none (.e) (.n none (.e) (.n (some ()) (.e) (.e))))))))
theorem pT_eq : pT = ofL pL := by kernel_rfl
theorem pL_ok : ∀ q ∈ pL, PlainOK Tryz.prog q.1 := allc (lok107) (allc (lok114) (allc (lok120) (allc (lok125) (allc (lok127) (allc (lok140) (allc (lok142) (allc (lok151) (allc (lok156) (allc (lok160) (allc (lok176) (allc (lok200) (allc (lok206) (allc (lok211) (allc (lok219) (allc (lok231) (allc (lok241) (allc (lok242) (allc (lok254) (allc (lok258) (allc (lok263) (allc (lok264) (allc (lok266) (allc (lok272) (allc (lok282) (allc (lok297) (allc (lok31) (allc (lok338) (allc (lok359) (allc (lok376) (allc (lok378) (allc (lok387) (allc (lok395) (allc (lok403) (allc (lok411) (allc (lok413) (allc (lok44) (allc (lok47) (allc (lok52) (allc (lok66) (allc (lok68) (allc (lok69) (allc (lok71) (allc (lok75) (allc (lok83) (allc (lok87) (allc (lok89) (allc (lok99) (alln))))))))))))))))))))))))))))))))))))))))))))))))
noncomputable def env : Env := ⟨tyT, fnT, mT, iT, eT, pT⟩
theorem env_ok : EnvOK Tryz.prog env ∧ FnsOK Tryz.prog env := envok tyT_eq tyL_ok fnT_eq fnL_ok (by kernel_rfl) mT_eq mL_ok iT_eq iL_ok eT_eq eL_ok pT_eq pL_ok
end Go.Proofs.YtoiafibgbeadeaaGreat.Ev
