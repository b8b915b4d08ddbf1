/- The environment of the abstract machine: the functions and the types that the runs need, and that they are the program's. -/
import Derived.Test.YtdhnacajgmjmlaaProg
import Derived.Eval
import Derived.KernelRfl
import Derived.Test.YtdhnacajgmjmlaaEvT
namespace Go.Proofs.Ytdhnacajgmjmlaa.Ev
set_option maxRecDepth 100000
noncomputable def u3 : { d // Try.prog.underlying 3 = some d } := ⟨_, Try.underlying3⟩
noncomputable def t3 : TI := ⟨u3.1, 1, 8, .int .i64 (.ofNat 0)⟩
theorem ok3 : TIOK Try.prog 3 t3 := tiok u3.2 (by kernel_rfl)
noncomputable def u4 : { d // Try.prog.underlying 4 = some d } := ⟨_, Try.underlying4⟩
noncomputable def t4 : TI := ⟨u4.1, 1, 1, .bool false⟩
theorem ok4 : TIOK Try.prog 4 t4 := tiok u4.2 (by kernel_rfl)
noncomputable def u5 : { d // Try.prog.underlying 5 = some d } := ⟨_, Try.underlying5⟩
noncomputable def t5 : TI := ⟨u5.1, 1, 1, .int .u8 (.ofNat 0)⟩
theorem ok5 : TIOK Try.prog 5 t5 := tiok u5.2 (by kernel_rfl)
noncomputable def u9 : { d // Try.prog.underlying 9 = some d } := ⟨_, Try.underlying9⟩
noncomputable def t9 : TI := ⟨u9.1, 1, 16, .str ⟨#[]⟩⟩
theorem ok9 : TIOK Try.prog 9 t9 := tiok u9.2 (by kernel_rfl)
noncomputable def u22 : { d // Try.prog.underlying 22 = some d } := ⟨_, Try.underlying22⟩
noncomputable def t22 : TI := ⟨u22.1, 1, 24, .nilsl⟩
theorem ok22 : TIOK Try.prog 22 t22 := tiok u22.2 (by kernel_rfl)
noncomputable def u25 : { d // Try.prog.underlying 25 = some d } := ⟨_, Try.underlying25⟩
noncomputable def t25 : TI := ⟨u25.1, 1, 8, .nilptr⟩
theorem ok25 : TIOK Try.prog 25 t25 := tiok u25.2 (by kernel_rfl)
noncomputable def u26 : { d // Try.prog.underlying 26 = some d } := ⟨_, Try.underlying26⟩
noncomputable def t26 : TI := ⟨u26.1, 1, 8, .int .i64 (.ofNat 0)⟩
theorem ok26 : TIOK Try.prog 26 t26 := tiok u26.2 (by kernel_rfl)
noncomputable def u29 : { d // Try.prog.underlying 29 = some d } := ⟨_, Try.underlying29⟩
noncomputable def t29 : TI := ⟨u29.1, 1, 8, .int .u64 (.ofNat 0)⟩
theorem ok29 : TIOK Try.prog 29 t29 := tiok u29.2 (by kernel_rfl)
noncomputable def u32 : { d // Try.prog.underlying 32 = some d } := ⟨_, Try.underlying32⟩
noncomputable def t32 : TI := ⟨u32.1, 1, 8, .int .u64 (.ofNat 0)⟩
theorem ok32 : TIOK Try.prog 32 t32 := tiok u32.2 (by kernel_rfl)
noncomputable def u35 : { d // Try.prog.underlying 35 = some d } := ⟨_, Try.underlying35⟩
noncomputable def t35 : TI := ⟨u35.1, 3, 40, .agg [.nilptr, .nilsl, .int .i64 (.ofNat 0)]⟩
theorem ok35 : TIOK Try.prog 35 t35 := tiok u35.2 (by kernel_rfl)
noncomputable def u38 : { d // Try.prog.underlying 38 = some d } := ⟨_, Try.underlying38⟩
noncomputable def t38 : TI := ⟨u38.1, 1, 8, .nilfunc⟩
theorem ok38 : TIOK Try.prog 38 t38 := tiok u38.2 (by kernel_rfl)
noncomputable def u43 : { d // Try.prog.underlying 43 = some d } := ⟨_, Try.underlying43⟩
noncomputable def t43 : TI := ⟨u43.1, 4, 32, .agg [.int .u64 (.ofNat 0), .int .u64 (.ofNat 0), .int .u64 (.ofNat 0), .int .u64 (.ofNat 0)]⟩
theorem ok43 : TIOK Try.prog 43 t43 := tiok u43.2 (by kernel_rfl)
noncomputable def u69 : { d // Try.prog.underlying 69 = some d } := ⟨_, Try.underlying69⟩
noncomputable def t69 : TI := ⟨u69.1, 1, 8, .nilptr⟩
theorem ok69 : TIOK Try.prog 69 t69 := tiok u69.2 (by kernel_rfl)
noncomputable def u70 : { d // Try.prog.underlying 70 = some d } := ⟨_, Try.underlying70⟩
noncomputable def t70 : TI := ⟨u70.1, 1, 8, .nilptr⟩
theorem ok70 : TIOK Try.prog 70 t70 := tiok u70.2 (by kernel_rfl)
noncomputable def u71 : { d // Try.prog.underlying 71 = some d } := ⟨_, Try.underlying71⟩
noncomputable def t71 : TI := ⟨u71.1, 1, 8, .nilptr⟩
theorem ok71 : TIOK Try.prog 71 t71 := tiok u71.2 (by kernel_rfl)
noncomputable def u73 : { d // Try.prog.underlying 73 = some d } := ⟨_, Try.underlying73⟩
noncomputable def t73 : TI := ⟨u73.1, 3, 24, .agg [.nilptr, .nilptr, .nilptr]⟩
theorem ok73 : TIOK Try.prog 73 t73 := tiok u73.2 (by kernel_rfl)
noncomputable def u74 : { d // Try.prog.underlying 74 = some d } := ⟨_, Try.underlying74⟩
noncomputable def t74 : TI := ⟨u74.1, 1, 24, .nilsl⟩
theorem ok74 : TIOK Try.prog 74 t74 := tiok u74.2 (by kernel_rfl)
noncomputable def u75 : { d // Try.prog.underlying 75 = some d } := ⟨_, Try.underlying75⟩
noncomputable def t75 : TI := ⟨u75.1, 1, 8, .nilmap⟩
theorem ok75 : TIOK Try.prog 75 t75 := tiok u75.2 (by kernel_rfl)
noncomputable def u77 : { d // Try.prog.underlying 77 = some d } := ⟨_, Try.underlying77⟩
noncomputable def t77 : TI := ⟨u77.1, 7, 88, .agg [.nilsl, .nilsl, .nilmap, .int .u64 (.ofNat 0), .int .u64 (.ofNat 0), .int .u64 (.ofNat 0), .int .u64 (.ofNat 0)]⟩
theorem ok77 : TIOK Try.prog 77 t77 := tiok u77.2 (by kernel_rfl)
noncomputable def u103 : { d // Try.prog.underlying 103 = some d } := ⟨_, Try.underlying103⟩
noncomputable def t103 : TI := ⟨u103.1, 1, 24, .nilsl⟩
theorem ok103 : TIOK Try.prog 103 t103 := tiok u103.2 (by kernel_rfl)
noncomputable def u109 : { d // Try.prog.underlying 109 = some d } := ⟨_, Try.underlying109⟩
noncomputable def t109 : TI := ⟨u109.1, 3, 24, .agg [.int .i64 (.ofNat 0), .bool false, .int .i64 (.ofNat 0)]⟩
theorem ok109 : TIOK Try.prog 109 t109 := tiok u109.2 (by kernel_rfl)
noncomputable def u114 : { d // Try.prog.underlying 114 = some d } := ⟨_, Try.underlying114⟩
noncomputable def t114 : TI := ⟨u114.1, 2, 16, .agg [.nilptr, .int .u64 (.ofNat 0)]⟩
theorem ok114 : TIOK Try.prog 114 t114 := tiok u114.2 (by kernel_rfl)
noncomputable def u137 : { d // Try.prog.underlying 137 = some d } := ⟨_, Try.underlying137⟩
noncomputable def t137 : TI := ⟨u137.1, 1, 24, .nilsl⟩
theorem ok137 : TIOK Try.prog 137 t137 := tiok u137.2 (by kernel_rfl)
noncomputable def u138 : { d // Try.prog.underlying 138 = some d } := ⟨_, Try.underlying138⟩
noncomputable def t138 : TI := ⟨u138.1, 1, 8, .nilmap⟩
theorem ok138 : TIOK Try.prog 138 t138 := tiok u138.2 (by kernel_rfl)
noncomputable def u139 : { d // Try.prog.underlying 139 = some d } := ⟨_, Try.underlying139⟩
noncomputable def t139 : TI := ⟨u139.1, 1, 8, .nilptr⟩
theorem ok139 : TIOK Try.prog 139 t139 := tiok u139.2 (by kernel_rfl)
noncomputable def u140 : { d // Try.prog.underlying 140 = some d } := ⟨_, Try.underlying140⟩
noncomputable def t140 : TI := ⟨u140.1, 4, 32, .agg [.nilptr, .nilptr, .nilptr, .nilptr]⟩
theorem ok140 : TIOK Try.prog 140 t140 := tiok u140.2 (by kernel_rfl)
noncomputable def u142 : { d // Try.prog.underlying 142 = some d } := ⟨_, Try.underlying142⟩
noncomputable def t142 : TI := ⟨u142.1, 7, 72, .agg [.int .i64 (.ofNat 0), .nilsl, .nilptr, .nilptr, .nilptr, .nilptr, .nilmap]⟩
theorem ok142 : TIOK Try.prog 142 t142 := tiok u142.2 (by kernel_rfl)
noncomputable def u149 : { d // Try.prog.underlying 149 = some d } := ⟨_, Try.underlying149⟩
noncomputable def t149 : TI := ⟨u149.1, 2, 16, .agg [.int .i64 (.ofNat 0), .int .u64 (.ofNat 0)]⟩
theorem ok149 : TIOK Try.prog 149 t149 := tiok u149.2 (by kernel_rfl)
noncomputable def u158 : { d // Try.prog.underlying 158 = some d } := ⟨_, Try.underlying158⟩
noncomputable def t158 : TI := ⟨u158.1, 64, 512, .agg [.int .u64 (.ofNat 0), .int .u64 (.ofNat 0), .int .u64 (.ofNat 0), .int .u64 (.ofNat 0), .int .u64 (.ofNat 0), .int .u64 (.ofNat 0), .int .u64 (.ofNat 0), .int .u64 (.ofNat 0), .int .u64 (.ofNat 0), .int .u64 (.ofNat 0), .int .u64 (.ofNat 0), .int .u64 (.ofNat 0), .int .u64 (.ofNat 0), .int .u64 (.ofNat 0), .int .u64 (.ofNat 0), .int .u64 (.ofNat 0), .int .u64 (.ofNat 0), .int .u64 (.ofNat 0), .int .u64 (.ofNat 0), .int .u64 (.ofNat 0), .int .u64 (.ofNat 0), .int .u64 (.ofNat 0), .int .u64 (.ofNat 0), .int .u64 (.ofNat 0), .int .u64 (.ofNat 0), .int .u64 (.ofNat 0), .int .u64 (.ofNat 0), .int .u64 (.ofNat 0), .int .u64 (.ofNat 0), .int .u64 (.ofNat 0), .int .u64 (.ofNat 0), .int .u64 (.ofNat 0), .int .u64 (.ofNat 0), .int .u64 (.ofNat 0), .int .u64 (.ofNat 0), .int .u64 (.ofNat 0), .int .u64 (.ofNat 0), .int .u64 (.ofNat 0), .int .u64 (.ofNat 0), .int .u64 (.ofNat 0), .int .u64 (.ofNat 0), .int .u64 (.ofNat 0), .int .u64 (.ofNat 0), .int .u64 (.ofNat 0), .int .u64 (.ofNat 0), .int .u64 (.ofNat 0), .int .u64 (.ofNat 0), .int .u64 (.ofNat 0), .int .u64 (.ofNat 0), .int .u64 (.ofNat 0), .int .u64 (.ofNat 0), .int .u64 (.ofNat 0), .int .u64 (.ofNat 0), .int .u64 (.ofNat 0), .int .u64 (.ofNat 0), .int .u64 (.ofNat 0), .int .u64 (.ofNat 0), .int .u64 (.ofNat 0), .int .u64 (.ofNat 0), .int .u64 (.ofNat 0), .int .u64 (.ofNat 0), .int .u64 (.ofNat 0), .int .u64 (.ofNat 0), .int .u64 (.ofNat 0)]⟩
theorem ok158 : TIOK Try.prog 158 t158 := tiok u158.2 (by kernel_rfl)
noncomputable def u160 : { d // Try.prog.underlying 160 = some d } := ⟨_, Try.underlying160⟩
noncomputable def t160 : TI := ⟨u160.1, 66, 528, .agg [.int .i64 (.ofNat 0), .nilmap, .int .u64 (.ofNat 0), .int .u64 (.ofNat 0), .int .u64 (.ofNat 0), .int .u64 (.ofNat 0), .int .u64 (.ofNat 0), .int .u64 (.ofNat 0), .int .u64 (.ofNat 0), .int .u64 (.ofNat 0), .int .u64 (.ofNat 0), .int .u64 (.ofNat 0), .int .u64 (.ofNat 0), .int .u64 (.ofNat 0), .int .u64 (.ofNat 0), .int .u64 (.ofNat 0), .int .u64 (.ofNat 0), .int .u64 (.ofNat 0), .int .u64 (.ofNat 0), .int .u64 (.ofNat 0), .int .u64 (.ofNat 0), .int .u64 (.ofNat 0), .int .u64 (.ofNat 0), .int .u64 (.ofNat 0), .int .u64 (.ofNat 0), .int .u64 (.ofNat 0), .int .u64 (.ofNat 0), .int .u64 (.ofNat 0), .int .u64 (.ofNat 0), .int .u64 (.ofNat 0), .int .u64 (.ofNat 0), .int .u64 (.ofNat 0), .int .u64 (.ofNat 0), .int .u64 (.ofNat 0), .int .u64 (.ofNat 0), .int .u64 (.ofNat 0), .int .u64 (.ofNat 0), .int .u64 (.ofNat 0), .int .u64 (.ofNat 0), .int .u64 (.ofNat 0), .int .u64 (.ofNat 0), .int .u64 (.ofNat 0), .int .u64 (.ofNat 0), .int .u64 (.ofNat 0), .int .u64 (.ofNat 0), .int .u64 (.ofNat 0), .int .u64 (.ofNat 0), .int .u64 (.ofNat 0), .int .u64 (.ofNat 0), .int .u64 (.ofNat 0), .int .u64 (.ofNat 0), .int .u64 (.ofNat 0), .int .u64 (.ofNat 0), .int .u64 (.ofNat 0), .int .u64 (.ofNat 0), .int .u64 (.ofNat 0), .int .u64 (.ofNat 0), .int .u64 (.ofNat 0), .int .u64 (.ofNat 0), .int .u64 (.ofNat 0), .int .u64 (.ofNat 0), .int .u64 (.ofNat 0), .int .u64 (.ofNat 0), .int .u64 (.ofNat 0), .int .u64 (.ofNat 0), .int .u64 (.ofNat 0)]⟩
theorem ok160 : TIOK Try.prog 160 t160 := tiok u160.2 (by kernel_rfl)
noncomputable def u165 : { d // Try.prog.underlying 165 = some d } := ⟨_, Try.underlying165⟩
noncomputable def t165 : TI := ⟨u165.1, 1, 24, .nilsl⟩
theorem ok165 : TIOK Try.prog 165 t165 := tiok u165.2 (by kernel_rfl)
noncomputable def u166 : { d // Try.prog.underlying 166 = some d } := ⟨_, Try.underlying166⟩
noncomputable def t166 : TI := ⟨u166.1, 65, 520, .agg [.int .i64 (.ofNat 0), .int .i64 (.ofNat 0), .int .i64 (.ofNat 0), .int .i64 (.ofNat 0), .int .i64 (.ofNat 0), .int .i64 (.ofNat 0), .int .i64 (.ofNat 0), .int .i64 (.ofNat 0), .int .i64 (.ofNat 0), .int .i64 (.ofNat 0), .int .i64 (.ofNat 0), .int .i64 (.ofNat 0), .int .i64 (.ofNat 0), .int .i64 (.ofNat 0), .int .i64 (.ofNat 0), .int .i64 (.ofNat 0), .int .i64 (.ofNat 0), .int .i64 (.ofNat 0), .int .i64 (.ofNat 0), .int .i64 (.ofNat 0), .int .i64 (.ofNat 0), .int .i64 (.ofNat 0), .int .i64 (.ofNat 0), .int .i64 (.ofNat 0), .int .i64 (.ofNat 0), .int .i64 (.ofNat 0), .int .i64 (.ofNat 0), .int .i64 (.ofNat 0), .int .i64 (.ofNat 0), .int .i64 (.ofNat 0), .int .i64 (.ofNat 0), .int .i64 (.ofNat 0), .int .i64 (.ofNat 0), .int .i64 (.ofNat 0), .int .i64 (.ofNat 0), .int .i64 (.ofNat 0), .int .i64 (.ofNat 0), .int .i64 (.ofNat 0), .int .i64 (.ofNat 0), .int .i64 (.ofNat 0), .int .i64 (.ofNat 0), .int .i64 (.ofNat 0), .int .i64 (.ofNat 0), .int .i64 (.ofNat 0), .int .i64 (.ofNat 0), .int .i64 (.ofNat 0), .int .i64 (.ofNat 0), .int .i64 (.ofNat 0), .int .i64 (.ofNat 0), .int .i64 (.ofNat 0), .int .i64 (.ofNat 0), .int .i64 (.ofNat 0), .int .i64 (.ofNat 0), .int .i64 (.ofNat 0), .int .i64 (.ofNat 0), .int .i64 (.ofNat 0), .int .i64 (.ofNat 0), .int .i64 (.ofNat 0), .int .i64 (.ofNat 0), .int .i64 (.ofNat 0), .int .i64 (.ofNat 0), .int .i64 (.ofNat 0), .int .i64 (.ofNat 0), .int .i64 (.ofNat 0), .int .i64 (.ofNat 0)]⟩
theorem ok166 : TIOK Try.prog 166 t166 := tiok u166.2 (by kernel_rfl)
noncomputable def u168 : { d // Try.prog.underlying 168 = some d } := ⟨_, Try.underlying168⟩
noncomputable def t168 : TI := ⟨u168.1, 66, 544, .agg [.nilsl, .int .i64 (.ofNat 0), .int .i64 (.ofNat 0), .int .i64 (.ofNat 0), .int .i64 (.ofNat 0), .int .i64 (.ofNat 0), .int .i64 (.ofNat 0), .int .i64 (.ofNat 0), .int .i64 (.ofNat 0), .int .i64 (.ofNat 0), .int .i64 (.ofNat 0), .int .i64 (.ofNat 0), .int .i64 (.ofNat 0), .int .i64 (.ofNat 0), .int .i64 (.ofNat 0), .int .i64 (.ofNat 0), .int .i64 (.ofNat 0), .int .i64 (.ofNat 0), .int .i64 (.ofNat 0), .int .i64 (.ofNat 0), .int .i64 (.ofNat 0), .int .i64 (.ofNat 0), .int .i64 (.ofNat 0), .int .i64 (.ofNat 0), .int .i64 (.ofNat 0), .int .i64 (.ofNat 0), .int .i64 (.ofNat 0), .int .i64 (.ofNat 0), .int .i64 (.ofNat 0), .int .i64 (.ofNat 0), .int .i64 (.ofNat 0), .int .i64 (.ofNat 0), .int .i64 (.ofNat 0), .int .i64 (.ofNat 0), .int .i64 (.ofNat 0), .int .i64 (.ofNat 0), .int .i64 (.ofNat 0), .int .i64 (.ofNat 0), .int .i64 (.ofNat 0), .int .i64 (.ofNat 0), .int .i64 (.ofNat 0), .int .i64 (.ofNat 0), .int .i64 (.ofNat 0), .int .i64 (.ofNat 0), .int .i64 (.ofNat 0), .int .i64 (.ofNat 0), .int .i64 (.ofNat 0), .int .i64 (.ofNat 0), .int .i64 (.ofNat 0), .int .i64 (.ofNat 0), .int .i64 (.ofNat 0), .int .i64 (.ofNat 0), .int .i64 (.ofNat 0), .int .i64 (.ofNat 0), .int .i64 (.ofNat 0), .int .i64 (.ofNat 0), .int .i64 (.ofNat 0), .int .i64 (.ofNat 0), .int .i64 (.ofNat 0), .int .i64 (.ofNat 0), .int .i64 (.ofNat 0), .int .i64 (.ofNat 0), .int .i64 (.ofNat 0), .int .i64 (.ofNat 0), .int .i64 (.ofNat 0), .int .i64 (.ofNat 0)]⟩
theorem ok168 : TIOK Try.prog 168 t168 := tiok u168.2 (by kernel_rfl)
noncomputable def u171 : { d // Try.prog.underlying 171 = some d } := ⟨_, Try.underlying171⟩
noncomputable def t171 : TI := ⟨u171.1, 2, 16, .agg [.int .u64 (.ofNat 0), .int .u64 (.ofNat 0)]⟩
theorem ok171 : TIOK Try.prog 171 t171 := tiok u171.2 (by kernel_rfl)
noncomputable def u180 : { d // Try.prog.underlying 180 = some d } := ⟨_, Try.underlying180⟩
noncomputable def t180 : TI := ⟨u180.1, 1, 24, .nilsl⟩
theorem ok180 : TIOK Try.prog 180 t180 := tiok u180.2 (by kernel_rfl)
noncomputable def u182 : { d // Try.prog.underlying 182 = some d } := ⟨_, Try.underlying182⟩
noncomputable def t182 : TI := ⟨u182.1, 1, 24, .agg [.nilsl]⟩
theorem ok182 : TIOK Try.prog 182 t182 := tiok u182.2 (by kernel_rfl)
noncomputable def tyL : List (Nat × TI) := [(3, t3), (4, t4), (5, t5), (9, t9), (22, t22), (25, t25), (26, t26), (29, t29), (32, t32), (35, t35), (38, t38), (43, t43), (69, t69), (70, t70), (71, t71), (73, t73), (74, t74), (75, t75), (77, t77), (103, t103), (109, t109), (114, t114), (137, t137), (138, t138), (139, t139), (140, t140), (142, t142), (149, t149), (158, t158), (160, t160), (165, t165), (166, t166), (168, t168), (171, t171), (180, t180), (182, t182)]
noncomputable def tyT : Tr TI := .n none (.n none (.n (some t3) (.n none (.e) (.n none (.n none (.n (some t71) (.e) (.e)) (.n (some t103) (.e) (.e))) (.e))) (.n none (.n none (.n (some t35) (.e) (.e)) (.e)) (.n none (.n (some t43) (.n (some t75) (.n (some t139) (.e) (.e)) (.e)) (.n none (.n (some t171) (.e) (.e)) (.e))) (.e)))) (.n (some t5) (.n (some t9) (.e) (.n (some t25) (.n none (.n (some t73) (.n (some t137) (.e) (.e)) (.e)) (.e)) (.e))) (.n none (.n none (.n none (.n (some t69) (.e) (.e)) (.n none (.n (some t165) (.e) (.e)) (.e))) (.n none (.n none (.n (some t149) (.e) (.e)) (.e)) (.e))) (.n (some t29) (.n none (.n (some t77) (.e) (.e)) (.n (some t109) (.e) (.e))) (.e))))) (.n none (.n (some t4) (.n none (.n none (.n (some t32) (.e) (.n none (.n (some t160) (.e) (.e)) (.e))) (.e)) (.n none (.n none (.e) (.n none (.n (some t168) (.e) (.e)) (.e))) (.e))) (.n none (.n none (.e) (.n none (.e) (.n none (.n (some t180) (.e) (.e)) (.e)))) (.n none (.n none (.n none (.n (some t140) (.e) (.e)) (.e)) (.e)) (.e)))) (.n none (.n none (.n none (.e) (.n none (.e) (.n (some t114) (.e) (.e)))) (.n (some t26) (.n none (.n (some t74) (.n (some t138) (.e) (.e)) (.e)) (.e)) (.e))) (.n none (.n (some t22) (.n (some t38) (.n (some t70) (.e) (.e)) (.n none (.n (some t166) (.e) (.e)) (.e))) (.n none (.e) (.n none (.n (some t182) (.e) (.e)) (.e)))) (.n none (.n none (.n none (.n (some t142) (.e) (.e)) (.e)) (.e)) (.n none (.n none (.n (some t158) (.e) (.e)) (.e)) (.e))))))
theorem tyT_eq : tyT = ofL tyL := by kernel_rfl
theorem tyL_ok : ∀ p ∈ tyL, TIOK Try.prog p.1 p.2 := allc ok3 (allc ok4 (allc ok5 (allc ok9 (allc ok22 (allc ok25 (allc ok26 (allc ok29 (allc ok32 (allc ok35 (allc ok38 (allc ok43 (allc ok69 (allc ok70 (allc ok71 (allc ok73 (allc ok74 (allc ok75 (allc ok77 (allc ok103 (allc ok109 (allc ok114 (allc ok137 (allc ok138 (allc ok139 (allc ok140 (allc ok142 (allc ok149 (allc ok158 (allc ok160 (allc ok165 (allc ok166 (allc ok168 (allc ok171 (allc ok180 (allc ok182 (alln))))))))))))))))))))))))))))))))))))
theorem fok6 : FNOK Try.prog 6 Try.f6 := ⟨Try.func6, by decide +kernel, by kernel_rfl, by kernel_rfl⟩
theorem fok14 : FNOK Try.prog 14 Try.f14 := ⟨Try.func14, by decide +kernel, by kernel_rfl, by kernel_rfl⟩
theorem fok15 : FNOK Try.prog 15 Try.f15 := ⟨Try.func15, by decide +kernel, by kernel_rfl, by kernel_rfl⟩
theorem fok16 : FNOK Try.prog 16 Try.f16 := ⟨Try.func16, by decide +kernel, by kernel_rfl, by kernel_rfl⟩
theorem fok17 : FNOK Try.prog 17 Try.f17 := ⟨Try.func17, by decide +kernel, by kernel_rfl, by kernel_rfl⟩
theorem fok18 : FNOK Try.prog 18 Try.f18 := ⟨Try.func18, by decide +kernel, by kernel_rfl, by kernel_rfl⟩
theorem fok20 : FNOK Try.prog 20 Try.f20 := ⟨Try.func20, by decide +kernel, by kernel_rfl, by kernel_rfl⟩
theorem fok31 : FNOK Try.prog 31 Try.f31 := ⟨Try.func31, by decide +kernel, by kernel_rfl, by kernel_rfl⟩
theorem fok32 : FNOK Try.prog 32 Try.f32 := ⟨Try.func32, by decide +kernel, by kernel_rfl, by kernel_rfl⟩
theorem fok33 : FNOK Try.prog 33 Try.f33 := ⟨Try.func33, by decide +kernel, by kernel_rfl, by kernel_rfl⟩
theorem fok34 : FNOK Try.prog 34 Try.f34 := ⟨Try.func34, by decide +kernel, by kernel_rfl, by kernel_rfl⟩
theorem fok35 : FNOK Try.prog 35 Try.f35 := ⟨Try.func35, by decide +kernel, by kernel_rfl, by kernel_rfl⟩
theorem fok48 : FNOK Try.prog 48 Try.f48 := ⟨Try.func48, by decide +kernel, by kernel_rfl, by kernel_rfl⟩
theorem fok49 : FNOK Try.prog 49 Try.f49 := ⟨Try.func49, by decide +kernel, by kernel_rfl, by kernel_rfl⟩
theorem fok50 : FNOK Try.prog 50 Try.f50 := ⟨Try.func50, by decide +kernel, by kernel_rfl, by kernel_rfl⟩
theorem fok51 : FNOK Try.prog 51 Try.f51 := ⟨Try.func51, by decide +kernel, by kernel_rfl, by kernel_rfl⟩
theorem fok52 : FNOK Try.prog 52 Try.f52 := ⟨Try.func52, by decide +kernel, by kernel_rfl, by kernel_rfl⟩
theorem fok53 : FNOK Try.prog 53 Try.f53 := ⟨Try.func53, by decide +kernel, by kernel_rfl, by kernel_rfl⟩
theorem fok54 : FNOK Try.prog 54 Try.f54 := ⟨Try.func54, by decide +kernel, by kernel_rfl, by kernel_rfl⟩
theorem fok57 : FNOK Try.prog 57 Try.f57 := ⟨Try.func57, by decide +kernel, by kernel_rfl, by kernel_rfl⟩
theorem fok64 : FNOK Try.prog 64 Try.f64 := ⟨Try.func64, by decide +kernel, by kernel_rfl, by kernel_rfl⟩
theorem fok85 : FNOK Try.prog 85 Try.f85 := ⟨Try.func85, by decide +kernel, by kernel_rfl, by kernel_rfl⟩
theorem fok86 : FNOK Try.prog 86 Try.f86 := ⟨Try.func86, by decide +kernel, by kernel_rfl, by kernel_rfl⟩
theorem fok87 : FNOK Try.prog 87 Try.f87 := ⟨Try.func87, by decide +kernel, by kernel_rfl, by kernel_rfl⟩
theorem fok88 : FNOK Try.prog 88 Try.f88 := ⟨Try.func88, by decide +kernel, by kernel_rfl, by kernel_rfl⟩
theorem fok96 : FNOK Try.prog 96 Try.f96 := ⟨Try.func96, by decide +kernel, by kernel_rfl, by kernel_rfl⟩
theorem fok112 : FNOK Try.prog 112 Try.f112 := ⟨Try.func112, by decide +kernel, by kernel_rfl, by kernel_rfl⟩
noncomputable def fnL : List (Nat × Func) := [(6, Try.f6), (14, Try.f14), (15, Try.f15), (16, Try.f16), (17, Try.f17), (18, Try.f18), (20, Try.f20), (31, Try.f31), (32, Try.f32), (33, Try.f33), (34, Try.f34), (35, Try.f35), (48, Try.f48), (49, Try.f49), (50, Try.f50), (51, Try.f51), (52, Try.f52), (53, Try.f53), (54, Try.f54), (57, Try.f57), (64, Try.f64), (85, Try.f85), (86, Try.f86), (87, Try.f87), (88, Try.f88), (96, Try.f96), (112, Try.f112)]
noncomputable def fnT : Tr Func := .n none (.n none (.n none (.n none (.n (some Try.f15) (.n (some Try.f31) (.e) (.e)) (.e)) (.n none (.e) (.n none (.n (some Try.f87) (.e) (.e)) (.e)))) (.n none (.n none (.n (some Try.f35) (.e) (.e)) (.n (some Try.f51) (.e) (.e))) (.e))) (.n none (.n none (.n (some Try.f17) (.n (some Try.f33) (.e) (.e)) (.n (some Try.f49) (.e) (.e))) (.n none (.e) (.n (some Try.f57) (.e) (.e)))) (.n none (.n none (.e) (.n (some Try.f53) (.n (some Try.f85) (.e) (.e)) (.e))) (.e)))) (.n none (.n none (.n none (.n (some Try.f16) (.n (some Try.f32) (.n (some Try.f64) (.e) (.e)) (.n (some Try.f96) (.e) (.e))) (.n (some Try.f48) (.e) (.n (some Try.f112) (.e) (.e)))) (.n none (.e) (.n none (.n (some Try.f88) (.e) (.e)) (.e)))) (.n none (.n (some Try.f20) (.e) (.n (some Try.f52) (.e) (.e))) (.e))) (.n (some Try.f6) (.n none (.n (some Try.f18) (.n (some Try.f34) (.e) (.e)) (.n (some Try.f50) (.e) (.e))) (.e)) (.n (some Try.f14) (.n none (.e) (.n (some Try.f54) (.n (some Try.f86) (.e) (.e)) (.e))) (.e))))
theorem fnT_eq : fnT = ofL fnL := by kernel_rfl
theorem fnL_ok : ∀ p ∈ fnL, FNOK Try.prog p.1 p.2 := allc fok6 (allc fok14 (allc fok15 (allc fok16 (allc fok17 (allc fok18 (allc fok20 (allc fok31 (allc fok32 (allc fok33 (allc fok34 (allc fok35 (allc fok48 (allc fok49 (allc fok50 (allc fok51 (allc fok52 (allc fok53 (allc fok54 (allc fok57 (allc fok64 (allc fok85 (allc fok86 (allc fok87 (allc fok88 (allc fok96 (allc fok112 (alln)))))))))))))))))))))))))))
noncomputable def env : Env := ⟨tyT, fnT⟩
theorem env_ok : EnvOK Try.prog env ∧ FnsOK Try.prog env := envok tyT_eq tyL_ok fnT_eq fnL_ok (by kernel_rfl)
end Go.Proofs.Ytdhnacajgmjmlaa.Ev
