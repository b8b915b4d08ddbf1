import Derived.Test.YtibiekfjbibpbaaGreatDocN
set_option maxRecDepth 100000
set_option maxHeartbeats 2000000
set_option linter.unusedVariables false
set_option linter.unusedSimpArgs false
namespace Go.Proofs.YtibiekfjbibpbaaGreat
open Go.RowKit
theorem x9l (k:Int) (s:ByteArray) (w:World) (hk:0<=k/\k<=18446744073709551615) (hs:s.size<=maxLen):(binOp .neq 48 (.agg #[.int .u64 k,.string s]) (.agg #[.int .u64 k,.string s])).run Tryz.prog w= .ok (.bool false) w:=by
 have L:(Lit.int .u64 k).wf=true:=by simp[Lit.wf,IntKind.min,IntKind.max,IntKind.signed,IntKind.bits];omega
 have c1:Tryz.prog.cellsOf 48=2:=by kernel_rfl
 have c2:Tryz.prog.cellsOf 46=1:=by kernel_rfl
 have c3:Tryz.prog.cellsOf 9=1:=by kernel_rfl
 have k1:Tryz.prog.keyLits 7 46 [.int .u64 k]=some [.int .u64 k]:=by unfold Program.keyLits;rw[Tryz.underlying46];simp[L]
 have k2:Tryz.prog.keyLits 7 9 [.string s]=some [.string s.data.toList]:=by unfold Program.keyLits;rw[Tryz.underlying9];simp[hs]
 obtain⟨la,I⟩:∃la,Tryz.prog.keyLits 8 48 [.int .u64 k,.string s]=some la:=by unfold Program.keyLits;rw[Tryz.underlying48];simp[c1,c2,c3,k1,k2]
 obtain⟨r,h1,h2⟩:=run_equalIn_deep (P:=Tryz.prog) (Op.maxDepth-8) 8 48 (by kernel_rfl) w 8 8 (.agg #[.int .u64 k,.string s]) (.agg #[.int .u64 k,.string s]) la la (by kernel_rfl) (by kernel_rfl) I I;have hr:r=true:=h2.2 rfl;subst hr;have h3:(Op.equal 48 (.agg #[.int .u64 k,.string s]) (.agg #[.int .u64 k,.string s])).run Tryz.prog w= .ok true w:=h1;simp[binOp,h3,go_sem]
structure q6g (w:World) (pv rv fv kv:Value) (ps:List (Int×ByteArray)) (R F K:List Int):Prop where
 pa:q1b w pv ps.length (ps.flatMap q5v)
 pc:∃a c,pv= .slice a ps.length c/\ps.length<=c
 ra:q1w .u64 w rv R
 fa:q1w .u64 w fv F
 ka:q1w .u64 w kv K
theorem q6g.bel {w w':World} {pv rv fv kv:Value} {ps:List (Int×ByteArray)} {R F K:List Int} (h:q6g w pv rv fv kv ps R F K) (hb:Below w.heap.size w w'):q6g w' pv rv fv kv ps R F K:=⟨h.pa.bel hb,h.pc,h.ra.bel hb,h.fa.bel hb,h.ka.bel hb⟩
end Go.Proofs.YtibiekfjbibpbaaGreat
