/- A node is no other than itself. -/
import Derived.Test.YtibiekfjbibpbaaGreatDocL
set_option linter.unusedVariables false
set_option linter.unusedSimpArgs false
namespace Go.Proofs.YtibiekfjbibpbaaGreat
open Go.RowKit
theorem wf_u64 {x:Int} (h:U64 x):(Lit.int .u64 x).wf=true:=by
 unfold U64 at h
 simp[Lit.wf,IntKind.min,IntKind.max,IntKind.signed,IntKind.bits]
 omega
theorem kl_u64 {x:Int} (h:U64 x) (d:Nat):Tryz.prog.keyLits (d+1) 46 [.int .u64 x]=some [.int .u64 x]:=by
 unfold Program.keyLits
 rw[Tryz.underlying46]
 simp[wf_u64 h]
theorem kl_adr {x:Int} (h:U64 x) (d:Nat):Tryz.prog.keyLits (d+1) 51 [.int .u64 x]=some [.int .u64 x]:=by
 unfold Program.keyLits
 rw[Tryz.underlying51]
 simp[wf_u64 h]
theorem kl_int {x:Int} (h: -9223372036854775808≤x∧x≤9223372036854775807) (d:Nat):Tryz.prog.keyLits (d+1) 3 [.int .i64 x]=some [.int .i64 x]:=by
 have hw:(Lit.int .i64 x).wf=true:=by
  simp[Lit.wf,IntKind.min,IntKind.max,IntKind.signed,IntKind.bits]
  omega
 unfold Program.keyLits
 rw[Tryz.underlying3]
 simp[hw]
theorem eight:List.range 8=[0,1,2,3,4,5,6,7]:=rfl
theorem kl_arr {f:Nat→Int} (h: ∀i,U64 (f i)) (d:Nat):Tryz.prog.keyLits (d+2) 52 [.int .u64 (f 0),.int .u64 (f 1),.int .u64 (f 2),.int .u64 (f 3),.int .u64 (f 4),.int .u64 (f 5),.int .u64 (f 6),.int .u64 (f 7)]=some [.int .u64 (f 0),.int .u64 (f 1),.int .u64 (f 2),.int .u64 (f 3),.int .u64 (f 4),.int .u64 (f 5),.int .u64 (f 6),.int .u64 (f 7)]:=by
 have c1:Tryz.prog.cellsOf 52=8:=by kernel_rfl
 have c2:Tryz.prog.cellsOf 46=1:=by kernel_rfl
 unfold Program.keyLits
 rw[Tryz.underlying52]
 simp[c1,c2,eight,kl_u64 (h _)]
theorem kl_arrA {f:Nat→Int} (h: ∀i,U64 (f i)) (d:Nat):Tryz.prog.keyLits (d+2) 53 [.int .u64 (f 0),.int .u64 (f 1),.int .u64 (f 2),.int .u64 (f 3),.int .u64 (f 4),.int .u64 (f 5),.int .u64 (f 6),.int .u64 (f 7)]=some [.int .u64 (f 0),.int .u64 (f 1),.int .u64 (f 2),.int .u64 (f 3),.int .u64 (f 4),.int .u64 (f 5),.int .u64 (f 6),.int .u64 (f 7)]:=by
 have c1:Tryz.prog.cellsOf 53=8:=by kernel_rfl
 have c2:Tryz.prog.cellsOf 51=1:=by kernel_rfl
 unfold Program.keyLits
 rw[Tryz.underlying53]
 simp[c1,c2,eight,kl_adr (h _)]
theorem kl_node {n:NodeA} (h0: -9223372036854775808≤n.lv∧n.lv≤9223372036854775807) (h1:U64 n.low) (h2:U64 n.nx) (h3:U64 n.ct) (h4:U64 n.fi) (hk: ∀i,U64 (n.k i)) (hp: ∀i,U64 (n.p i)): ∃la,Tryz.prog.keyLits 8 55 (q0x n).toList=some la:=by
 have c0:Tryz.prog.cellsOf 55=21:=by kernel_rfl
 have c1:Tryz.prog.cellsOf 52=8:=by kernel_rfl
 have c2:Tryz.prog.cellsOf 46=1:=by kernel_rfl
 have c3:Tryz.prog.cellsOf 53=8:=by kernel_rfl
 have c4:Tryz.prog.cellsOf 51=1:=by kernel_rfl
 have c5:Tryz.prog.cellsOf 3=1:=by kernel_rfl
 unfold Program.keyLits
 rw[Tryz.underlying55]
 simp[c0,c1,c2,c3,c4,c5,q0x,kl_int h0,kl_u64 h1,kl_adr h2,kl_u64 h3,kl_adr h4,kl_arr hk,kl_arrA hp]
theorem neq_node {n:NodeA} (h0: -9223372036854775808≤n.lv∧n.lv≤9223372036854775807) (h1:U64 n.low) (h2:U64 n.nx) (h3:U64 n.ct) (h4:U64 n.fi) (hk: ∀i,U64 (n.k i)) (hp: ∀i,U64 (n.p i)) (w:World):(binOp .neq 55 (.agg (q0x n)) (.agg (q0x n))).run Tryz.prog w= .ok (.bool false) w:=by
 obtain⟨la,hla⟩:=kl_node h0 h1 h2 h3 h4 hk hp
 obtain⟨r,q1,q2⟩:=run_equalIn_deep (P:=Tryz.prog) (Op.maxDepth-8) 8 55 (by kernel_rfl) w 8 8 (.agg (q0x n)) (.agg (q0x n)) la la (by kernel_rfl) (by kernel_rfl) hla hla
 have hr:r=true:=q2.2 rfl
 subst hr
 have q3:(Op.equal 55 (.agg (q0x n)) (.agg (q0x n))).run Tryz.prog w= .ok true w:=q1
 simp[binOp,q3,go_sem]
theorem neq_nodeR {bs:List Int} (hb: ∀x∈bs,0≤x∧x<256) (a:Int) (w:World):(binOp .neq 55 (.agg (q0x ((q1y bs a).getD q2w))) (.agg (q0x ((q1y bs a).getD q2w)))).run Tryz.prog w= .ok (.bool false) w:=by
 have z:U64 (0:Int):=⟨by decide,by decide⟩
 cases h:q1y bs a with
 | none=>exact neq_node (n:=q2w) ⟨by decide,by decide⟩ z z z z (fun _=>z) (fun _=>z) w
 | some n=>
  have e:=(q6c h).2
  have hu:=q4b hb a
  unfold q1y at h
  split at h
  ·rename_i hc
   subst e
   refine neq_node ?_ (hu 1) (hu 2) (hu 3) (hu 4) (fun i=>hu _) (fun i=>hu _) w
   have e0:q2p bs a 0=wdI bs a:=by show wdI bs (a+8*((0:Nat):Int))=_;rw[show a+8*((0:Nat):Int)=a by omega]
   show _≤q2p bs a 0-tagN∧q2p bs a 0-tagN≤_
   rw[e0]
   have:=hc.2
   unfold tagN at*
   omega
  ·cases h
def nqR (P:Program) (t:TypeId) (a b:Value) (w:World):Result Value:=(binOp .neq t a b).run P w
def nqM (t:TypeId) (a b:Value):Sem Value:=binOp .neq t a b
theorem nqM_run (P:Program) (t:TypeId) (a b:Value) (w:World):(nqM t a b).run P w=nqR P t a b w:=rfl
theorem nodeNeq (a b:Value):binOp .neq 55 a b=nqM 55 a b:=rfl
end Go.Proofs.YtibiekfjbibpbaaGreat
