/- Spoils; the arena of the laws of layer 23. -/
import Derived.Test.YtibiekfjbibpbaaGreatArnQ
import Derived.Test.YtibiekfjbibpbaaGreatSqA
set_option linter.unusedVariables false
set_option linter.unusedSimpArgs false
set_option maxRecDepth 100000
set_option maxHeartbeats 4000000
namespace Go.Proofs.YtibiekfjbibpbaaGreat
open Go.RowKit
theorem ArIs.bytes {W:World} {g b n:Nat} {R:AR} {lv:Value} (h:ArIs W g b n R lv):q1m W (some ⟨b,0,none⟩) n R.bs:=bytesIn_blk h.by' h.byt (by rw[h.ln];exact Nat.le_refl _)
section
attribute [local go_sem ↓ high] q0v
attribute [local go_sem] q0h
end
section
attribute [local go_sem ↓ high] x1r z7q
attribute [local go_sem] q1x q1v
theorem SpA.bel {W W':World} {N g b n:Nat} {R:AR} {lv:Value} {rows:List (List (Nat×NodeA))} (h:SpA W N g b n R lv rows) (hb:Below W.heap.size W W'):SpA W' N g b n R lv rows:=
 ⟨h.ar.bel hb,h.lvs.only (Only.of_below hb []) (fun k hk=>by cases hk),h.sl,h.rne,h.rl,h.rin⟩
theorem SpA.row {W:World} {N g b n:Nat} {R:AR} {lv:Value} {rows:List (List (Nat×NodeA))} (h:SpA W N g b n R lv rows) {i:Nat} (hi:i<rows.length): ∃gl cl rb rl rc row,lv= .slice (some ⟨gl,0,none⟩) rows.length cl∧gl<W.heap.size∧rows[i]?=some row∧W.cell? ⟨gl,i,none⟩=some (.slice (some ⟨rb,0,none⟩) rl rc)∧rl=row.length∧0<rl∧rl≤1000∧rb<W.heap.size∧rowA W N (.slice (some ⟨rb,0,none⟩) rl rc) row∧ ∀x∈row,x.1+192≤n:=by
 obtain⟨vs,v1,v2,v3⟩:=h.lvs
 have hrow:rows[i]?=some rows[i]:=List.getElem?_eq_getElem hi
 obtain⟨gl,cl,e1,_,_,g3,g4⟩:=q2e v2 (by omega)
 obtain⟨rv,v4,v5,v6⟩:=v3 i _ hrow
 obtain⟨ro,rc,rfl⟩:=q0q v6
 have hin:=h.rin _ (List.mem_of_getElem? hrow)
 have h0:0< (rows[i]).length:=List.length_pos_iff.2 hin.1
 have: ∃rb,ro=some ⟨rb,0,none⟩∧rb<W.heap.size:=by
  rcases v6.2 with⟨h3,h4⟩ | ⟨rb,cap',cur,h3,_,h5,_⟩
  ·omega
  ·injection h3 with h3 _ _;exact⟨rb,h3,(Array.getElem?_eq_some_iff.1 h5).1⟩
 obtain⟨rb,rfl,hrb⟩:=this
 have h8:=g4 i _ v4
 rw[Nat.zero_add] at h8
 exact⟨gl,cl,rb,_,rc,_,e1,g3,hrow,h8,rfl,h0,hin.2.1,hrb,v6,hin.2.2⟩
structure Sp where
 kind:Int
 which:Int
 n:Int
 at':Int
 how:Int
 w:Int
def spC (s:Sp):Array Value:= #[.int .i64 s.kind,.int .i64 s.which,.int .i64 s.n,.int .i64 s.at',.int .i64 s.how,.int .u64 s.w]
structure SpOK (s:Sp):Prop where
 kind:I64 s.kind
 which:I64 s.which
 n:I64 s.n
 at':I64 s.at'
 how:I64 s.how
 w:U64 s.w
theorem at_ld_at {W:World} {N rb m c:Nat} {row:List (Nat×NodeA)} {i:Nat} {xx:Nat×NodeA} (h:rowA W N (.slice (some ⟨rb,0,none⟩) m c) row) (hxx:row[i]?=some xx):ldR Tryz.prog 57 (.pointer (some ⟨rb,i*22,none⟩)) W= .ok (.agg (atC xx.1 xx.2)) W:=by
 have hl:=(List.getElem?_eq_some_iff.1 hxx).1
 rcases h.2 with⟨h1,_⟩ | ⟨g',cap',cur,h1,h2,h3,h4,h5,h6,h7⟩
 ·cases h1
 ·injection h1 with h1 hm hc
  injection h1 with h1
  injection h1 with h1
  subst h1 hc hm
  have hB:Blk W rb 57 cur:=h3
  refine hB.ldAt (i*22) (fun j v hv=> ?_) Tryz.underlying57 rfl (by kernel_rfl)
  have hj:j<22:=(Array.getElem?_eq_some_iff.1 hv).1
  rw[←hB.cell,h.cellAt _ (by omega),q6i hxx j hj]
  exact hv
theorem Place_z (s:Sp) (hs:SpOK s) (N g b n:Nat) (R:AR) (lv:Value) (rows:List (List (Nat×NodeA))) (w:World) (h:SpA w N g b n R lv rows):
 Calls Tryz.prog 147 #[.pointer (some ⟨g,0,none⟩),.agg (spC s)] w fun e w'=>Below w.heap.size w w'∧ ∃p:Int,e= .returned (.int .i64 p)∧(p= -1∨ ∃q:Nat,p=(q:Int)∧q+8≤n):=by
 obtain⟨W1,hW1⟩: ∃W1,W1=w.alloc (.cells (spC s) 133):=⟨_,rfl⟩
 have hb1:Below w.heap.size w W1:=by rw[hW1];exact ba (Below.refl _ _) _
 have k1:Blk W1 w.heap.size 133 (spC s):=by rw[hW1];exact Blk.new _ _ _
 have h1:=h.bel hb1
 have hbig:=h.ar.big
 obtain⟨B,hB⟩: ∃B,B=w.heap.size:=⟨_,rfl⟩
 rw[←hB] at k1
 have s0:W1.cell? ⟨B,0,none⟩=some (.int .i64 s.kind):=k1.cell 0
 have s1:W1.cell? ⟨B,1,none⟩=some (.int .i64 s.which):=k1.cell 1
 have s2:W1.cell? ⟨B,2,none⟩=some (.int .i64 s.n):=k1.cell 2
 have s3:W1.cell? ⟨B,3,none⟩=some (.int .i64 s.at'):=k1.cell 3
 have c0:W1.cell? ⟨g,0,none⟩=some (.slice (some ⟨b,0,none⟩) n n):=h1.ar.blk.cell 0
 have c1:W1.cell? ⟨g,1,none⟩=some (.int .i64 (R.slabs:Int)):=h1.ar.blk.cell 1
 have c7:W1.cell? ⟨g,7,none⟩=some lv:=h1.ar.blk.cell 7
 have HW1:=hid hW1
 have HB1:=hid hb1
 have H1:=hid h1
 have HS:=hid hs
 obtain⟨wo,hwo⟩: ∃wo,wo=n/8:=⟨_,rfl⟩
 have e8:(n:Int)/8=(wo:Int):=by omega
 have e8':Int.tdiv (n:Int) 8=(wo:Int):=by rw[hwo];rfl
 have ww:IntKind.i64.wrap (wo:Int)=(wo:Int):=IntWalk.i64_in _ (by constructor<;>omega)
 have HWO:=hid hwo
 clear hW1 hb1 k1 h1 h hs hwo
 go_enter Tryz.func147,Tryz.ntmps147
 go_upto_region 1 with fail
 rw[show _=W1 from HW1.out.symm,←hB]
 have HBB:=hid hB
 clear hB
 have hsl:=H1.out.sl
 have wo0: ¬(wo:Int)=0:=by have:=HWO.out;omega
 have wo1: ¬wo=0:=by omega
 by_cases k1:s.kind=1
 ·have b1:(s.kind==1)=true:=by simp[k1]
  obtain⟨r,hr,er⟩:=umod s.at' wo (by omega)
  obtain⟨q,hq⟩: ∃q,q=8*r:=⟨_,rfl⟩
  have wr:IntKind.i64.wrap (r:Int)=(r:Int):=IntWalk.i64_in _ (by have:=HWO.out;constructor<;>omega)
  have wq:IntKind.i64.wrap (8*(r:Int))=(q:Int):=by rw[IntWalk.i64_in _ (by have:=HWO.out;constructor<;>omega)];omega
  have HF:=hid (show q+8≤n by have:=HWO.out;omega)
  clear k1 s1 s2 c1 c7 hr hq hsl
  go_wp2
  go_ret
  exact⟨HB1.out,(q:Int),rfl,Or.inr ⟨q,rfl,HF.out⟩⟩
 have b1:(s.kind==1)=false:=by simp[k1]
 by_cases k2:s.kind=2
 ·have b2:(s.kind==2)=true:=by simp[k2]
  have hrl:=H1.out.rl
  have hrp:0<rows.length:=List.length_pos_iff.2 H1.out.rne
  obtain⟨r,hr,er⟩:=umod s.n rows.length hrp
  obtain⟨gl,cl,rb,rl,rc,row,rfl,hgl,hrow,ck,hrlen,hrl0,hrl1,hrb,hrA,hrin⟩:=H1.out.row hr
  obtain⟨L,hL⟩: ∃L,L=rows.length:=⟨_,rfl⟩
  rw[←hL] at c7 er hr hrp hrl
  obtain⟨r3,hr3,er3⟩:=umod s.which rl hrl0
  obtain⟨r4,hr4,er4⟩:=umod s.at' 21 (by omega)
  obtain⟨xx,hxx⟩: ∃xx,row[r3]?=some xx:=⟨_,List.getElem?_eq_getElem (by omega)⟩
  have hx:=hrin xx (List.mem_of_getElem? hxx)
  have wr:IntKind.i64.wrap (r:Int)=(r:Int):=IntWalk.i64_in _ (by constructor<;>omega)
  have wr3:IntKind.i64.wrap (r3:Int)=(r3:Int):=IntWalk.i64_in _ (by constructor<;>omega)
  have wr4:IntKind.i64.wrap (r4:Int)=(r4:Int):=IntWalk.i64_in _ (by constructor<;>omega)
  have uL:IntKind.u64.wrap (L:Int)=(L:Int):=IntWalk.u64_in _ (by constructor<;>omega)
  have url:IntKind.u64.wrap (rl:Int)=(rl:Int):=IntWalk.u64_in _ (by constructor<;>omega)
  have L0: ¬(L:Int)=0:=by omega
  have L1: ¬L=0:=by omega
  have rl0: ¬(rl:Int)=0:=by omega
  have rl1: ¬rl=0:=by omega
  have i0:(0:Int)≤(r:Int):=by omega
  have i1:(r:Int)< (L:Int):=by omega
  have i2:(0:Int)≤(r3:Int):=by omega
  have i3:(r3:Int)< (rl:Int):=by omega
  have er4':Int.tmod (IntKind.u64.wrap s.at') 21=(r4:Int):=er4
  have HR:=hid (⟨hr4,hrA,hxx,hx,hgl,hrb⟩:_∧_∧_∧_∧_∧_)
  clear k1 k2 c1 hsl hrl hrp hr hrow hrlen hrl0 hrl1 hrA hrin hL hr3 hr4 hxx hx hgl hrb er4
  go_upto_region 6 with fail
  go_quiet (fail)
  obtain⟨W2,hW2⟩: ∃x,x=W1.drewN nq:=⟨_,rfl⟩
  rw[←hW2]
  have hb2:Below W1.heap.size W1 W2:=by rw[hW2];exact⟨rfl,rfl,rfl,Nat.le_refl _,fun _ _=>rfl⟩
  have s1':W2.cell? ⟨B,1,none⟩=some (.int .i64 s.which):=by rw[hW2];exact s1
  have s3':W2.cell? ⟨B,3,none⟩=some (.int .i64 s.at'):=by rw[hW2];exact s3
  have hrA2:rowA W2 N (.slice (some ⟨rb,0,none⟩) rl rc) row:=(Only.of_below hb2 []).own HR.out.2.1 (by simp)
  have hld:=at_ld_at hrA2 HR.out.2.2.1
  have k3:Blk (W2.alloc (.cells #[.int .u64 0,.int .i64 0,.int .u64 0,.int .u64 0,.int .u64 0,.int .u64 0,.int .u64 0,.int .u64 0,.int .u64 0,.int .u64 0,.int .u64 0,.int .u64 0,.int .u64 0,.int .u64 0,.int .u64 0,.int .u64 0,.int .u64 0,.int .u64 0,.int .u64 0,.int .u64 0,.int .u64 0,.int .u64 0] 57)) W2.heap.size 57 (atC 0 q2w):=Blk.new _ _ _
  obtain⟨w4,hst,hk4,ho4⟩:=y0j (a':=(xx.1:Int)) (n':=xx.2) k3
  have hb4:Below W2.heap.size W2 w4:=(ba (Below.refl _ _) _).trans (ho4.below (fun y hy=>by simp at hy;omega) (by simp))
  have x0:w4.cell? ⟨W2.heap.size,0,none⟩=some (.int .u64 (xx.1:Int)):=hk4.cell 0
  have s3b:w4.cell? ⟨B,3,none⟩=some (.int .i64 s.at'):=(hb4.cell (p:=⟨B,3,none⟩) (World.block_lt_of_cell? W2 _ s3')).trans s3'
  have HB4:=hid (bx (bx HB1.out hb2) hb4)
  clear s0 s1 s2 s3 c0 c7 ck hW2
  go_upto_region 9 with fail
  have hx:=HR.out.2.2.2.1
  have wx:IntKind.i64.wrap (xx.1:Int)=(xx.1:Int):=IntWalk.i64_in _ (by constructor<;>omega)
  have hr4:=HR.out.1
  by_cases h4:4<r4
  ·have d1:(4:Int)< (r4:Int):=by omega
   obtain⟨m,hm⟩: ∃m,r4=m+5:=⟨r4-5,by omega⟩
   obtain⟨q,hq⟩: ∃q,q=xx.1+64+8*m:=⟨_,rfl⟩
   have w1:IntKind.i64.wrap ((xx.1:Int)+64)=(xx.1:Int)+64:=IntWalk.i64_in _ (by constructor<;>omega)
   have w2:IntKind.i64.wrap ((r4:Int)-5)=(m:Int):=by rw[IntWalk.i64_in _ (by constructor<;>omega)];omega
   have w3:IntKind.i64.wrap (8*(m:Int))=8*(m:Int):=IntWalk.i64_in _ (by constructor<;>omega)
   have w5:IntKind.i64.wrap ((xx.1:Int)+64+8*(m:Int))=(q:Int):=by rw[IntWalk.i64_in _ (by constructor<;>omega)];omega
   have HF:=hid (show q+8≤n by omega)
   clear hq hm hx hr4
   go_wp2
   go_ret
   exact⟨HB4.out,(q:Int),rfl,Or.inr ⟨q,rfl,HF.out⟩⟩
  ·have d1: ¬(4:Int)< (r4:Int):=by omega
   obtain⟨q,hq⟩: ∃q,q=xx.1+8*r4:=⟨_,rfl⟩
   have w3:IntKind.i64.wrap (8*(r4:Int))=8*(r4:Int):=IntWalk.i64_in _ (by constructor<;>omega)
   have w5:IntKind.i64.wrap ((xx.1:Int)+8*(r4:Int))=(q:Int):=by rw[IntWalk.i64_in _ (by constructor<;>omega)];omega
   have HF:=hid (show q+8≤n by omega)
   clear hq hx hr4
   go_wp2
   go_ret
   exact⟨HB4.out,(q:Int),rfl,Or.inr ⟨q,rfl,HF.out⟩⟩
 have b2:(s.kind==2)=false:=by simp[k2]
 obtain⟨r,hr,er⟩:=umod s.which R.slabs (by omega)
 obtain⟨sl,hsle⟩: ∃sl,sl=R.slabs:=⟨_,rfl⟩
 rw[←hsle] at c1 er hr hsl
 have wr:IntKind.i64.wrap (r:Int)=(r:Int):=IntWalk.i64_in _ (by constructor<;>omega)
 have us:IntKind.u64.wrap (sl:Int)=(sl:Int):=IntWalk.u64_in _ (by constructor<;>omega)
 have sl0: ¬(sl:Int)=0:=by omega
 have sl1: ¬sl=0:=by omega
 obtain⟨q,hq⟩: ∃q,q=1024*(1+r):=⟨_,rfl⟩
 have w1:IntKind.i64.wrap (1+(r:Int))=1+(r:Int):=IntWalk.i64_in _ (by constructor<;>omega)
 have w2:IntKind.i64.wrap (1024*(1+(r:Int)))=(q:Int):=by rw[IntWalk.i64_in _ (by constructor<;>omega)];omega
 by_cases k3:s.kind=3
 ·have b3:(s.kind==3)=true:=by simp[k3]
  have HF:=hid (show q+8≤n by omega)
  clear k1 k2 k3 hr hsl hsle hq s2 s3 c7
  go_upto_region 13 with fail
  go_quiet (fail)
  go_wp2
  go_ret
  exact⟨bx HB1.out ⟨rfl,rfl,rfl,Nat.le_refl _,fun _ _=>rfl⟩,(q:Int),rfl,Or.inr ⟨q,rfl,HF.out⟩⟩
 have b3:(s.kind==3)=false:=by simp[k3]
 by_cases k4:s.kind=4
 ·have b4:(s.kind==4)=true:=by simp[k4]
  obtain⟨q2,hq2⟩: ∃q2,q2=q+8:=⟨_,rfl⟩
  have w3:IntKind.i64.wrap ((q:Int)+8)=(q2:Int):=by rw[IntWalk.i64_in _ (by constructor<;>omega)];omega
  have HF:=hid (show q2+8≤n by omega)
  clear k1 k2 k3 k4 hr hsl hsle hq hq2 s2 s3 c7
  go_upto_region 15 with fail
  go_quiet (fail)
  go_wp2
  go_ret
  exact⟨bx HB1.out ⟨rfl,rfl,rfl,Nat.le_refl _,fun _ _=>rfl⟩,(q2:Int),rfl,Or.inr ⟨q2,rfl,HF.out⟩⟩
 ·have b4:(s.kind==4)=false:=by simp[k4]
  clear k1 k2 k3 k4 hr hsl hsle hq s1 s2 s3 c7 c1
  go_wp2
  go_ret
  exact⟨HB1.out,-1,rfl,Or.inl rfl⟩
end
section
attribute [local go_sem ↓ high] x1b
attribute [local go_sem] q1x q1v
theorem sp_ld {w:World} {b:Nat} {s:Sp} (h:Blk w b 133 (spC s)):ldR Tryz.prog 133 (.pointer (some ⟨b,0,none⟩)) w= .ok (.agg (spC s)) w:=h.ld Tryz.underlying133 rfl (by kernel_rfl)
theorem u64nat (A:Int): ∃X:Nat,X<18446744073709551616∧IntKind.u64.wrap A=(X:Int):=by
 rw[IntKind.wrap_u64]
 exact⟨(A % 18446744073709551616).toNat,by omega,by omega⟩
theorem tmod_nat (a m:Nat):Int.tmod (a:Int) (m:Int)=((a % m:Nat):Int):=rfl
theorem SpA.set {W W':World} {N g b n:Nat} {R:AR} {lv:Value} {rows:List (List (Nat×NodeA))} (h:SpA W N g b n R lv rows) {q X:Nat} (hq:q+8≤n) (hk:Blk W' b 5 (byC (putW R.bs q X))) (ho:Only [b] W W'):SpA W' N g b n (R.put q X) lv rows:=
 ⟨h.ar.put hq hk ho,h.lvs.only ho (fun y hy=>by rw[List.mem_singleton.1 hy];exact Or.inr ⟨_,_,h.ar.by',by decide,by decide⟩),h.sl,h.rne,h.rl,h.rin⟩
theorem row_at {W:World} {N rb m c:Nat} {row:List (Nat×NodeA)} (h:rowA W N (.slice (some ⟨rb,0,none⟩) m c) row) {i:Nat} {xx:Nat×NodeA} (hxx:row[i]?=some xx):W.cell? ⟨rb,i*22,none⟩=some (.int .u64 (xx.1:Int)):=by
 have hl:=(List.getElem?_eq_some_iff.1 hxx).1
 rcases h.2 with⟨h1,_⟩ | ⟨g',cap',cur,h1,_⟩
 ·cases h1
 ·have h2:=h
  injection h1 with h1 hm hc
  subst hm hc
  exact(h2.cellAt (i*22) (by omega)).trans (q6i hxx 0 (by omega))
theorem Spoil_z (s:Sp) (hs:SpOK s) (N g b n:Nat) (R:AR) (lv:Value) (rows:List (List (Nat×NodeA))) (w:World) (hN:N≤w.heap.size) (hbN:N≤b) (h:SpA w N g b n R lv rows):
 Calls Tryz.prog 62 #[.pointer (some ⟨g,0,none⟩),.agg (spC s)] w fun e w'=>e= .returned (.tuple #[])∧Below N w w'∧ ∃R',SpA w' N g b n R' lv rows:=by
 obtain⟨W1,hW1⟩: ∃W1,W1=w.alloc (.cells (spC s) 133):=⟨_,rfl⟩
 have hb1:Below w.heap.size w W1:=by rw[hW1];exact ba (Below.refl _ _) _
 have k1:Blk W1 w.heap.size 133 (spC s):=by rw[hW1];exact Blk.new _ _ _
 have h1:=h.bel hb1
 have hbig:=h.ar.big
 obtain⟨B,hB⟩: ∃B,B=w.heap.size:=⟨_,rfl⟩
 rw[←hB] at k1
 have hld:=sp_ld k1
 have PL:=hid (Place_z s hs N g b n R lv rows W1 h1)
 have HW1:=hid hW1
 have HB1:=hid (hb1.mono hN)
 have H1:=hid h1
 have HS:=hid hs
 have HK1:=hid k1
 have HNN:=hid (⟨hN,hbN⟩:_∧_)
 clear hW1 hb1 k1 h1 h hs hN hbN
 go_enter Tryz.func62,Tryz.ntmps62
 go_upto_region 1 with fail
 rw[show _=W1 from HW1.out.symm,←hB]
 have HBB:=hid hB
 clear hB
 go_wp2_with fail
 refine PL.out.mono ?_
 rintro e W2 ⟨hb2,p,rfl,hp⟩
 have H2:=hid (H1.out.bel hb2)
 have HB2:Hid (Below N w W2):=hid (HB1.out.trans (hb2.mono (by have:=HB1.out.size;have:=HNN.out.1;omega)))
 have hk2:=HK1.out.bel hb2
 have s1:W2.cell? ⟨B,1,none⟩=some (.int .i64 s.which):=hk2.cell 1
 have s2:W2.cell? ⟨B,2,none⟩=some (.int .i64 s.n):=hk2.cell 2
 have s4:W2.cell? ⟨B,4,none⟩=some (.int .i64 s.how):=hk2.cell 4
 have s5:W2.cell? ⟨B,5,none⟩=some (.int .u64 s.w):=hk2.cell 5
 clear hb2 hk2 hld
 rcases hp with rfl | ⟨q,rfl,hq⟩
 ·clear s1 s2 s4 s5
  have m1:(-1:Int)<0:=by decide
  go_wp2
  refine bodyPost_ret (v:= .tuple #[]) (by simp[results,Tryz.results62,go_sem]) rfl ?_
  exact⟨rfl,HB2.out,R,H2.out⟩
 ·have q0: ¬(q:Int)<0:=by omega
  have c0:W2.cell? ⟨g,0,none⟩=some (.slice (some ⟨b,0,none⟩) n n):=H2.out.ar.blk.cell 0
  have c7:W2.cell? ⟨g,7,none⟩=some lv:=H2.out.ar.blk.cell 7
  have hln:=H2.out.ar.ln
  have TK:=x1m (some ⟨b,0,none⟩) n R.bs q (by rw[←hln];exact hq) (by rw[←hln];omega) W2 H2.out.ar.bytes
  rw[←hln] at TK
  have hwb:=x3y H2.out.ar.byt q
  obtain⟨x0,hx0⟩: ∃x0:Nat,wdN R.bs q=(x0:Int):=⟨(wdN R.bs q).toNat,by omega⟩
  rw[show leW ((R.bs.drop q).take 8)=(x0:Int) from hx0] at TK
  have TK:=hid TK
  have hx0l:x0<18446744073709551616:=by omega
  have hrl:=H2.out.rl
  have hrp:0<rows.length:=List.length_pos_iff.2 H2.out.rne
  obtain⟨r,hr,er⟩:=umod s.n rows.length hrp
  obtain⟨gl,cl,rb,rl,rc,row,hlv,hgl,hrow,ck,hrlen,hrl0,hrl1,hrb,hrA,hrin⟩:=H2.out.row hr
  obtain⟨L,hL⟩: ∃L,L=rows.length:=⟨_,rfl⟩
  rw[←hL] at hlv er hr hrp hrl
  rw[hlv] at c7
  obtain⟨r3,hr3,er3⟩:=umod s.which rl hrl0
  have wr:IntKind.i64.wrap (r:Int)=(r:Int):=IntWalk.i64_in _ (by constructor<;>omega)
  have wr3:IntKind.i64.wrap (r3:Int)=(r3:Int):=IntWalk.i64_in _ (by constructor<;>omega)
  have uL:IntKind.u64.wrap (L:Int)=(L:Int):=IntWalk.u64_in _ (by constructor<;>omega)
  have url:IntKind.u64.wrap (rl:Int)=(rl:Int):=IntWalk.u64_in _ (by constructor<;>omega)
  have L0: ¬(L:Int)=0:=by omega
  have L1: ¬L=0:=by omega
  have rl0: ¬(rl:Int)=0:=by omega
  have rl1: ¬rl=0:=by omega
  have i0:(0:Int)≤(r:Int):=by omega
  have i1:(r:Int)< (L:Int):=by omega
  have HR:=hid (⟨hrA,hrin,hrlen,hrl0,hr3,hrl1,hq,hln,hx0l⟩:_∧_∧rl=row.length∧0<rl∧r3<rl∧rl≤1000∧q+8≤n∧n=R.bs.length∧x0<18446744073709551616)
  clear hwb hx0 hx0l hrl hrp hr hlv hgl hrow hrlen hrl0 hrl1 hrb hrA hrin hL hr3 hq hln
  go_wp2_with fail
  refine TK.out.mono ?_
  rintro e w3 ⟨rfl,rfl⟩
  go_upto_region 4 with fail
  go_quiet (fail)
  obtain⟨W3,hW3⟩: ∃x,x=W2.drewN nq:=⟨_,rfl⟩
  rw[←hW3]
  have hb3:Below W2.heap.size W2 W3:=by rw[hW3];exact⟨rfl,rfl,rfl,Nat.le_refl _,fun _ _=>rfl⟩
  have t1:W3.cell? ⟨B,1,none⟩=some (.int .i64 s.which):=by rw[hW3];exact s1
  have t4:W3.cell? ⟨B,4,none⟩=some (.int .i64 s.how):=by rw[hW3];exact s4
  have t5:W3.cell? ⟨B,5,none⟩=some (.int .u64 s.w):=by rw[hW3];exact s5
  have c0:W3.cell? ⟨g,0,none⟩=some (.slice (some ⟨b,0,none⟩) n n):=by rw[hW3];exact c0
  have H3:=hid (H2.out.bel hb3)
  have HB3:Hid (Below N w W3):=hid (HB2.out.trans (hb3.mono (by have:=HB2.out.size;have:=HNN.out.1;omega)))
  have hrA3:rowA W3 N (.slice (some ⟨rb,0,none⟩) rl rc) row:=(Only.of_below hb3 []).own HR.out.1 (by simp)
  have HRA:=hid hrA3
  clear s1 s2 s4 s5 c7 ck hW3 hb3 hrA3
  go_upto_region 6 with fail
  have k0:(0:Int)≤(r3:Int):=by omega
  have kl:(r3:Int)< (rl:Int):=by have:=HR.out.2.2.2.2.1;omega
  have ST:=hid (fun X (hX:X<18446744073709551616)=>SetW_z b n n R.bs q X hX HR.out.2.2.2.2.2.2.2.1 (by rw[←HR.out.2.2.2.2.2.2.2.1];exact HR.out.2.2.2.2.2.2.1) (by rw[←HR.out.2.2.2.2.2.2.2.1];exact hbig) W3 H3.out.ar.by')
  have ROW:=hid (fun j (hj:j<rl)=>(by
   obtain⟨xx,hxx⟩: ∃xx,row[j]?=some xx:=⟨_,List.getElem?_eq_getElem (by have:=HR.out.2.2.1;omega)⟩
   have:=HR.out.2.1 xx (List.mem_of_getElem? hxx)
   exact⟨xx.1,by omega,row_at HRA.out hxx⟩: ∃X:Nat,X<18446744073709551616∧W3.cell? ⟨rb,j*22,none⟩=some (.int .u64 (X:Int))))
  by_cases h5:s.how=5
  ·have b5:(s.how==5)=true:=by simp[h5]
   clear h5
   obtain⟨X,hX,eX⟩:=u64nat ((x0:Int)-1)
   have SX:=hid (ST.out X hX)
   go_wp2_with fail
   refine SX.out.mono ?_
   rintro e w9 ⟨rfl,hk9,ho9⟩
   have HF:Hid (Below N w w9∧ ∃R',SpA w9 N g b n R' lv rows):=hid ⟨HB3.out.trans (ho9.below (fun y hy=>by rw[List.mem_singleton.1 hy];exact HNN.out.2) (by have:=HB3.out.size;have:=HNN.out.1;omega)),_,H3.out.set HR.out.2.2.2.2.2.2.1 hk9 ho9⟩
   clear hk9 ho9
   go_wp2
   refine bodyPost_end (v:= .tuple #[]) (by simp[results,Tryz.results62,go_sem]) rfl ?_
   exact⟨rfl,HF.out⟩
  have b5:(s.how==5)=false:=by simp[h5]
  by_cases h6:s.how=6
  ·have b6:(s.how==6)=true:=by simp[h6]
   clear h6
   obtain⟨X,hX,eX⟩:=u64nat ((x0:Int)+1)
   have SX:=hid (ST.out X hX)
   go_wp2_with fail
   refine SX.out.mono ?_
   rintro e w9 ⟨rfl,hk9,ho9⟩
   have HF:Hid (Below N w w9∧ ∃R',SpA w9 N g b n R' lv rows):=hid ⟨HB3.out.trans (ho9.below (fun y hy=>by rw[List.mem_singleton.1 hy];exact HNN.out.2) (by have:=HB3.out.size;have:=HNN.out.1;omega)),_,H3.out.set HR.out.2.2.2.2.2.2.1 hk9 ho9⟩
   clear hk9 ho9
   go_wp2
   refine bodyPost_end (v:= .tuple #[]) (by simp[results,Tryz.results62,go_sem]) rfl ?_
   exact⟨rfl,HF.out⟩
  have b6:(s.how==6)=false:=by simp[h6]
  by_cases h7:s.how=7
  ·have b7:(s.how==7)=true:=by simp[h7]
   clear h7
   obtain⟨X,hX,eX⟩:=ROW.out ((r3+1)% rl) (Nat.mod_lt _ HR.out.2.2.2.1)
   have wa:IntKind.i64.wrap ((r3:Int)+1)=((r3+1:Nat):Int):=by have:=HR.out;rw[IntWalk.i64_in _ (by constructor<;>omega)];omega
   obtain⟨m,hm⟩: ∃m,m=(r3+1)% rl:=⟨_,rfl⟩
   obtain⟨r8,hr8⟩: ∃r8,r8=r3+1:=⟨_,rfl⟩
   have tm:Int.tmod (r8:Int) (rl:Int)=(m:Int):=by rw[hm,←hr8];rfl
   rw[←hr8] at wa
   rw[←hm] at eX
   have m0:(0:Int)≤(m:Int):=by omega
   have m1:(m:Int)< (rl:Int):=by have:=Nat.mod_lt (r3+1) HR.out.2.2.2.1;omega
   have wm:IntKind.i64.wrap (m:Int)=(m:Int):=IntWalk.i64_in _ (by have:=HR.out;constructor<;>omega)
   clear hm hr8
   have SX:=hid (ST.out X hX)
   go_wp2_with fail
   refine SX.out.mono ?_
   rintro e w9 ⟨rfl,hk9,ho9⟩
   have HF:Hid (Below N w w9∧ ∃R',SpA w9 N g b n R' lv rows):=hid ⟨HB3.out.trans (ho9.below (fun y hy=>by rw[List.mem_singleton.1 hy];exact HNN.out.2) (by have:=HB3.out.size;have:=HNN.out.1;omega)),_,H3.out.set HR.out.2.2.2.2.2.2.1 hk9 ho9⟩
   clear hk9 ho9
   go_wp2
   refine bodyPost_end (v:= .tuple #[]) (by simp[results,Tryz.results62,go_sem]) rfl ?_
   exact⟨rfl,HF.out⟩
  have b7:(s.how==7)=false:=by simp[h7]
  by_cases h8:s.how=8
  ·have b8:(s.how==8)=true:=by simp[h8]
   clear h8
   obtain⟨X,hX,eX⟩:=ROW.out ((r3+rl-1)% rl) (Nat.mod_lt _ HR.out.2.2.2.1)
   obtain⟨m,hm⟩: ∃m,m=(r3+rl-1)% rl:=⟨_,rfl⟩
   obtain⟨r8,hr8⟩: ∃r8,r8=r3+rl-1:=⟨_,rfl⟩
   have wa:IntKind.i64.wrap ((r3:Int)+(rl:Int))=(r3:Int)+(rl:Int):=by have:=HR.out;rw[IntWalk.i64_in _ (by constructor<;>omega)]
   have wb:IntKind.i64.wrap ((r3:Int)+(rl:Int)-1)=(r8:Int):=by have:=HR.out;rw[IntWalk.i64_in _ (by constructor<;>omega)];omega
   have tm:Int.tmod (r8:Int) (rl:Int)=(m:Int):=by rw[hm,←hr8];rfl
   rw[←hm] at eX
   have m0:(0:Int)≤(m:Int):=by omega
   have m1:(m:Int)< (rl:Int):=by have:=Nat.mod_lt (r3+rl-1) HR.out.2.2.2.1;omega
   have wm:IntKind.i64.wrap (m:Int)=(m:Int):=IntWalk.i64_in _ (by have:=HR.out;constructor<;>omega)
   clear hm hr8
   have SX:=hid (ST.out X hX)
   go_wp2_with fail
   refine SX.out.mono ?_
   rintro e w9 ⟨rfl,hk9,ho9⟩
   have HF:Hid (Below N w w9∧ ∃R',SpA w9 N g b n R' lv rows):=hid ⟨HB3.out.trans (ho9.below (fun y hy=>by rw[List.mem_singleton.1 hy];exact HNN.out.2) (by have:=HB3.out.size;have:=HNN.out.1;omega)),_,H3.out.set HR.out.2.2.2.2.2.2.1 hk9 ho9⟩
   clear hk9 ho9
   go_wp2
   refine bodyPost_end (v:= .tuple #[]) (by simp[results,Tryz.results62,go_sem]) rfl ?_
   exact⟨rfl,HF.out⟩
  have b8:(s.how==8)=false:=by simp[h8]
  by_cases h9:s.how=9
  ·have b9:(s.how==9)=true:=by simp[h9]
   clear h9
   have hn6:=hbig
   have w16:IntKind.i64.wrap ((q:Int)+16)=(q:Int)+16:=by have:=HR.out;rw[IntWalk.i64_in _ (by constructor<;>omega)]
   by_cases h16:q+16≤n
   ·have l16:(q:Int)+16≤(n:Int):=by omega
    obtain⟨q8,hq8⟩: ∃q8,q8=q+8:=⟨_,rfl⟩
    have w8:IntKind.i64.wrap ((q:Int)+8)=(q8:Int):=by have:=HR.out;rw[IntWalk.i64_in _ (by constructor<;>omega)];omega
    have hln:=HR.out.2.2.2.2.2.2.2.1
    have TK2:=x1m (some ⟨b,0,none⟩) n R.bs q8 (by rw[←hln];omega) (by rw[←hln];omega) W3 H3.out.ar.bytes
    rw[←hln] at TK2
    have hwb:=x3y H3.out.ar.byt q8
    obtain⟨X,hX0⟩: ∃X:Nat,wdN R.bs q8=(X:Int):=⟨(wdN R.bs q8).toNat,by omega⟩
    rw[show leW ((R.bs.drop q8).take 8)=(X:Int) from hX0] at TK2
    have TK2:=hid TK2
    have hX:X<18446744073709551616:=by omega
    clear hq8 hln hwb hX0
    go_wp2_with fail
    refine TK2.out.mono ?_
    rintro e w3 ⟨rfl,rfl⟩
    have SX:=hid (ST.out X hX)
    go_wp2_with fail
    refine SX.out.mono ?_
    rintro e w9 ⟨rfl,hk9,ho9⟩
    have HF:Hid (Below N w w9∧ ∃R',SpA w9 N g b n R' lv rows):=hid ⟨HB3.out.trans (ho9.below (fun y hy=>by rw[List.mem_singleton.1 hy];exact HNN.out.2) (by have:=HB3.out.size;have:=HNN.out.1;omega)),_,H3.out.set HR.out.2.2.2.2.2.2.1 hk9 ho9⟩
    clear hk9 ho9
    go_wp2
    refine bodyPost_end (v:= .tuple #[]) (by simp[results,Tryz.results62,go_sem]) rfl ?_
    exact⟨rfl,HF.out⟩
   ·have l16: ¬(q:Int)+16≤(n:Int):=by omega
    clear h16
    have SX:=hid (ST.out x0 HR.out.2.2.2.2.2.2.2.2)
    go_wp2_with fail
    refine SX.out.mono ?_
    rintro e w9 ⟨rfl,hk9,ho9⟩
    have HF:Hid (Below N w w9∧ ∃R',SpA w9 N g b n R' lv rows):=hid ⟨HB3.out.trans (ho9.below (fun y hy=>by rw[List.mem_singleton.1 hy];exact HNN.out.2) (by have:=HB3.out.size;have:=HNN.out.1;omega)),_,H3.out.set HR.out.2.2.2.2.2.2.1 hk9 ho9⟩
    clear hk9 ho9
    go_wp2
    refine bodyPost_end (v:= .tuple #[]) (by simp[results,Tryz.results62,go_sem]) rfl ?_
    exact⟨rfl,HF.out⟩
  have b9:(s.how==9)=false:=by simp[h9]
  by_cases h10:s.how=10
  ·have b10:(s.how==10)=true:=by simp[h10]
   clear h10
   obtain⟨X,hX,eX⟩:=ROW.out r3 HR.out.2.2.2.2.1
   have SX:=hid (ST.out X hX)
   go_wp2_with fail
   refine SX.out.mono ?_
   rintro e w9 ⟨rfl,hk9,ho9⟩
   have HF:Hid (Below N w w9∧ ∃R',SpA w9 N g b n R' lv rows):=hid ⟨HB3.out.trans (ho9.below (fun y hy=>by rw[List.mem_singleton.1 hy];exact HNN.out.2) (by have:=HB3.out.size;have:=HNN.out.1;omega)),_,H3.out.set HR.out.2.2.2.2.2.2.1 hk9 ho9⟩
   clear hk9 ho9
   go_wp2
   refine bodyPost_end (v:= .tuple #[]) (by simp[results,Tryz.results62,go_sem]) rfl ?_
   exact⟨rfl,HF.out⟩
  have b10:(s.how==10)=false:=by simp[h10]
  obtain⟨X,hX⟩: ∃X:Nat,s.w=(X:Int):=⟨s.w.toNat,by have:=HS.out.w.1;omega⟩
  have hXl:X<18446744073709551616:=by have:=HS.out.w.2;omega
  rw[hX] at t5
  clear h5 h6 h7 h8 h9 h10 hX
  have SX:=hid (ST.out X hXl)
  go_wp2_with fail
  refine SX.out.mono ?_
  rintro e w9 ⟨rfl,hk9,ho9⟩
  have HF:Hid (Below N w w9∧ ∃R',SpA w9 N g b n R' lv rows):=hid ⟨HB3.out.trans (ho9.below (fun y hy=>by rw[List.mem_singleton.1 hy];exact HNN.out.2) (by have:=HB3.out.size;have:=HNN.out.1;omega)),_,H3.out.set HR.out.2.2.2.2.2.2.1 hk9 ho9⟩
  clear hk9 ho9
  go_wp2
  refine bodyPost_end (v:= .tuple #[]) (by simp[results,Tryz.results62,go_sem]) rfl ?_
  exact⟨rfl,HF.out⟩
end
section
attribute [local go_sem ↓ high] x1b
attribute [local go_sem] q1x q1v
def SpsAt (w:World) (v:Value) (l:List Sp):Prop:=
 ∃ao cap,v= .slice ao l.length cap∧(l=[]∨ ∃b off,ao=some ⟨b,off,none⟩∧b<w.heap.size∧ ∀i s,l[i]?=some s→w.rangeAt b (off+i*6) (spC s).toList)
theorem SpsAt.bel {w w':World} {v:Value} {l:List Sp} (h:SpsAt w v l) (hb:Below w.heap.size w w'):SpsAt w' v l:=by
 obtain⟨ao,cap,h1,h2⟩:=h
 refine⟨ao,cap,h1,?_⟩
 rcases h2 with h2 | ⟨b,off,h3,h4,h5⟩
 ·exact Or.inl h2
 ·exact Or.inr ⟨b,off,h3,Nat.lt_of_lt_of_le h4 hb.size,fun i s hi j v hv=>(hb.cell (p:=⟨b,off+i*6+j,none⟩) h4).trans (h5 i s hi j v hv)⟩
theorem sps_ld {w:World} {b o:Nat} {s:Sp} (h:w.rangeAt b o (spC s).toList):ldR Tryz.prog 133 (.pointer (some ⟨b,o,none⟩)) w= .ok (.agg (spC s)) w:=by
 have:=run_loadAt_mid (P:=Tryz.prog) w b o 133 (spC s).toList _ h Tryz.underlying133 rfl (by kernel_rfl)
 simpa[ldR] using this
structure La where
 slabs:Int
 per:Int
 lag:Int
def laC (x:La) (kv:Value):Array Value:= #[.int .i64 x.slabs,kv,.int .i64 x.per,.int .i64 x.lag]
def LaOK (x:La) (xs:List Int) (l:List Sp):Prop:=1≤x.slabs∧x.slabs≤16∧xs.length≤40∧2≤x.per∧x.per≤8∧0≤x.lag∧x.lag≤20∧l.length≤10
def q5b (xs:List Int):List Nat:=(q4s xs xs.length).map Int.toNat
def ArPs (w:World) (x:La) (xs:List Int) (l:List Sp) (e:Ending) (w':World):Prop:=
 Below w.heap.size w w'∧(e= .returned (.pointer none)∨ ∃g b n R lv rows R0,e= .returned (.pointer (some ⟨g,0,none⟩))∧LaOK x xs l∧w.heap.size≤g∧w.heap.size≤b∧SpA w' w.heap.size g b n R lv rows∧q8a x.slabs.toNat (q5b xs) x.per.toNat x.lag.toNat R0 rows∧(l=[]→R=R0))
theorem v1p {W:World} {N g b n:Nat} {R:AR} {lv:Value} {rows:List (List (Nat×NodeA))} {slabs per lag:Nat} {keys:List Nat} (h1:1≤slabs) (hs:slabs≤64) (hp:2≤per) (hk:keys.length≤1000) (hkk: ∀x∈keys,x<18446744073709551616) (hA:ArIs W g b n R lv) (hV:LvsA W N lv rows) (hB:q8a slabs keys per lag R rows):SpA W N g b n R lv rows:=by
 obtain⟨z1,K,z2,z3,z4,z5,z6⟩:=hB
 obtain⟨n1,n2⟩:=z2u h1 hs
 obtain⟨v1,v2,v3⟩:=z1u n1 hkk keys.length z1
 have hu:=z1g n1 (by rw[n2];omega) hkk keys.length z1
 have hbs:((AR.new slabs).vals keys keys.length).1.bs.length=1024*(slabs+1):=v2.trans n2
 have hK:K≤15:=by
  rcases Nat.lt_or_ge 15 K with h | h
  ·exact absurd (Or.inr (Or.inl rfl)) (z3 15 h)
  ·exact h
 have hinv:=z1m (per:=per) (lag:=lag) v1 (by rw[hbs];omega) hp (by rw[v3];exact hk) hu (K+1) (by omega) (fun j hj=>z2 j (by omega))
 obtain⟨q1,q2,q3,q4,q5,q6⟩:=hinv
 have hrl:rows.length=K+1:=by rw[z5,z5a]
 have hln:=hA.ln
 have hbsR:R.bs.length=1024*(slabs+1):=by
  rw[z6]
  show(putW _ 16 _).length=_
  rw[q3n _ (by rw[q2,hbs];omega),q2,hbs]
 have hsl:R.slabs=(((AR.new slabs).vals keys keys.length).1.lvls per lag ((AR.new slabs).vals keys keys.length).2 (K+1)).1.slabs:=by rw[z6];rfl
 have hlen:=q1.len
 refine⟨hA,hV,⟨by rw[hln,hbsR,hsl];rw[q2,hbs] at hlen;omega,by rw[hsl];rw[q2,hbs] at hlen;omega,by rw[hsl];exact q1.s64⟩,fun e=>(by rw[e] at hrl;simp at hrl),by omega,fun r hr=> ?_⟩
 rw[z5] at hr
 obtain⟨p1,p2,p3⟩:=q6 r hr
 exact⟨p1,p2,fun x hx=>by have:=(p3 x hx).1;rw[hbs] at this;rw[hln,hbsR];exact this⟩
theorem q7v (xs:List Int): ∀i,(q4s xs i).length≤i
 | 0=>Nat.le_refl _
 | i+1=>by have:=z4n (q4s xs i) (xs.getD i 0);have:=q7v xs i;show(insU _ _).length≤_;omega
theorem v7g {W1 W w9:World} {slabs per lag:Nat} {keys:List Nat} {e:Ending} (hb:Below W1.heap.size W1 W) (h:v0w W slabs keys per lag e w9): ∃v,e= .returned v∧Below W1.heap.size W1 w9∧(v= .pointer none∨ ∃g b n R lv rows,v= .pointer (some ⟨g,0,none⟩)∧W1.heap.size≤g∧W1.heap.size≤b∧ArIs w9 g b n R lv∧LvsA w9 W1.heap.size lv rows∧q8a slabs keys per lag R rows):=by
 obtain⟨h1,h2⟩:=h
 have hs:=hb.size
 rcases h2 with rfl | ⟨g,b,n,R,lv,rows,rfl,q1,q2,q3,q4,q5⟩
 ·exact⟨_,rfl,bx hb h1,Or.inl rfl⟩
 ·refine⟨_,rfl,bx hb h1,Or.inr ⟨g,b,n,R,lv,rows,rfl,by omega,by omega,q3,?_,q5⟩⟩
  obtain⟨vs,v1,v2,v3⟩:=q4
  exact⟨vs,v1,z5y v2 hs,fun i row hi=>by obtain⟨v,z1,z2,z3⟩:=v3 i row hi;exact⟨v,z1,z2,z5y z3 hs⟩⟩
theorem Arena_z (x:La) (kv lv0:Value) (xs:List Int) (l:List Sp) (hxs: ∀y∈xs,U64 y) (hsp: ∀s∈l,SpOK s) (hxl:xs.length≤9223372036854775807) (hll:l.length≤9223372036854775807) (hx:I64 x.slabs∧I64 x.per∧I64 x.lag) (w:World) (hK:q1w .u64 w kv xs) (hS:SpsAt w lv0 l):
 Calls Tryz.prog 13 #[.agg (laC x kv),lv0] w fun e w'=>ArPs w x xs l e w':=by
 obtain⟨ka,kc,rfl,hkc⟩:=hK
 obtain⟨sa,sc,rfl,hsc⟩:=hS
 obtain⟨m,hm⟩: ∃m,m=xs.length:=⟨_,rfl⟩
 obtain⟨k,hk⟩: ∃k,k=l.length:=⟨_,rfl⟩
 have HKA:Hid (q1w .u64 w (.slice ka m kc) xs):=hid ⟨ka,kc,by rw[hm],hkc⟩
 have HSA:Hid (SpsAt w (.slice sa k sc) l):=hid ⟨sa,sc,by rw[hk],hsc⟩
 rw[←hm,←hk]
 obtain⟨W1,hW1⟩: ∃W1,W1=w.alloc (.cells (laC x (.slice ka m kc)) 24):=⟨_,rfl⟩
 have hb1:Below w.heap.size w W1:=by rw[hW1];exact ba (Below.refl _ _) _
 have k1:Blk W1 w.heap.size 24 (laC x (.slice ka m kc)):=by rw[hW1];exact Blk.new _ _ _
 obtain⟨B,hB⟩: ∃B,B=w.heap.size:=⟨_,rfl⟩
 rw[←hB] at k1
 have c0:W1.cell? ⟨B,0,none⟩=some (.int .i64 x.slabs):=k1.cell 0
 have c1:W1.cell? ⟨B,1,none⟩=some (.slice ka m kc):=k1.cell 1
 have c2:W1.cell? ⟨B,2,none⟩=some (.int .i64 x.per):=k1.cell 2
 have c3:W1.cell? ⟨B,3,none⟩=some (.int .i64 x.lag):=k1.cell 3
 have HW1:=hid hW1
 have HB1:=hid hb1
 have HH:=hid (⟨hm,hk,hxs,hsp⟩:m=xs.length∧k=l.length∧(∀y∈xs,U64 y)∧(∀s∈l,SpOK s))
 clear hW1 hb1 k1 hxs hsp hkc hsc hm hk hxl hll hx
 go_enter Tryz.func13,Tryz.ntmps13
 go_upto_region 1 with fail
 rw[show _=W1 from HW1.out.symm,←hB]
 have HBB:=hid hB
 clear hB
 by_cases q1:x.slabs<1
 ·have HNIL:Hid (ArPs w x xs l (.returned (.pointer none)) W1):=hid ⟨HB1.out,Or.inl rfl⟩
  go_wp2
  go_ret
  exact HNIL.out
 by_cases q2:x.slabs>16
 ·have HNIL:Hid (ArPs w x xs l (.returned (.pointer none)) W1):=hid ⟨HB1.out,Or.inl rfl⟩
  go_wp2
  go_ret
  exact HNIL.out
 by_cases q3:40<m
 ·have p3:(m:Int)>40:=by omega
  have HNIL:Hid (ArPs w x xs l (.returned (.pointer none)) W1):=hid ⟨HB1.out,Or.inl rfl⟩
  go_wp2
  go_ret
  exact HNIL.out
 have n3: ¬(m:Int)>40:=by omega
 by_cases q4:x.per<2
 ·have HNIL:Hid (ArPs w x xs l (.returned (.pointer none)) W1):=hid ⟨HB1.out,Or.inl rfl⟩
  go_wp2
  go_ret
  exact HNIL.out
 by_cases q5:x.per>8
 ·have HNIL:Hid (ArPs w x xs l (.returned (.pointer none)) W1):=hid ⟨HB1.out,Or.inl rfl⟩
  go_wp2
  go_ret
  exact HNIL.out
 by_cases q6:x.lag<0
 ·have HNIL:Hid (ArPs w x xs l (.returned (.pointer none)) W1):=hid ⟨HB1.out,Or.inl rfl⟩
  go_wp2
  go_ret
  exact HNIL.out
 by_cases q7:x.lag>20
 ·have HNIL:Hid (ArPs w x xs l (.returned (.pointer none)) W1):=hid ⟨HB1.out,Or.inl rfl⟩
  go_wp2
  go_ret
  exact HNIL.out
 by_cases q8:10<k
 ·have p8:(k:Int)>10:=by omega
  have HNIL:Hid (ArPs w x xs l (.returned (.pointer none)) W1):=hid ⟨HB1.out,Or.inl rfl⟩
  go_wp2
  go_ret
  exact HNIL.out
 have n8: ¬(k:Int)>10:=by omega
 have HOK:Hid (LaOK x xs l):=hid (by have h1:=HH.out.1;have h2:=HH.out.2.1;unfold LaOK;omega)
 clear q3 q8
 go_upto_region 3 with fail
 obtain⟨sl,hsl⟩: ∃sl:Nat,x.slabs=(sl:Int):=⟨x.slabs.toNat,by omega⟩
 obtain⟨pe,hpe⟩: ∃pe:Nat,x.per=(pe:Int):=⟨x.per.toNat,by omega⟩
 obtain⟨lg,hlg⟩: ∃lg:Nat,x.lag=(lg:Int):=⟨x.lag.toNat,by omega⟩
 rw[hsl] at c0
 rw[hpe] at c2
 rw[hlg] at c3
 have HSL:=hid (⟨by rw[hsl];exact Int.toNat_natCast _,by rw[hpe];exact Int.toNat_natCast _,by rw[hlg];exact Int.toNat_natCast _,(by have:=HOK.out;unfold LaOK at this;omega:1≤sl∧sl≤16∧2≤pe∧pe≤8∧lg≤20)⟩:x.slabs.toNat=sl∧x.per.toNat=pe∧x.lag.toNat=lg∧1≤sl∧sl≤16∧2≤pe∧pe≤8∧lg≤20)
 have hm40:m≤40:=by omega
 have RZ:=hid (fun W (hb:Below W1.heap.size W1 W)=>v3q xs 40 (.slice ka m kc) (by have:=HH.out.1;omega) (by omega) W (HKA.out.bel (bx HB1.out hb)))
 have BZ:=hid (fun(W:World) (v:Value) (hb:Below W1.heap.size W1 W) (hv:q1w .u64 W v (q4s xs xs.length))=>v0e sl pe lg (q5b xs) v HSL.out.2.2.2.1 (by have:=HSL.out;omega) (by unfold q5b;rw[List.length_map];have:=q7v xs xs.length;have:=HH.out.1;omega) (by
  intro y hy
  unfold q5b at hy
  obtain⟨z,hz,rfl⟩:=List.mem_map.1 hy
  have:=HH.out.2.2.1 z (q9v (Nat.le_refl _) z hz)
  unfold U64 at this
  omega) HSL.out.2.2.2.2.2.1 HSL.out.2.2.2.2.2.2.1 (by have:=HSL.out;omega) W (by
  have e:(q5b xs).map (fun x:Nat=>(x:Int))=q4s xs xs.length:=by
   unfold q5b
   rw[List.map_map]
   conv=>rhs;rw[←List.map_id (q4s xs xs.length)]
   apply List.map_congr_left
   intro z hz
   have:=(HH.out.2.2.1 z (q9v (Nat.le_refl _) z hz)).1
   show((z.toNat:Nat):Int)=z
   omega
  rw[e];exact hv))
 clear q1 q2 n3 q4 q5 q6 q7 n8 hsl hpe hlg
 go_cut [5] from 5 to 55 (fun v wd=>Hid (Below W1.heap.size W1 wd∧(v= .pointer none∨ ∃g b n R lv rows,v= .pointer (some ⟨g,0,none⟩)∧W1.heap.size≤g∧W1.heap.size≤b∧ArIs wd g b n R lv∧LvsA wd W1.heap.size lv rows∧q8a sl (q5b xs) pe lg R rows)))
 case first=>
  go_region_held3 (fun X=>X.cell? ⟨B,0,none⟩=some (.int .i64 (sl:Int))∧X.cell? ⟨B,1,none⟩=some (.slice ka m kc)∧X.cell? ⟨B,2,none⟩=some (.int .i64 (pe:Int))∧X.cell? ⟨B,3,none⟩=some (.int .i64 (lg:Int))) (go_keep) (first
   | (go_at_call 18;refine(RZ.out _ (by(repeat(first | exact Below.refl _ _ | (refine ba ?_ _) | (refine Below.drew ?_) | (refine below_drewN ?_ _) | (refine Below.alloc ?_ (by first | omega | (simp;done) | (simp;omega)) _) | (refine Below.setCell ?_ (by first | omega | (simp;done) | (simp;omega)) _) | (refine bx ?_ (by assumption)) | (refine Below.trans ?_ (Below.mono (by assumption) (by first | omega | (simp;done) | (simp;omega)))))))).mono ?_;rintro e v1 ⟨hb,v,j,rfl,hj1,hj2,hj3,hrow⟩;(have hj:j=xs.length:=by have h8:=q7v xs j;have h9:=HH.out.1;omega);subst hj;have hB1:Below W1.heap.size W1 v1:=bx (by(repeat(first | exact Below.refl _ _ | (refine ba ?_ _) | (refine Below.drew ?_) | (refine below_drewN ?_ _) | (refine Below.alloc ?_ (by first | omega | (simp;done) | (simp;omega)) _) | (refine Below.setCell ?_ (by first | omega | (simp;done) | (simp;omega)) _) | (refine bx ?_ (by assumption)) | (refine Below.trans ?_ (Below.mono (by assumption) (by first | omega | (simp;done) | (simp;omega))))))) hb;have HBV:=hid hB1;have d1:v1.cell? ⟨B,1,none⟩=some (.slice ka m kc):=(hB1.cell (p:=⟨B,1,none⟩) (World.block_lt_of_cell? W1 _ c1)).trans c1;obtain⟨va,vc,rfl⟩:=q0q hrow;have HNA:=hid (q1w.of_own hrow);have d0:v1.cell? ⟨B,0,none⟩=some (.int .i64 (sl:Int)):=(hB1.cell (p:=⟨B,0,none⟩) (World.block_lt_of_cell? W1 _ c0)).trans c0;have d2:v1.cell? ⟨B,2,none⟩=some (.int .i64 (pe:Int)):=(hB1.cell (p:=⟨B,2,none⟩) (World.block_lt_of_cell? W1 _ c2)).trans c2;have d3:v1.cell? ⟨B,3,none⟩=some (.int .i64 (lg:Int)):=(hB1.cell (p:=⟨B,3,none⟩) (World.block_lt_of_cell? W1 _ c3)).trans c3;clear hb hrow hB1 hj1 hj2 hj3)
   | (go_at_call 35;refine(BZ.out _ _ (by first | exact HBV.out | exact HBV.out.drew) (by first | exact HNA.out | exact HNA.out.bel ⟨rfl,rfl,rfl,Nat.le_refl _,fun _ _=>rfl⟩)).mono ?_;intro e w9 h9;obtain⟨v9,rfl,hp9⟩:=v7g (by first | exact HBV.out | exact HBV.out.drew) h9;have f0:w9.cell? ⟨B,0,none⟩=some (.int .i64 (sl:Int)):=(hp9.1.cell (p:=⟨B,0,none⟩) (World.block_lt_of_cell? W1 _ c0)).trans c0;have f1:w9.cell? ⟨B,1,none⟩=some (.slice ka m kc):=(hp9.1.cell (p:=⟨B,1,none⟩) (World.block_lt_of_cell? W1 _ c1)).trans c1;have f2:w9.cell? ⟨B,2,none⟩=some (.int .i64 (pe:Int)):=(hp9.1.cell (p:=⟨B,2,none⟩) (World.block_lt_of_cell? W1 _ c2)).trans c2;have f3:w9.cell? ⟨B,3,none⟩=some (.int .i64 (lg:Int)):=(hp9.1.cell (p:=⟨B,3,none⟩) (World.block_lt_of_cell? W1 _ c3)).trans c3;have HP9:=hid hp9;clear h9 hp9))
  go_wp2
  go_meet
  exact HP9
 case rest=>
  obtain⟨hb9,hv9⟩:=hcut.out
  have HBW:Hid (Below w.heap.size w wc):=hid (bx HB1.out hb9)
  rcases hv9 with rfl | ⟨g,b,n,R,lv,rows,rfl,hg,hbb,hA,hV,hBO⟩
  ·have HF:Hid (ArPs w x xs l (.returned (.pointer none)) wc):=hid ⟨HBW.out,Or.inl rfl⟩
   clear hcut hb9
   go_wp2
   go_ret
   exact HF.out
  ·have hS:=v1p HSL.out.2.2.2.1 (by have:=HSL.out;omega) HSL.out.2.2.2.2.2.1 (by unfold q5b;rw[List.length_map];have:=q7v xs xs.length;have:=HH.out.1;omega) (by
   intro y hy
   unfold q5b at hy
   obtain⟨z,hz,rfl⟩:=List.mem_map.1 hy
   have:=HH.out.2.2.1 z (q9v (Nat.le_refl _) z hz)
   unfold U64 at this
   omega) hA hV hBO
   have hws:w.heap.size≤W1.heap.size:=HB1.out.size
   have hw9:W1.heap.size≤wc.heap.size:=hb9.size
   have HS0:Hid (SpA wc w.heap.size g b n R lv rows):=by
    refine hid ⟨hS.ar,?_,hS.sl,hS.rne,hS.rl,hS.rin⟩
    obtain⟨vs,v1,v2,v3⟩:=hS.lvs
    exact⟨vs,v1,z5y v2 hws,fun i row hi=>by obtain⟨v,z1,z2,z3⟩:=v3 i row hi;exact⟨v,z1,z2,z5y z3 hws⟩⟩
   have HGB:=hid (⟨by omega,by omega,hBO,hws⟩:w.heap.size≤g∧w.heap.size≤b∧q8a sl (q5b xs) pe lg R rows∧w.heap.size≤W1.heap.size)
   have HI0:Hid (Below w.heap.size w wc∧ ∃R',SpA wc w.heap.size g b n R' lv rows∧(0=0→R'=R)):=hid ⟨HBW.out,R,HS0.out,fun _=>rfl⟩
   have hk10:k≤10:=by have h1:=HOK.out;have h2:=HH.out.2.1;unfold LaOK at h1;omega
   clear hcut hb9 hg hbb hA hV hBO hS hws hw9 HS0 c0 c1 c2 c3
   go_wp2
   go_loopw [6] (fun iv wr=> ∃i:Nat,i≤k∧iv= .int .i64 (i:Int)∧Hid (Below w.heap.size w wr∧ ∃R',SpA wr w.heap.size g b n R' lv rows∧(i=0→R'=R))) (fun iv _=>k- (intOf iv).toNat)
   case atStart=>exact⟨0,Nat.zero_le _,rfl,hid ⟨HI0.out.1,(by obtain⟨R',q1,q2⟩:=HI0.out.2;exact⟨R',q1,fun _=>q2 trivial⟩)⟩⟩
   case round=>
    obtain⟨i,hik,rfl,hI⟩:=hrel
    obtain⟨wA,rfl⟩: ∃y,y=wr:=⟨_,rfl⟩
    clear HI0
    by_cases hlt:i<k
    ·have i1:(i:Int)< (k:Int):=by omega
     have i0:(0:Int)≤(i:Int):=by omega
     obtain⟨hbA,R',hSA,_⟩:=hI.out
     obtain⟨s,hs⟩: ∃s,l[i]?=some s:=⟨_,List.getElem?_eq_getElem (by have:=HH.out.2.1;omega)⟩
     obtain⟨sb,so,rfl,hld⟩: ∃sb so,sa=some ⟨sb,so,none⟩∧ldR Tryz.prog 133 (.pointer (some ⟨sb,so+i*6,none⟩)) wA= .ok (.agg (spC s)) wA:=by
      obtain⟨ao,cp,h1,h2⟩:=HSA.out.bel hbA
      injection h1 with h1 _ _
      subst h1
      rcases h2 with h2 | ⟨sb,so,h3,_,h5⟩
      ·rw[h2] at hs;simp at hs
      ·exact⟨sb,so,h3,sps_ld (h5 i s hs)⟩
     have SZ:=hid (Spoil_z s (HH.out.2.2.2 s (List.mem_of_getElem? hs)) w.heap.size g b n R' lv rows wA hbA.size HGB.out.2.1 hSA)
     have HBA:=hid hbA
     have HIK:=hid hlt
     clear hlt hik hbA hSA hs hI
     go_wp2_with fail
     refine SZ.out.mono ?_
     rintro e w5 ⟨rfl,hb5,R5,hS5⟩
     have HN:Hid (Below w.heap.size w w5∧ ∃R',SpA w5 w.heap.size g b n R' lv rows∧(i+1=0→R'=R)):=hid ⟨HBA.out.trans hb5,R5,hS5,fun h=>absurd h (Nat.succ_ne_zero _)⟩
     clear hb5 hS5 hld
     go_wp2
     go_roundw
     case rel=>exact⟨i+1,HIK.out,by go_num,HN⟩
     case measure=>simp[intOf];have:=HIK.out;omega
    ·obtain rfl:i=k:=by omega
     have i1: ¬(i:Int)< (i:Int):=by omega
     obtain⟨hbA,R',hSA,hR'⟩:=hI.out
     have HF:Hid (ArPs w x xs l (.returned (.pointer (some ⟨g,0,none⟩))) wA):=by
      refine hid ⟨hbA,Or.inr ⟨g,b,n,R',lv,rows,R,rfl,HOK.out,HGB.out.1,HGB.out.2.1,hSA,?_,fun hl=>hR' ?_⟩⟩
      ·rw[HSL.out.1,HSL.out.2.1,HSL.out.2.2.1];exact HGB.out.2.2.1
      ·rw[HH.out.2.1,hl];rfl
     clear hlt hik hbA hSA hI hR'
     go_wp2
     go_ret
     exact HF.out
end
end Go.Proofs.YtibiekfjbibpbaaGreat
