import Derived.Test.YtibiekfjbibpbaaGreatLokM
set_option maxRecDepth 100000
set_option maxHeartbeats 1000000
set_option linter.unusedVariables false
set_option linter.unusedSimpArgs false
namespace Go.Proofs.YtibiekfjbibpbaaGreat
open Go.RowKit
section
theorem z7l {bs:List Int} (hb:∀x∈bs,0<=x/\x<256) (s:Nat):leW ((bs.drop (1024*s)).take 8)=(q1u bs s:Int):=by have:=(q1h (bs:=(bs.drop (1024*s)).take 8) (fun x hx=>hb x (Ak (Ab hx)))).1;unfold q1u;omega
theorem x2h (p:Option Addr) (cap:Nat) (bs:List Int) (n:Nat) (hn:n=bs.length) (hl:n<=1000000) (a:Int) (ha:0<=a/\a<=18446744073709551615) (w:World) (h:q1m w p cap bs):
  Calls Tryz.prog 75 #[.slice p n cap,.int .u64 a] w fun e w'=>e= .returned (.int .i64 (clsI bs a))/\w=w':=by
 have SL:=hid (v7w a w ha.1 ha.2);have SS:=hid (q8q (n:Int) w);have hz:=q5w a;by_cases h0:q1q a=0
 ·have e0:(q1q a==0)=true:=by simp[h0]
  have HC:=hid (show clsI bs a=0 by unfold clsI;rw[if_pos (Or.inl h0)]);clear h h0 hn;go_enter Tryz.func75,Tryz.ntmps75;go_wp2_with fail;refine SL.out.mono ?_;rintro e w1 ⟨rfl,rfl⟩;go_wp2;go_ret;exact⟨by rw[HC.out];rfl,rfl⟩
 ·have e0:(q1q a==0)=false:=by simp[h0]
  obtain⟨s,I⟩:∃s:Nat,q1q a=(s:Int):=⟨(q1q a).toNat,by omega⟩;have L:q0w (n:Int)=q0w bs.length:=by rw[hn]
  obtain⟨q,hq⟩:∃q,q=q0w (bs.length:Int):=⟨_,rfl⟩;rw[L,<- hq] at SS;rw[I] at SL e0;by_cases h1:(s:Int)>q;·have HC:=hid (show clsI bs a=0 by unfold clsI;rw[if_pos (Or.inr (by omega))]);clear h h0 hn L hq I;go_enter Tryz.func75,Tryz.ntmps75;go_wp2_with fail;refine SL.out.mono ?_;rintro e w1 ⟨rfl,rfl⟩;go_wp2_with fail;refine SS.out.mono ?_;rintro e w1 ⟨rfl,rfl⟩;go_wp2;go_ret;exact⟨by rw[HC.out];rfl,rfl⟩
  ·have M:=q1s (n:=bs.length) (by omega);have TK:=x1m p cap bs (1024*s) (by omega) (by omega) w h;rw[z7l h.2.1 s,<- hn] at TK;obtain⟨c,hc⟩:∃c,c=q1u bs s:=⟨_,rfl⟩;rw[<- hc] at TK
   have S:(c:Int)<=18446744073709551615:=by
    have h2:=q1h (bs:=(bs.drop (1024*s)).take 8) (fun x hx=>h.2.1 x (Ak (Ab hx)))
    have h3:(2:Int)^ (8*((bs.drop (1024*s)).take 8).length)<=2^64:=by
     have hp:=As (n:=2) (by decide) (show 8*((bs.drop (1024*s)).take 8).length<=64 by rw[AU];omega)
     exact_mod_cast hp
    rw[z7l h.2.1 s,<- hc] at h2;omega
   have m1:IntKind.i64.wrap (1024*(s:Int))=((1024*s:Nat):Int):=by rw[IntWalk.i64_in _ (by omega)];omega
   have TK:=hid TK;have HC:=hid (show clsI bs a=if c<=3/\idxB a (c:Nat)=true then(c:Int) else 0 by unfold clsI;rw[if_neg (by omega),I,BG,<- hc]);clear h h0 hn L hq I hc M;by_cases h3:(c:Int)>3;·have HR:=hid (show clsI bs a=0 by rw[HC.out,if_neg (by omega)]);go_enter Tryz.func75,Tryz.ntmps75;go_wp2_with fail;refine SL.out.mono ?_;rintro e w1 ⟨rfl,rfl⟩;go_wp2_with fail;refine SS.out.mono ?_;rintro e w1 ⟨rfl,rfl⟩;go_wp2_with fail;refine TK.out.mono ?_;rintro e w1 ⟨rfl,rfl⟩;go_wp2;go_ret;exact⟨by rw[HR.out];rfl,rfl⟩
   ·have IX:=hid (v2z a (c:Nat) w ha.1);have O:=(x6m a (c:Nat)).1;obtain⟨x,hx⟩:∃x,x=idxZ a (c:Nat):=⟨_,rfl⟩;rw[<- hx] at IX O;have w3:IntKind.i64.wrap (c:Int)=(c:Int):=by rw[IntWalk.i64_in _ (by omega)]
    by_cases hx0:x<0
    ·have HR:=hid (show clsI bs a=0 by
      rw[HC.out,if_neg (fun hh=>by have:=hh.2;unfold idxB at this;rw[<- hx,show x= -1 by omega] at this;simp at this)])
     clear hx;go_enter Tryz.func75,Tryz.ntmps75;go_wp2_with fail;refine SL.out.mono ?_;rintro e w1 ⟨rfl,rfl⟩;go_wp2_with fail;refine SS.out.mono ?_;rintro e w1 ⟨rfl,rfl⟩;go_wp2_with fail;refine TK.out.mono ?_;rintro e w1 ⟨rfl,rfl⟩;go_wp2_with fail;refine IX.out.mono ?_;rintro e w1 ⟨rfl,rfl⟩;go_wp2;go_ret;exact⟨by rw[HR.out];rfl,rfl⟩
    ·have HR:=hid (show clsI bs a=c by
      rw[HC.out,if_pos ⟨by omega,by unfold idxB;rw[<- hx];simp;omega⟩])
     clear hx;go_enter Tryz.func75,Tryz.ntmps75;go_wp2_with fail;refine SL.out.mono ?_;rintro e w1 ⟨rfl,rfl⟩;go_wp2_with fail;refine SS.out.mono ?_;rintro e w1 ⟨rfl,rfl⟩;go_wp2_with fail;refine TK.out.mono ?_;rintro e w1 ⟨rfl,rfl⟩;go_wp2_with fail;refine IX.out.mono ?_;rintro e w1 ⟨rfl,rfl⟩;go_wp2;go_ret;exact⟨by rw[HR.out];rfl,rfl⟩
theorem y0z:(Tryz.prog.info? 46).map (fun i=>(i.zero,i.size,i.bytes))=some (some (.int .u64 0),1,8):=by kernel_rfl
abbrev rowW (W:World) (N:Nat) (v:Value) (xs:List Int):Prop:=W.ownsRow N 46 1 v xs.length (xs.map (Value.int .u64))
theorem x7z {W:World} {N:Nat} {v:Value} {xs:List Int} (h:rowW W N v xs) (hN:N<=W.heap.size) (x:Int) (hm:xs.length<=1000000):
  ∃va vc w9,q0n Tryz.prog #[22,22] 22 #[v,.slice (some ⟨W.heap.size,0,none⟩) 1 1] (W.alloc (.cells #[.int .u64 x] 46))= .ok (.slice va (xs.length+1) vc) w9/\
   rowW w9 N (.slice va (xs.length+1) vc) (xs++[x])/\Only v.ownBlock.toList W w9:=by
 obtain⟨i0,O,I,M,L⟩:=info_parts y0z;have h5:rowW (W.alloc (.cells #[.int .u64 x] 46)) N v xs:=((Only.refl [] W).alloc _).own h (by simp);obtain⟨v',w9,hA⟩:=q2b (P:=Tryz.prog) (W.alloc (.cells #[.int .u64 x] 46)) N 22 22 46 i0 (.int .u64 0) 1 8 Tryz.underlying22 O I M L rfl (by decide) v xs.length _ h5 (.slice (some ⟨W.heap.size,0,none⟩) 1 1) 1 [.int .u64 x] (Or.inr ⟨W.heap.size,0,1,rfl,fun j u hj=>by rw[(Blk.new W 46 #[.int .u64 x]).cell (0+j),AQ];simpa using hj⟩) (by simp) (fun u hu=>by simp at hu;subst hu;rfl) (by unfold maxLen;omega) (by omega) (by simp;omega);have h2:=hA.own;obtain⟨va,vc,rfl⟩:=q0q h2;refine⟨va,vc,w9,hA.run,?_,(((Only.refl [] W).alloc _).mono (fun _ h=>by cases h)).trans (Only.of_grown (f:=v.ownBlock.toList) hA.grown (fun y hy=>by simp[hy])) (fun y hy=>Or.inl hy)⟩;unfold rowW;rw[AI,Ah];exact h2
def q3o (bs:List Int) (a:Int) (m:Nat):List Int:=(List.range m).map fun(i:Nat)=>wdI bs (a+8*(i:Int))
theorem q4o (bs:List Int) (a:Int) (m:Nat):(q3o bs a m).length=m:=by unfold q3o;simp
theorem z8s (bs:List Int) (a:Int) (m:Nat):q3o bs a (m+1)=q3o bs a m++[wdI bs (a+8*(m:Int))]:=by unfold q3o;rw[Ay,Ah];rfl
attribute [local go_sem ↓ high] q0v
attribute [local go_sem] Oper.semAt_some q0h
theorem z6z (p:Option Addr) (cap:Nat) (bs:List Int) (n:Nat) (hn:n=bs.length) (hl:n<=1000000) (a m:Nat) (ha:a+8*m<=n) (w:World) (h:q1m w p cap bs):
  Calls Tryz.prog 78 #[.slice p n cap,.int .u64 (a:Int),.int .i64 (m:Int)] w fun e w'=>Below w.heap.size w w'/\ ∃v,e= .returned v/\rowW w' w.heap.size v (q3o bs a m):=by
 have HN:=hid hn;have H:=hid h;have hw:IntKind.i64.wrap (a:Int)=(a:Int):=by rw[IntWalk.i64_in _ (by omega)]
 clear hn h;go_enter Tryz.func78,Tryz.ntmps78;go_wp2;go_loopw [7,8] (fun v iv wr=> ∃i:Nat,i<=m/\iv= .int .i64 i/\Hid (rowW wr w.heap.size v (q3o bs a i)/\Below w.heap.size w wr)) (fun _ iv _=>m- (intOf iv).toNat);case atStart=>exact⟨0,Af _,rfl,World.ownsRow_nil _ _ _ _,Below.refl _ _⟩
 case round=>
  obtain⟨i,hi,rfl,hI⟩:=hrel;rename_i v;have i0:(0:Int)<=(i:Int):=by omega
  by_cases hlt:i<m
  ·have i1:(i:Int)< (m:Int):=by omega
   have TK:=x1m p cap bs (a+8*i) (by have:=HN.out;omega) (by have:=HN.out;omega) wr (q2d H.out hI.out.2);rw[<- HN.out] at TK;have hx:leW ((bs.drop (a+8*i)).take 8)=wdI bs ((a:Int)+8*(i:Int)):=by unfold wdI;rw[show((a:Int)+8*(i:Int)).toNat=a+8*i by omega]
   rw[hx,show((a+8*i:Nat):Int)=(a:Int)+8*(i:Int) by omega] at TK;obtain⟨va,vc,w9,L,I,ho⟩:=x7z hI.out.1 hI.out.2.size (wdI bs ((a:Int)+8*(i:Int))) (by rw[q4o];omega);rw[q4o] at L I;have O:Hid (rowW w9 w.heap.size (.slice va (i+1) vc) (q3o bs a (i+1))/\Below w.heap.size w w9):=by refine hid ⟨by rw[z8s];exact I,hI.out.2.trans (ho.below (fun x hx=>(hI.out.1.lt x (by simpa[Option.mem_toList] using hx)).1) hI.out.2.size)⟩
   have m1:IntKind.i64.wrap (8*(i:Int))=8*(i:Int):=by rw[IntWalk.i64_in _ (by omega)]
   have m2:IntKind.i64.wrap ((a:Int)+8*(i:Int))=(a:Int)+8*(i:Int):=by rw[IntWalk.i64_in _ (by omega)]
   have TK:=hid TK;have M:=hid hlt;clear hlt hx I ho;go_wp2_with fail;refine TK.out.mono ?_;rintro e w1 ⟨rfl,rfl⟩;go_wp2;go_roundw;case rel=>exact⟨i+1,M.out,by go_num,O⟩
   case measure=>simp[intOf];have:=M.out;omega
  ·obtain rfl:i=m:=by omega
   have i1: ¬(i:Int)< (i:Int):=by omega
   go_wp2;go_ret;exact⟨hI.out.2,_,rfl,hI.out.1⟩
end
section
theorem q5l (ps:Array (Nat×Value)):Instr.build 55 ps=bldM 55 ps:=rfl
attribute [local go_sem ↓ high] q0s q0f q0d q5l
attribute [local go_sem] q1x q1p q1v q2t
theorem z5o (W:World):bldR Tryz.prog 55 #[] W= .ok (.agg (q0x q2w)) W:=by kernel_rfl
theorem v1v (l a b c d:Int) (W:World):bldR Tryz.prog 55 #[(0,.int .i64 l),(1,.int .u64 a),(2,.int .u64 b),(3,.int .u64 c),(4,.int .u64 d)] W= .ok (.agg (q0x ⟨l,a,b,c,d,fun _=>0,fun _=>0⟩)) W:=by kernel_rfl
structure NDI (w:World) (f:Nat->Int) (B1 B5 k:Nat) (W:World):Prop where
 b1:Blk W B1 184 (q0o f)
 b2:Blk W (B1+1) 55 (q0x q2w)
 b5:Blk W B5 55 (q0x (q5j f k))
 bel:Below w.heap.size w W
 lt:w.heap.size<=B1/\B1+1<B5
theorem v5c (f:Nat->Int) (w:World) (h: ¬(tagN<=f 0/\f 0<=tagN+15)):
  Calls Tryz.prog 92 #[.agg (q0o f)] w fun e w'=>e= .returned (.tuple #[.agg (q0x q2w),.int .i64 11])/\Below w.heap.size w w':=by
 obtain⟨W1,I⟩:∃W1,W1=(w.alloc (.cells (q0o f) 184)).alloc (.cells #[.int .i64 0,.int .u64 0,.int .u64 0,.int .u64 0,.int .u64 0,.int .u64 0,.int .u64 0,.int .u64 0,.int .u64 0,.int .u64 0,.int .u64 0,.int .u64 0,.int .u64 0,.int .u64 0,.int .u64 0,.int .u64 0,.int .u64 0,.int .u64 0,.int .u64 0,.int .u64 0,.int .u64 0] 55):=⟨_,rfl⟩;have M:Below w.heap.size w W1:=by rw[I];exact ba (ba (Below.refl _ _) _) _
 have k1:Blk W1 w.heap.size 184 (q0o f):=by rw[I];exact(Blk.new _ _ _).alloc _
 have k2:Blk W1 (w.heap.size+1) 55 (q0x q2w):=by rw[I];have:=Blk.new (w.alloc (.cells (q0o f) 184)) 55 (q0x q2w);rw[World.size_alloc] at this;exact this
 have c0:W1.cell? ⟨w.heap.size,0,none⟩=some (.int .u64 (f 0)):=k1.cell 0;have Y:=z3q k2;have O:=q7m k2;have h1:=z5o W1;have HW:=hid I;have S:=hid M;clear I M k1 k2;have HT:=hid h;clear h;go_enter Tryz.func92,Tryz.ntmps92;go_upto_region 1 with fail;rw[show _=W1 from HW.out.symm];clear HW;go_wp2;go_loopw [4] (fun iv wr=> ∃j:Nat,j<=16/\iv= .int .i64 j/\wr=W1) (fun iv _=>(16- (intOf iv).toNat));case atStart=>exact⟨0,by omega,rfl,rfl⟩
 case round=>
  obtain⟨j,hj,rfl,rfl⟩:=hrel;by_cases hlt:j<16
  ·have i1:(j:Int)<=15:=by omega
   have wj:IntKind.u64.wrap (j:Int)=(j:Int):=IntWalk.u64_in _ (by constructor<;>omega);have ws:IntKind.u64.wrap (5495893775785918464+(j:Int))=5495893775785918464+(j:Int):=IntWalk.u64_in _ (by constructor<;>omega);have U:(f 0 !=5495893775785918464+(j:Int))=true:=by rw[bne_iff_ne];intro e;exact HT.out (by unfold tagN;omega)
   have L:=hid hlt;clear hlt hj;go_wp2;go_roundw;case rel=>exact⟨j+1,L.out,by go_num,by first|rfl|trivial⟩
   case measure=>simp[intOf];have:=L.out;omega
  ·obtain rfl:j=16:=by omega
   have i1: ¬((16:Nat):Int)<=15:=by omega
   clear hlt hj;go_wp2;refine bodyPost_ret (v:= .tuple #[.agg (q0x q2w),.int .i64 11]) (q0y rfl _ _ _ _ _ rfl rfl O) rfl ?_;exact⟨rfl,S.out⟩
theorem v9w (f:Nat->Int) (w:World) (hf:∀i,U64 (f i)) (h:tagN<=f 0/\f 0<=tagN+15):
  Calls Tryz.prog 92 #[.agg (q0o f)] w fun e w'=>e= .returned (.tuple #[.agg (q0x (q5t f)),.int .i64 0])/\Below w.heap.size w w':=by
 obtain⟨W1,M⟩:∃W1,W1=(w.alloc (.cells (q0o f) 184)).alloc (.cells #[.int .i64 0,.int .u64 0,.int .u64 0,.int .u64 0,.int .u64 0,.int .u64 0,.int .u64 0,.int .u64 0,.int .u64 0,.int .u64 0,.int .u64 0,.int .u64 0,.int .u64 0,.int .u64 0,.int .u64 0,.int .u64 0,.int .u64 0,.int .u64 0,.int .u64 0,.int .u64 0,.int .u64 0] 55):=⟨_,rfl⟩;have h6:Below w.heap.size w W1:=by rw[M];exact ba (ba (Below.refl _ _) _) _
 have k1:Blk W1 w.heap.size 184 (q0o f):=by rw[M];exact(Blk.new _ _ _).alloc _
 have k2:Blk W1 (w.heap.size+1) 55 (q0x q2w):=by rw[M];have:=Blk.new (w.alloc (.cells (q0o f) 184)) 55 (q0x q2w);rw[World.size_alloc] at this;exact this
 have c0:W1.cell? ⟨w.heap.size,0,none⟩=some (.int .u64 (f 0)):=k1.cell 0;have HW:=hid M;have hh:=hid h6;have HK:=hid (⟨k1,k2⟩:_/\_);obtain⟨B1,hm⟩:∃B1,B1=w.heap.size:=⟨_,rfl⟩;obtain⟨L,hL⟩:∃L:Nat,f 0=5495893775785918464+(L:Int)/\L<=15:=⟨(f 0-tagN).toNat,by unfold tagN at h ⊢;omega,by unfold tagN at h ⊢;omega⟩;have c1:W1.cell? ⟨w.heap.size,1,none⟩=some (.int .u64 (f 1)):=k1.cell 1;have c2:W1.cell? ⟨w.heap.size,2,none⟩=some (.int .u64 (f 2)):=k1.cell 2;have c3:W1.cell? ⟨w.heap.size,3,none⟩=some (.int .u64 (f 3)):=k1.cell 3;have c4:W1.cell? ⟨w.heap.size,4,none⟩=some (.int .u64 (f 4)):=k1.cell 4;have O:=hid hL;clear M h6 k1 k2 h hf hL;go_enter Tryz.func92,Tryz.ntmps92;go_upto_region 1 with fail;rw[show _=W1 from HW.out.symm];clear HW;go_wp2;go_loopw [4] (fun iv wr=> ∃j:Nat,j<=L/\iv= .int .i64 j/\wr=W1) (fun iv _=>(16- (intOf iv).toNat));case atStart=>exact⟨0,by omega,rfl,rfl⟩
 case round=>
  obtain⟨j,hj,rfl,rfl⟩:=hrel;obtain⟨wA,rfl⟩:∃x,x=wr:=⟨_,rfl⟩;have i1:(j:Int)<=15:=by have:=O.out;omega
  have wj:IntKind.u64.wrap (j:Int)=(j:Int):=IntWalk.u64_in _ (by constructor<;>omega);have ws:IntKind.u64.wrap (5495893775785918464+(j:Int))=5495893775785918464+(j:Int):=IntWalk.u64_in _ (by constructor<;>omega);by_cases hlt:j<L
  ·have h9:(f 0 !=5495893775785918464+(j:Int))=true:=by
    rw[bne_iff_ne];intro e;have:=O.out;omega
   have hi:=hid (show j<16 by have:=O.out;omega);have U:=hid hlt;clear hlt hj;go_wp2;go_roundw;case rel=>exact⟨j+1,U.out,by go_num,by first|rfl|trivial⟩
   case measure=>simp[intOf];have:=hi.out;omega
  ·obtain rfl:j=L:=by omega
   have h9:(f 0 !=5495893775785918464+(j:Int))=false:=by rw[O.out.1];simp
   have hg:=v1v (j:Int) (f 1) (f 2) (f 3) (f 4) wA;obtain⟨W2,h2,k5,S⟩:=q3e wA ⟨(j:Int),f 1,f 2,f 3,f 4,fun _=>0,fun _=>0⟩
   have h7:Hid (NDI w f w.heap.size wA.heap.size 0 W2):=by
    refine hid ⟨HK.out.1.bel S,HK.out.2.bel S,?_,bx hh.out S,AG _,by have:=HK.out.2.lt;omega⟩
    have e:q0x ⟨(j:Int),f 1,f 2,f 3,f 4,fun _=>0,fun _=>0⟩=q0x (q5j f 0):=by
     have:(j:Int)=f 0-tagN:=by unfold tagN;have:=O.out.1;omega
     rw[this];rfl
    rw[<- e];exact k5
   clear hlt hj k5 S;go_wp2;clear h2 hg c0 c1 c2 c3 c4;obtain⟨B5,h4⟩:∃B5,B5=wA.heap.size:=⟨_,rfl⟩;rw[<- h4] at h7 ⊢;clear h4;go_loopw [6] (fun iv W'=> ∃k:Nat,k<=8/\iv= .int .i64 k/\Hid (NDI w f w.heap.size B5 k W')) (fun iv _=>(8- (intOf iv).toNat));case atStart=>exact⟨0,by omega,rfl,h7⟩
   case round=>
    obtain⟨k,hk,rfl,hI⟩:=hrel;obtain⟨WB,rfl⟩:∃x,x=wr:=⟨_,rfl⟩;have k0:(0:Int)<=(k:Int):=by omega
    by_cases hk8:k<8
    ·have k1:(k:Int)<8:=by omega
     have e1:IntKind.i64.wrap (2*(k:Int))=((2*k:Nat):Int):=IntWalk.i64_in _ (by constructor<;>omega);obtain⟨a,ha⟩:∃a,a=8+2*k:=⟨_,rfl⟩;obtain⟨b,hb⟩:∃b,b=9+2*k:=⟨_,rfl⟩;have e2:8+2*(k:Int)=(a:Int):=by omega
     have e3:9+2*(k:Int)=(b:Int):=by omega
     have a0:(0:Int)<=(a:Int):=by omega
     have b0:(0:Int)<=(b:Int):=by omega
     have hp:(a:Int)<24:=by omega
     have hq:(b:Int)<24:=by omega
     have ca:WB.cell? ⟨w.heap.size,a,none⟩=some (.int .u64 (f a)):=(hI.out.b1.cell a).trans (q3a f (by omega));have ck:WB.cell? ⟨B5,5+k,none⟩=some (.int .u64 ((q5j f k).k k)):=(hI.out.b5.cell (5+k)).trans (z3b _ hk8);have fk:=hI.out.b5.frozen (5+k);have o1:Only [B5] WB (WB.setCell ⟨B5,5+k,none⟩ (.int .u64 (f a))):=(Only.refl _ WB).setCell (Or.inl (by simp)) _;have hlt:=hI.out.lt;have h8:=o1.blk hI.out.b1 (by simp;omega);have I:=hI.out.b5.set_ (5+k) (.int .u64 (f a));rw[v9x _ hk8] at I;have cb:(WB.setCell ⟨B5,5+k,none⟩ (.int .u64 (f a))).cell? ⟨w.heap.size,b,none⟩=some (.int .u64 (f b)):=(h8.cell b).trans (q3a f (by omega));have cp:(WB.setCell ⟨B5,5+k,none⟩ (.int .u64 (f a))).cell? ⟨B5,13+k,none⟩=some (.int .u64 ((q5j f k).p k)):=(I.cell (13+k)).trans (q6t _ hk8);have fp:=I.frozen (13+k);have hN:Hid (NDI w f w.heap.size B5 (k+1) ((WB.setCell ⟨B5,5+k,none⟩ (.int .u64 (f a))).setCell ⟨B5,13+k,none⟩ (.int .u64 (f b)))):=by have o:Only [B5] WB ((WB.setCell ⟨B5,5+k,none⟩ (.int .u64 (f a))).setCell ⟨B5,13+k,none⟩ (.int .u64 (f b))):=o1.trans ((Only.refl _ _).setCell (Or.inl (by simp)) _) (fun _ h=>Or.inl h);refine hid ⟨o.blk hI.out.b1 (by simp;omega),o.blk hI.out.b2 (by simp;omega),?_,hI.out.bel.trans (o.below (fun y hy=>by simp at hy;omega) hI.out.bel.size),hI.out.lt⟩;have h1:=I.set_ (13+k) (.int .u64 (f b));rw[v8j _ hk8] at h1;rw[z2s f hk8 ha hb] at h1;exact h1
     have HA:=hid hk8;clear ha hb hk hk8 o1 h8 I hlt;go_wp2
     trace_state
     go_roundw;case rel=>exact⟨k+1,HA.out,by go_num,hN⟩
     case measure=>simp[intOf];have:=HA.out;omega
    ·obtain rfl:k=8:=by omega
     have k1: ¬((8:Nat):Int)<8:=by omega
     have ho:=q2j hI.out.b5;obtain⟨W3,hl,h3,h5⟩:=z1b (q5j f 8) hI.out.b2;have Y:=q7m h3;have he:Hid (Below w.heap.size w W3):=hI.out.bel.trans (h5.below (fun y hy=>by have:=hI.out.lt;simp at hy;omega) hI.out.bel.size);clear hk hk8 h3 h5;go_wp2;refine bodyPost_ret (v:= .tuple #[.agg (q0x (q5j f 8)),.int .i64 0]) (q0y rfl _ _ _ _ _ rfl rfl Y) rfl ?_;exact⟨rfl,he.out⟩
end
section
theorem x4z (v:Value):Instr.loadAt 184 v=ldM 184 v:=rfl
attribute [local go_sem ↓ high] q0s q0f q0d q5l x4z
attribute [local go_sem] q1x q1p q1v q2t
def q8r (bs:List Int) (a:Int):Value:=match q1y bs a with
 | some n=> .tuple #[.agg (q0x n),.int .i64 0]
 | none=> .tuple #[.agg (q0x q2w),.int .i64 6]
def wTo (f:Nat->Int) (i:Nat):Nat->Int:=fun j=>if j<i then f j else 0
theorem v6w (f:Nat->Int) {i:Nat} (h:i<24):(q0o (wTo f i)).setIfInBounds i (.int .u64 (f i))=q0o (wTo f (i+1)):=by rcases(by omega:i=0\/i=1\/i=2\/i=3\/i=4\/i=5\/i=6\/i=7\/i=8\/i=9\/i=10\/i=11\/i=12\/i=13\/i=14\/i=15\/i=16\/i=17\/i=18\/i=19\/i=20\/i=21\/i=22\/i=23) with rfl|rfl|rfl|rfl|rfl|rfl|rfl|rfl|rfl|rfl|rfl|rfl|rfl|rfl|rfl|rfl|rfl|rfl|rfl|rfl|rfl|rfl|rfl|rfl<;>rfl
theorem v8p (f:Nat->Int):q0o (wTo f 24)=q0o f:=rfl
theorem v4h {w:World} {b:Nat} {f:Nat->Int} (h:Blk w b 184 (q0o f)):ldR Tryz.prog 184 (.pointer (some ⟨b,0,none⟩)) w= .ok (.agg (q0o f)) w:=h.ld Tryz.underlying184 rfl (by kernel_rfl)
structure NdI (w:World) (f:Nat->Int) (B7 i:Nat) (W:World):Prop where
 b7:Blk W B7 184 (q0o (wTo f i))
 b4:Blk W w.heap.size 55 (q0x q2w)
 bel:Below w.heap.size w W
 lt:w.heap.size<B7
theorem x5e (p:Option Addr) (cap:Nat) (bs:List Int) (n:Nat) (hn:n=bs.length) (hl:n<=1000000) (a:Int) (ha:0<=a/\a<=18446744073709551615) (w:World) (h:q1m w p cap bs):
  Calls Tryz.prog 23 #[.slice p n cap,.int .u64 a] w fun e w'=>e= .returned (q8r bs a)/\Below w.heap.size w w':=by
 obtain⟨W1,Y⟩:∃W1,W1=w.alloc (.cells #[.int .i64 0,.int .u64 0,.int .u64 0,.int .u64 0,.int .u64 0,.int .u64 0,.int .u64 0,.int .u64 0,.int .u64 0,.int .u64 0,.int .u64 0,.int .u64 0,.int .u64 0,.int .u64 0,.int .u64 0,.int .u64 0,.int .u64 0,.int .u64 0,.int .u64 0,.int .u64 0,.int .u64 0] 55):=⟨_,rfl⟩;have h3:Below w.heap.size w W1:=by rw[Y];exact ba (Below.refl _ _) _
 have k1:Blk W1 w.heap.size 55 (q0x q2w):=by rw[Y];exact Blk.new w 55 (q0x q2w)
 have H1:=q2d h h3;have CL:=hid (x2h p cap bs n hn hl a ha W1 H1);have HW:=hid Y;have k0:=z3q k1;have k5:=q7m k1;have ho:=hid (⟨h3,k1⟩:_/\_);by_cases hc:clsI bs a=3
 ·rw[hc] at CL
  obtain⟨k,kd,k3,_⟩:∃k:Nat,a=8*k/\k+24<=bs.length/8/\0<k:=z2q hc ha.1 (by
   by_cases hs:0<q0w bs.length;·exact hs
   ·exfalso;unfold clsI at hc;have:=q5w a;rw[if_pos (by omega)] at hc;omega)
  have WD:=hid (z6z p cap bs n hn hl (8*k) 24 (by omega) W1 H1);have ea:((8*k:Nat):Int)=a:=by omega
  rw[ea] at WD;have hf:∀i,U64 (q2p bs a i):=q4b h.2.1 a;have HC:=hid hc;have HF:=hid hf;clear Y h3 k1 H1 h hn hc kd ea hf;go_enter Tryz.func23,Tryz.ntmps23;go_upto_region 1 with fail;rw[show _=W1 from HW.out.symm];go_wp2_with fail;refine CL.out.mono ?_;rintro e w2 ⟨rfl,rfl⟩;go_wp2_with fail;refine WD.out.mono ?_;rintro e w3 ⟨h2,v,rfl,U⟩;have hk:=q4o bs a 24;have I:=U;unfold rowW at I;rw[hk] at I;obtain⟨g,cp,rfl,kc,kf,ke,hm⟩:=q2e I (by omega);obtain⟨W5,h4⟩:∃W5,W5=w3.alloc (.cells #[.int .u64 0,.int .u64 0,.int .u64 0,.int .u64 0,.int .u64 0,.int .u64 0,.int .u64 0,.int .u64 0,.int .u64 0,.int .u64 0,.int .u64 0,.int .u64 0,.int .u64 0,.int .u64 0,.int .u64 0,.int .u64 0,.int .u64 0,.int .u64 0,.int .u64 0,.int .u64 0,.int .u64 0,.int .u64 0,.int .u64 0,.int .u64 0] 184):=⟨_,rfl⟩;have S:Below w3.heap.size w3 W5:=by rw[h4];exact ba (Below.refl _ _) _
  obtain⟨B7,he⟩:∃B7,B7=w3.heap.size:=⟨_,rfl⟩;have k7:Blk W5 B7 184 (q0o (wTo (q2p bs a) 0)):=by rw[h4,he];exact Blk.new w3 184 (q0o (wTo (q2p bs a) 0))
  have h9:Hid (NdI w (q2p bs a) B7 0 W5/\Below W1.heap.size W1 W5/\(∀i:Nat,i<24->W5.cell? ⟨g,i,none⟩=some (.int .u64 (q2p bs a i)))/\g<B7):=by
   have h1:=ho.out;refine hid ⟨⟨k7,(h1.2.bel h2).bel S,bx (bx h1.1 h2) S,by have:=h1.2.lt;have:=h2.size;omega⟩,bx h2 S,fun i hi=> ?_,by omega⟩;refine((Only.of_below S []).cell (p:=⟨g,i,none⟩) (by omega) (by simp)).trans ?_;have:=hm i (.int .u64 (q2p bs a i)) (by rw[AM];unfold q3o;rw[AM,BM hi];rfl)
   rwa[AQ] at this
  have HG:=hid (⟨h9.out.2.2.1,h9.out.2.2.2⟩:_/\_);clear U I kc ke hm h2 S k7 k0 hk;go_wp2;rw[<- he,<- h4];clear h4 he;go_loopw [8] (fun iv wr=> ∃i:Nat,i<=24/\iv= .int .i64 i/\Hid (NdI w (q2p bs a) B7 i wr/\ ∀i:Nat,i<24->wr.cell? ⟨g,i,none⟩=some (.int .u64 (q2p bs a i)))) (fun iv _=>(24- (intOf iv).toNat));case atStart=>exact⟨0,by omega,rfl,⟨h9.out.1,HG.out.1⟩⟩
  case round=>
   obtain⟨i,hi,rfl,hI⟩:=hrel;have i0:(0:Int)<=(i:Int):=by omega
   by_cases hlt:i<24
   ·have i1:(i:Int)<24:=by omega
    have cg:=hI.out.2 i hlt;have c7:wr.cell? ⟨B7,i,none⟩=some (.int .u64 (wTo (q2p bs a) i i)):=(hI.out.1.b7.cell i).trans (q3a _ hlt);have f7:=hI.out.1.b7.frozen i;have hN:Hid (NdI w (q2p bs a) B7 (i+1) (wr.setCell ⟨B7,i,none⟩ (.int .u64 (q2p bs a i)))/\ ∀j:Nat,j<24->(wr.setCell ⟨B7,i,none⟩ (.int .u64 (q2p bs a i))).cell? ⟨g,j,none⟩=some (.int .u64 (q2p bs a j))):=by have o:Only [B7] wr (wr.setCell ⟨B7,i,none⟩ (.int .u64 (q2p bs a i))):=(Only.refl _ wr).setCell (Or.inl (by simp)) _;have hh:=hI.out.1.lt;have h7:=hI.out.1.b7.set_ i (.int .u64 (q2p bs a i));rw[v6w _ hlt] at h7;refine hid ⟨⟨h7,o.blk hI.out.1.b4 (by simp;omega),hI.out.1.bel.trans (o.below (fun y hy=>by simp at hy;omega) hI.out.1.bel.size),hh⟩,fun j hj=> ?_⟩;exact(o.cell (p:=⟨g,j,none⟩) (World.block_lt_of_cell? wr _ (hI.out.2 j hj)) (by have:=HG.out.2;simp;omega)).trans (hI.out.2 j hj)
    have hq:=hid hlt;clear hlt hi;go_wp2;go_roundw;case rel=>exact⟨i+1,hq.out,by go_num,hN⟩
    case measure=>simp[intOf];have:=hq.out;omega
   ·obtain rfl:i=24:=by omega
    have i1: ¬((24:Nat):Int)<24:=by omega
    have k7:=hI.out.1.b7;rw[v8p] at k7;have hg:=v4h k7;have HI:=hid hI.out.1;clear hlt hi k7;by_cases ht:tagN<=q2p bs a 0/\q2p bs a 0<=tagN+15
    ·have OF:=hid (v9w (q2p bs a) wr HF.out ht)
     have HR:=hid (show q8r bs a= .tuple #[.agg (q0x (q5t (q2p bs a))),.int .i64 0] by
      unfold q8r
      rw[show q1y bs a=some (q5t (q2p bs a)) by
       unfold q1y;have e:q2p bs a 0=wdI bs a:=by unfold q2p;simp
       rw[e] at ht;rw[if_pos ⟨HC.out,ht⟩]])
     clear ht;go_wp2_with fail;refine OF.out.mono ?_;rintro e w6 ⟨rfl,M⟩;obtain⟨W7,h8,k9,L⟩:=q3e w6 (q5t (q2p bs a));have hz:=q2j k9;obtain⟨W8,h5,k8,hp⟩:=z1b (q5t (q2p bs a)) ((HI.out.b4.bel M).bel L);have O:=q7m k8;have h6:Hid (Below w.heap.size w W8):=by have h1:=bx (bx HI.out.bel M) L;exact hid (h1.trans (hp.below (fun y hy=>by simp at hy;omega) h1.size))
     clear k9 k8 hp M L hg;go_wp2;refine bodyPost_ret (v:= .tuple #[.agg (q0x (q5t (q2p bs a))),.int .i64 0]) (q0y rfl _ _ _ _ _ rfl rfl O) rfl ?_;exact⟨by rw[HR.out],h6.out⟩
    ·have OF:=hid (v5c (q2p bs a) wr ht)
     have HR:=hid (show q8r bs a= .tuple #[.agg (q0x q2w),.int .i64 6] by
      unfold q8r
      rw[show q1y bs a=none by
       unfold q1y;have e:q2p bs a 0=wdI bs a:=by unfold q2p;simp
       rw[e] at ht;rw[if_neg (fun h=>ht h.2)]])
     clear ht;go_wp2_with fail;refine OF.out.mono ?_;rintro e w6 ⟨rfl,M⟩;obtain⟨W7,h8,k9,L⟩:=q3e w6 q2w;have k4:=(HI.out.b4.bel M).bel L;have kb:=z5o W7;have h5:=z3q k4;have O:=q7m k4;have h6:=hid (bx (bx HI.out.bel M) L);clear k9 k4 M L hg;go_wp2;refine bodyPost_ret (v:= .tuple #[.agg (q0x q2w),.int .i64 6]) (q0y rfl _ _ _ _ _ rfl rfl O) rfl ?_;exact⟨by rw[HR.out],h6.out⟩
 ·have hx:(clsI bs a !=3)=true:=by simpa using hc
  have HR:=hid (show q8r bs a= .tuple #[.agg (q0x q2w),.int .i64 6] by unfold q8r;rw[show q1y bs a=none by unfold q1y;rw[if_neg (fun h=>hc h.1)]]);obtain⟨c,hr⟩:∃c,c=clsI bs a:=⟨_,rfl⟩;rw[<- hr] at CL hx;have kb:=z5o W1;clear Y h3 k1 H1 h hn hc hr;go_enter Tryz.func23,Tryz.ntmps23;go_upto_region 1 with fail;rw[show _=W1 from HW.out.symm];go_wp2_with fail;refine CL.out.mono ?_;rintro e w2 ⟨rfl,rfl⟩;go_wp2;refine bodyPost_ret (v:= .tuple #[.agg (q0x q2w),.int .i64 6]) (q0y rfl _ _ _ _ _ rfl rfl k5) rfl ?_;exact⟨by rw[HR.out],ho.out.1⟩
end
def z4w (row:List (Int×NodeA)):List Value:=row.flatMap fun x=>(q0x x.2).toList
abbrev rowN (W:World) (N:Nat) (v:Value) (row:List (Int×NodeA)):Prop:=W.ownsRow N 55 21 v row.length (z4w row)
structure RowD (W:World) (N:Nat) (v1 v2:Value) (row:List (Int×NodeA)):Prop where
 at':W.ownsRow N 51 1 v1 row.length (row.map fun x=>Value.int .u64 x.1)
 nd:rowN W N v2 row
theorem q5u (n:NodeA):(q0x n).size=21:=rfl
theorem z3x {row:List (Int×NodeA)}:∀{i:Nat} {x:Int×NodeA},row[i]?=some x-> ∀j,j<21->(z4w row)[i*21+j]?=(q0x x.2)[j]?:=by
 induction row with
 | nil=>intro i x h;simp at h
 | cons y r ih=>
  intro i x h j hj;unfold z4w;rw[Ap];cases i with
  | zero=>simp at h;subst h;rw[Aa (by rw[BV,q5u];omega),Nat.zero_mul,AQ,Ad]
  | succ i=>rw[Ac (by rw[BV,q5u];omega),BV,q5u,show(i+1)*21+j-21=i*21+j by omega];exact ih (by simpa using h) j hj
theorem v1z:(Tryz.prog.info? 55).map (fun i=>(i.zero,i.size,i.bytes))=some (some (.agg (q0x q2w)),21,168):=by kernel_rfl
theorem v0f (n:NodeA) (w:World):bslR Tryz.prog 77 1 #[(0,.agg (q0x n))] w= .ok (.slice (some ⟨w.heap.size,0,none⟩) 1 1) (w.alloc (.cells (q0x n) 55)):=by kernel_rfl
theorem x9d {W:World} {N:Nat} {v:Value} {row:List (Int×NodeA)} (h:rowN W N v row) (hN:N<=W.heap.size) (x:Int×NodeA) (hm:row.length<=1000000):
  ∃va vc w9,q0n Tryz.prog #[77,77] 77 #[v,.slice (some ⟨W.heap.size,0,none⟩) 1 1] (W.alloc (.cells (q0x x.2) 55))= .ok (.slice va (row.length+1) vc) w9/\
   rowN w9 N (.slice va (row.length+1) vc) (row++[x])/\Only v.ownBlock.toList W w9/\((Value.slice va (row.length+1) vc).ownBlock=v.ownBlock\/ ∃k,(Value.slice va (row.length+1) vc).ownBlock=some k/\W.heap.size<=k):=by
 obtain⟨i0,O,I,M,L⟩:=info_parts v1z;have h5:rowN (W.alloc (.cells (q0x x.2) 55)) N v row:=((Only.refl [] W).alloc _).own h (by simp);obtain⟨v',w9,hA⟩:=q2b (P:=Tryz.prog) (W.alloc (.cells (q0x x.2) 55)) N 77 77 55 i0 _ 21 168 Tryz.underlying77 O I M L rfl (by decide) v row.length _ h5 (.slice (some ⟨W.heap.size,0,none⟩) 1 1) 1 (q0x x.2).toList (Or.inr ⟨W.heap.size,0,1,rfl,fun j u hj=>by rw[(Blk.new W 55 (q0x x.2)).cell (0+j),AQ,<- Ad];exact hj⟩) rfl (fun u hu=>by unfold q0x at hu;simp at hu;rcases hu with rfl|rfl|rfl|rfl|rfl|rfl|rfl|rfl|rfl|rfl|rfl|rfl|rfl|rfl|rfl|rfl|rfl|rfl|rfl|rfl|rfl<;>rfl) (by unfold maxLen;omega) (by omega) (by simp;omega)
 have h2:=hA.own;obtain⟨va,vc,rfl⟩:=q0q h2;refine⟨va,vc,w9,hA.run,?_,(((Only.refl [] W).alloc _).mono (fun _ h=>by cases h)).trans (Only.of_grown (f:=v.ownBlock.toList) hA.grown (fun y hy=>by simp[hy])) (fun y hy=>Or.inl hy),?_⟩;·unfold rowN z4w;rw[AI,Al];simpa[z4w] using h2
 ·rcases hA.ob with h4|h4;·exact Or.inl h4
  ·exact Or.inr ⟨_,h4,by simp⟩
theorem q7o (p:Value):Instr.loadAt 79 p=ldM 79 p:=rfl
theorem q6b (a:Addr):loadVar 79 a=lvM 79 a:=rfl
theorem q6p (p v:Value):Instr.storeAt 79 p v=stM 79 p v:=rfl
theorem q7s (n:Nat) (ps:Array (Nat×Value)):Instr.buildSlice 77 n ps=bslM 77 n ps:=rfl
theorem q8b {W:World} {b:Nat} {v1 v2:Value} (h:Blk W b 79 #[v1,v2]):ldR Tryz.prog 79 (.pointer (some ⟨b,0,none⟩)) W= .ok (.agg #[v1,v2]) W:=h.ld Tryz.underlying79 rfl (by kernel_rfl)
theorem v5n {W:World} {b:Nat} {v1 v2:Value} (h:Blk W b 79 #[v1,v2]):lvR Tryz.prog 79 ⟨b,0,none⟩ W= .ok (.agg #[v1,v2]) W:=h.lv Tryz.underlying79 rfl (by kernel_rfl)
theorem x6a {W:World} {b:Nat} {cs:Array Value} (h:Blk W b 79 cs) (hc:cs.size=2) (a1 a2:Option Addr) (n1 c1 n2 c2:Nat):∃W',stR Tryz.prog 79 (.pointer (some ⟨b,0,none⟩)) (.agg #[.slice a1 n1 c1,.slice a2 n2 c2]) W= .ok () W'/\Blk W' b 79 #[.slice a1 n1 c1,.slice a2 n2 c2]/\Only [b] W W':=by refine⟨W.setRow b _,h.st (by kernel_rfl) hc (by kernel_rfl),setRow_heap W b _ _ _ _ h,⟨rfl,rfl,rfl,by simp,fun x hx hn=>setRow_other W b x _ (by simpa using hn)⟩⟩
theorem RowD.only {W W':World} {N:Nat} {v1 v2:Value} {row:List (Int×NodeA)} {f:List Nat} (h:RowD W N v1 v2 row) (ho:Only f W W') (hf:∀k∈f,k<N\/W.heap.size<=k):RowD W' N v1 v2 row:=⟨ho.own h.at' (fun k hk hm=>by have:=h.at'.lt k hk;have:=hf k hm;omega),ho.own h.nd (fun k hk hm=>by have:=h.nd.lt k hk;have:=hf k hm;omega)⟩
theorem RowD.bel {W W':World} {N:Nat} {v1 v2:Value} {row:List (Int×NodeA)} (h:RowD W N v1 v2 row) (hb:Below W.heap.size W W'):RowD W' N v1 v2 row:=h.only (Only.of_below hb []) (by simp)
theorem RowD.push {W:World} {N B8:Nat} {v1 v2:Value} {row:List (Int×NodeA)} (h:RowD W N v1 v2 row) (Y:Blk W B8 79 #[v1,v2]) (h8:B8<N) (hN:N<=W.heap.size) (x:Int×NodeA) (hm:row.length<=1000000):
  ∃a1 c1 a2 c2 wa wb,q0n Tryz.prog #[30,30] 30 #[v1,.slice (some ⟨W.heap.size,0,none⟩) 1 1] (W.alloc (.cells #[.int .u64 x.1] 51))= .ok (.slice a1 (row.length+1) c1) wa/\
   wa.cell? ⟨B8,0,none⟩=some v1/\wa.frozen? ⟨B8,0,none⟩=false/\(wa.setCell ⟨B8,0,none⟩ (.slice a1 (row.length+1) c1)).cell? ⟨B8,1,none⟩=some v2/\
   Only (B8::v1.ownBlock.toList) W (wa.setCell ⟨B8,0,none⟩ (.slice a1 (row.length+1) c1))/\
   q0n Tryz.prog #[77,77] 77 #[v2,.slice (some ⟨(wa.setCell ⟨B8,0,none⟩ (.slice a1 (row.length+1) c1)).heap.size,0,none⟩) 1 1] ((wa.setCell ⟨B8,0,none⟩ (.slice a1 (row.length+1) c1)).alloc (.cells (q0x x.2) 55))= .ok (.slice a2 (row.length+1) c2) wb/\
   wb.cell? ⟨B8,1,none⟩=some v2/\wb.frozen? ⟨B8,1,none⟩=false/\
   RowD (wb.setCell ⟨B8,1,none⟩ (.slice a2 (row.length+1) c2)) N (.slice a1 (row.length+1) c1) (.slice a2 (row.length+1) c2) (row++[x])/\
   Blk (wb.setCell ⟨B8,1,none⟩ (.slice a2 (row.length+1) c2)) B8 79 #[.slice a1 (row.length+1) c1,.slice a2 (row.length+1) c2]/\
   Only (B8::(v1.ownBlock.toList++v2.ownBlock.toList)) W (wb.setCell ⟨B8,1,none⟩ (.slice a2 (row.length+1) c2)):=by
 have hu:rowU W N v1 (row.map (·.1)):=by unfold rowU;rw[AO,BU];exact h.at'
 obtain⟨a1,c1,wa,r1,r2,r3,r4⟩:=q5f hu hN x.1 (by rw[AO];exact hm);rw[AO] at r1 r2 r4;have n1:B8∉v1.ownBlock.toList:=fun hm=>by have:=h.at'.lt B8 (by simpa[Option.mem_toList] using hm);omega
 have M:=r3.blk Y n1;have o1:Only [B8] wa (wa.setCell ⟨B8,0,none⟩ (.slice a1 (row.length+1) c1)):=(Only.refl _ _).setCell (Or.inl (by simp)) _;have o2:Only (B8::v1.ownBlock.toList) W (wa.setCell ⟨B8,0,none⟩ (.slice a1 (row.length+1) c1)):=(r3.mono (fun _ h=>AW _ h)).trans o1 (fun x hx=>Or.inl (by rw[AF.1 hx];exact Ae ..));have U:=M.set_ 0 (.slice a1 (row.length+1) c1)
 have O:rowN (wa.setCell ⟨B8,0,none⟩ (.slice a1 (row.length+1) c1)) N v2 row:=o2.own h.nd (fun k hk hm=>by
  obtain⟨hl,cs,hc⟩:=q0l h.nd k hk;rcases AN.1 hm with e|e;·omega
  ·obtain⟨_,h3,I⟩:=q0l h.at' k (by simpa[Option.mem_toList] using e);rw[hc] at I;injection I with I;injection I with _ I _;cases I)
 obtain⟨a2,c2,wb,s1,s2,s3,s4⟩:=x9d O (AH hN o2.size) x hm;have n2:B8∉v2.ownBlock.toList:=fun hm=>by have:=h.nd.lt B8 (by simpa[Option.mem_toList] using hm);omega
 have bb1:=s3.blk U n2;have o3:Only [B8] wb (wb.setCell ⟨B8,1,none⟩ (.slice a2 (row.length+1) c2)):=(Only.refl _ _).setCell (Or.inl (by simp)) _;have S:∀k,(Value.slice a1 (row.length+1) c1).ownBlock=some k->N<=k:=fun k hk=>(r2.lt k (by simpa using hk)).1;have h2:∀k,(Value.slice a2 (row.length+1) c2).ownBlock=some k->N<=k:=fun k hk=>(s2.lt k (by simpa using hk)).1;have L:(wa.setCell ⟨B8,0,none⟩ (.slice a1 (row.length+1) c1)).ownsRow N 51 1 (.slice a1 (row.length+1) c1) (row++[x]).length ((row++[x]).map fun y=>Value.int .u64 y.1):=by have h1:=o1.own r2 (fun k hk hm=>by have:=S k hk;simp at hm;omega);rw[AI,AO,Ah,BU] at h1;rw[AI,Ah];exact h1
 refine⟨a1,c1,a2,c2,wa,wb,r1,M.cell 0,M.frozen 0,U.cell 1,o2,s1,bb1.cell 1,bb1.frozen 1,⟨?_,?_⟩,bb1.set_ 1 _,?_⟩;·refine o3.own (s3.own L (fun k hk hm=> ?_)) (fun k hk hm=>by have:=S k hk;simp at hm;omega);obtain⟨_,cs,hc⟩:=q0l L k hk;obtain⟨_,h3,I⟩:=q0l O k (by simpa[Option.mem_toList] using hm);rw[hc] at I;injection I with I;injection I with _ I _;cases I
 ·exact o3.own s2 (fun k hk hm=>by have:=h2 k hk;simp at hm;omega)
 ·refine(((o2.mono (g:=B8::(v1.ownBlock.toList++v2.ownBlock.toList)) (fun y hy=> ?_)).trans s3 (fun y hy=>Or.inl (by simp[hy]))).trans o3 (fun y hy=>Or.inl (by rw[AF.1 hy];exact Ae ..)));rcases AN.1 hy with e|e;·rw[e];exact Ae ..
  ·exact AW _ (List.mem_append_left _ e)
end Go.Proofs.YtibiekfjbibpbaaGreat
