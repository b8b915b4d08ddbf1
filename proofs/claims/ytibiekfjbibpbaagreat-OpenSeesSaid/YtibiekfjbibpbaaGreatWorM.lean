import Derived.Test.YtibiekfjbibpbaaGreatNodN
import Derived.Test.YtibiekfjbibpbaaGreatRefM
set_option maxRecDepth 100000
set_option maxHeartbeats 2000000
set_option linter.unusedVariables false
set_option linter.unusedSimpArgs false
namespace Go.Proofs.YtibiekfjbibpbaaGreat
open Go.RowKit
def q4v (n:Nat):Nat:=1+(n+7)/8
theorem v2u (n:Nat) (hn:n<=120) (w:World):Calls Tryz.prog 247 #[.int .i64 n] w fun e w'=>e= .returned (.int .i64 (q4v n:Nat))/\w=w':=by
 have h0: ¬(n:Int)<0:=by omega
 have h1: ¬(120:Int)< (n:Int):=by omega
 have h2:(0:Int)<=(n:Int):=by omega
 have hq:IntKind.i64.wrap (((n:Int)+8-1).tdiv 8)=(((n+7)/8:Nat):Int):=by rw[IntWalk.i64_quo _ _ ⟨by omega,by omega,by omega⟩];omega
 have I:IntKind.i64.wrap (((n:Int)+7).tdiv 8)=(((n+7)/8:Nat):Int):=by rw[IntWalk.i64_quo _ _ ⟨by omega,by omega,by omega⟩];omega
 go_enter Tryz.func247,Tryz.ntmps247;go_wp2;go_ret;refine⟨?_,rfl⟩;unfold q4v;simp
theorem v3o (n:Nat) (hn:n<18446744073709551616) (w:World):
  Calls Tryz.prog 221 #[.int .u64 (n:Int)] w fun e w'=>e= .returned (putV n)/\Below w.heap.size w w':=by
 have HN:=hid hn;clear hn;go_enter Tryz.func221,Tryz.ntmps221;go_wp2_with fail;generalize hW:World.alloc w _=W0;have M:W0.heap.size=w.heap.size+1:=by rw[<- hW];simp
 have I:Below w.heap.size w W0:=by rw[<- hW];exact(ba (Below.refl _ _) _)
 have h2:Blk W0 w.heap.size 170 (putC n 0):=by rw[<- hW];exact(Blk.new w 170 (putC n 0))
 have H0:Hid (Blk W0 w.heap.size 170 (putC n 0)/\Below w.heap.size w W0):=⟨h2,I⟩;clear hW M I h2;go_loopw [0,3,4] (fun v s3 i wr=> ∃k:Nat,k<=8/\i= .int .i64 k/\v= .int .u64 ((n/256^k:Nat):Int)/\Hid (Blk wr w.heap.size 170 (putC n k)/\Below w.heap.size w wr)) (fun _ _ i _=>(8- (intOf i).toNat));case atStart=>exact⟨0,by omega,rfl,by simp,H0⟩
 case round=>
  obtain⟨k,hk,rfl,rfl,hI⟩:=hrel;by_cases hlt:k<8
  ·have i1:(0:Int)<=(k:Int):=by omega
   have i2:(k:Int)<8:=by omega
   have O:n/256^k<=n:=Cy _ _;have e2:Hid (n/256^ (k+1)=n/256^k/256):=by show _=_;rw[Cr,CN]
   have eb:Hid (q0g n k=((n/256^k:Nat):Int)% 256):=by show _=_;unfold q0g;omega
   obtain⟨V,hV⟩:∃V,V=n/256^k:=⟨_,rfl⟩;rw[<- hV] at e2 eb O ⊢;have v0:(0:Int)<=(V:Int):=by omega
   have v1:(V:Int)<18446744073709551616:=by have:=HN.out;omega
   obtain⟨oc,yo⟩:∃oc,wr.cell? ⟨w.heap.size,k,none⟩=some oc:=by rw[hI.out.1.cell,putC];exact⟨_,by rw[Az,AM,BM hlt];rfl⟩
   have yf:=hI.out.1.frozen k;have u8:IntKind.u8.wrap (V:Int)=(V:Int)% 256:=by rw[IntKind.wrap_u8]
   have us:IntKind.u64.wrap ((V:Int)/256)=(V:Int)/256:=by rw[IntKind.wrap_u64];omega
   have L:Hid (Blk (wr.setCell ⟨w.heap.size,k,none⟩ (.int .u8 ((V:Int)% 256))) w.heap.size 170 (putC n (k+1))/\Below w.heap.size w (wr.setCell ⟨w.heap.size,k,none⟩ (.int .u8 ((V:Int)% 256)))):=by refine⟨?_,hI.out.2.setCell (by show w.heap.size<=w.heap.size;omega) _⟩;rw[<- z8y n k hlt,eb.out];exact hI.out.1.set_ k _
   clear hV hI;go_wp2;go_roundw;case rel=>exact⟨k+1,by omega,by go_num,by rw[e2.out];try(congr 1),L⟩
   case measure=>simp[intOf];omega
  ·obtain rfl:k=8:=by omega
   have c0:wr.cell? ⟨w.heap.size,0,none⟩=some (.int .u8 (q0g n 0)):=hI.out.1.cell 0;have c1:wr.cell? ⟨w.heap.size,1,none⟩=some (.int .u8 (q0g n 1)):=hI.out.1.cell 1;have c2:wr.cell? ⟨w.heap.size,2,none⟩=some (.int .u8 (q0g n 2)):=hI.out.1.cell 2;have c3:wr.cell? ⟨w.heap.size,3,none⟩=some (.int .u8 (q0g n 3)):=hI.out.1.cell 3;have c4:wr.cell? ⟨w.heap.size,4,none⟩=some (.int .u8 (q0g n 4)):=hI.out.1.cell 4;have c5:wr.cell? ⟨w.heap.size,5,none⟩=some (.int .u8 (q0g n 5)):=hI.out.1.cell 5;have c6:wr.cell? ⟨w.heap.size,6,none⟩=some (.int .u8 (q0g n 6)):=hI.out.1.cell 6;have c7:wr.cell? ⟨w.heap.size,7,none⟩=some (.int .u8 (q0g n 7)):=hI.out.1.cell 7;have f0:=hI.out.1.frozen 0;have f1:=hI.out.1.frozen 1;have f2:=hI.out.1.frozen 2;have f3:=hI.out.1.frozen 3;have f4:=hI.out.1.frozen 4;have f5:=hI.out.1.frozen 5;have f6:=hI.out.1.frozen 6;have f7:=hI.out.1.frozen 7;go_wp2;refine bodyPost_ret (v:=putV n) (by simp[results,Tryz.results221,go_sem,putV, *]) rfl ?_;refine⟨rfl,?_⟩;iterate 8 refine Below.setCell ?_ (by exact AG w.heap.size) _
   exact hI.out.2
section
attribute [local go_sem ↓ high] q0v
attribute [local go_sem] Oper.semAt_some q0h
def q0i (ns:List Nat):List Int:=ns.flatMap fun n=>(List.range 8).map (q0g n)
theorem q2f (ns:List Nat):(q0i ns).length=8*ns.length:=by
 induction ns with
 | nil=>rfl
 | cons n ns ih=>unfold q0i at ih ⊢;rw[Ap,AI,ih];simp;omega
theorem q8e (ns:List Nat) (n:Nat):q0i (ns++[n])=q0i ns++(List.range 8).map (q0g n):=by unfold q0i;rw[Al];simp
theorem v2a:(Tryz.prog.info? 5).map (fun i=>(i.zero,i.size,i.bytes))=some (some (.int .u8 0),1,1):=by kernel_rfl
def q2u (xs:List Int):List Value:=xs.map (Value.int .u8)
theorem z2m (N:Nat) (W:World) (x:Value) (m:Nat) (l:List Int) (n:Nat) (hn:l.length=n) (news:List Int) (v:Value) (hx:q1b W x m (q2u news)) (hl:news.length=m) (hm:n+m<=2000000) (hN:N<=W.heap.size) (hr:W.ownsRow N 5 1 v n (q2u l)):
  ∃v' w',q0n Tryz.prog #[36,36] 36 #[v,x] W= .ok v' w'/\w'.ownsRow N 5 1 v' (n+m) (q2u (l++news))/\W.grownBy w' v.ownBlock/\(v'.ownBlock=v.ownBlock\/v'.ownBlock=some W.heap.size):=by
 obtain⟨i0,O,I,M,L⟩:=info_parts v2a;obtain⟨v',w',h⟩:=q2b (P:=Tryz.prog) W N 36 36 5 i0 (.int .u8 0) 1 1 Tryz.underlying36 O I M L rfl (by decide) v n _ hr x m _ hx (by simp[q2u,hl]) (fun u hu=>by unfold q2u at hu;obtain⟨y,_,rfl⟩:=Aj.1 hu;rfl) (by unfold maxLen;omega) (by omega) hN;exact⟨v',w',h.run,by have:=h.own;rwa[q2u,q2u,<- Ah] at this,h.grown,h.ob⟩
structure BytI (ns:List Nat) (w:World) (k:Nat) (v:Value) (W:World):Prop where
 row:W.ownsRow w.heap.size 5 1 v (8*k) (q2u (q0i (ns.take k)))
 new:∀b,v.ownBlock=some b->w.heap.size<=b
 bel:Below w.heap.size w W
 zero:k=0->v= .slice none 0 0
theorem x2t (ns:List Nat) (h1:∀x∈ns,x<18446744073709551616) (S:ns.length<=1000) (v:Value) (w:World) (h:q1w .u64 w v (ns.map fun x:Nat=>(x:Int))):
  Calls Tryz.prog 185 #[v] w fun e W'=> ∃u,e= .returned u/\W'.ownsRow w.heap.size 5 1 u (8*ns.length) (q2u (q0i ns))/\Below w.heap.size w W'/\(ns.length=0->u= .slice none 0 0):=by
 obtain⟨ao,cap,rfl,L⟩:=h;rw[AO];obtain⟨q,hq⟩:∃q,q=ns.length:=⟨_,rfl⟩;rw[<- hq] at S ⊢;have HQ:=hid hq;have HC:=hid L;have ha:=hid h1;have h9:Hid (BytI ns w 0 (.slice none 0 0) w):=⟨World.ownsRow_nil _ _ _ _,fun b hb=>by simp[Value.ownBlock] at hb,Below.refl _ _,fun _=>rfl⟩;clear hq L h1;go_enter Tryz.func185,Tryz.ntmps185;go_wp2;go_loopw [3,5,6,9] (fun rv s5 s6 iv wr=> ∃k:Nat,k<=q/\iv= .int .i64 k/\(∃m ra rc,rv= .slice ra m rc/\m=8*k)/\Hid (BytI ns w k rv wr)) (fun _ _ _ iv _=>(q- (intOf iv).toNat));case atStart=>exact⟨0,by omega,rfl,⟨0,none,0,rfl,rfl⟩,h9⟩
 case round=>
  obtain⟨k,hk,rfl,⟨m,ra,rc,rfl,hm⟩,hI⟩:=hrel;by_cases hlt:k<q
  ·have i1:(k:Int)< (q:Int):=by omega
   have i0:(0:Int)<=(k:Int):=by omega
   obtain⟨x,hx⟩:∃x,ns[k]?=some x:=⟨_,AD (by rw[<- HQ.out];exact hlt)⟩;obtain⟨g,off,h7,h4,L⟩:=HC.out.resolve_left (fun e=>by have h:=congrArg List.length e;simp at h;rw[h] at hx;simp at hx);subst h7;have c1:wr.cell? ⟨g,off+k,none⟩=some (.int .u64 (x:Int)):=(hI.out.bel.cell (p:=⟨g,off+k,none⟩) h4).trans (L k _ (by rw[AM,hx];rfl));have WP:=hid (v3o x (ha.out x (AJ hx)) wr);have HX:=hid hx;have M:=hid hlt;clear hx L hlt hk h4;go_wp2_with fail;refine WP.out.mono ?_;rintro e w3 ⟨rfl,Y⟩;obtain⟨W5,O⟩:∃W5,W5=w3.alloc (.cells #[.int .u8 (q0g x 0),.int .u8 (q0g x 1),.int .u8 (q0g x 2),.int .u8 (q0g x 3),.int .u8 (q0g x 4),.int .u8 (q0g x 5),.int .u8 (q0g x 6),.int .u8 (q0g x 7)] 170):=⟨_,rfl⟩;have o5:Only [] wr W5:=by rw[O];exact(Only.of_below Y []).alloc _
   have z5:w.heap.size<=W5.heap.size:=by have:=o5.size;have:=hI.out.bel.size;omega
   obtain⟨v',w9,U,I,h3,h2⟩:=z2m w.heap.size W5 (.slice (some ⟨w3.heap.size,0,none⟩) 8 8) 8 (q0i (ns.take k)) m (by rw[q2f,AU,hm,<- HQ.out];have:=M.out;omega) ((List.range 8).map (q0g x)) (.slice ra m rc) (Or.inr ⟨w3.heap.size,0,8,rfl,fun j u hj=>by rw[O,((Blk.new w3 170 #[.int .u8 (q0g x 0),.int .u8 (q0g x 1),.int .u8 (q0g x 2),.int .u8 (q0g x 3),.int .u8 (q0g x 4),.int .u8 (q0g x 5),.int .u8 (q0g x 6),.int .u8 (q0g x 7)])).cell (0+j),AQ];simpa[q2u,List.range_succ] using hj⟩) (by simp) (by have:=M.out;omega) z5 (o5.own (by have:=hI.out.row;rw[<- hm] at this;exact this) (by simp));obtain⟨a9,d9,rfl⟩:=q0q I;have oW:Only ((Value.slice ra m rc).ownBlock.toList) wr w9:=(o5.mono (fun _ h=>by cases h)).trans (Only.of_grown h3 (fun k hk=>by simp[hk])) (fun k hk=>Or.inl hk)
   have h8:Hid (BytI ns w (k+1) (.slice a9 (m+8) d9) w9):=by
    refine⟨?_,fun b hb=> ?_,hI.out.bel.trans (oW.below (fun y hy=>hI.out.new y (by simpa using hy)) hI.out.bel.size),fun h0=>by omega⟩
    ·have e:ns.take (k+1)=ns.take k++[x]:=by rw[Ai,HX.out];rfl
     rw[e,q8e,show 8*(k+1)=m+8 by omega];exact I
    ·rcases h2 with h|h;·exact hI.out.new b (h▸hb)
     ·rw[h] at hb;injection hb with hb;omega
   have h5:m+8=8*(k+1):=by omega
   have h6:=hid h5;rw[O] at U;clear oW I h3 h2 o5 z5 Y h5 c1 WP O hm;unfold putV;go_wp2;go_roundw;case rel=>exact⟨k+1,M.out,by go_num,⟨m+8,a9,d9,rfl,h6.out⟩,h8⟩
   case measure=>simp[intOf];have:=M.out;omega
  ·obtain rfl:k=q:=by omega
   have i1: ¬(k:Int)< (k:Int):=by omega
   have HM:=hid hm;clear hlt hk hm;go_wp2;go_ret;have hr:=hI.out.row;rw[AY (by have:=HQ.out;omega)] at hr;exact⟨_,rfl,hr,hI.out.bel,hI.out.zero⟩
end
section
attribute [local go_sem ↓ high] q0v
attribute [local go_sem] Oper.semAt_some q0h
def put8 (x:Nat):Array Value:= #[.int .u8 (q0g x 0),.int .u8 (q0g x 1),.int .u8 (q0g x 2),.int .u8 (q0g x 3),.int .u8 (q0g x 4),.int .u8 (q0g x 5),.int .u8 (q0g x 6),.int .u8 (q0g x 7)]
theorem v5g (x:Nat) {j:Nat} (h:j<8):(put8 x)[j]?=some (.int .u8 (q0g x j)):=by rcases(by omega:j=0\/j=1\/j=2\/j=3\/j=4\/j=5\/j=6\/j=7) with rfl|rfl|rfl|rfl|rfl|rfl|rfl|rfl<;>rfl
structure BytJ (ns:List Nat) (x B:Nat) (w:World) (k j:Nat) (v:Value) (W:World):Prop where
 row:W.ownsRow w.heap.size 5 1 v (8*k+j) (q2u (q0i (ns.take k)++((List.range 8).map (q0g x)).take j))
 new:∀b,v.ownBlock=some b->w.heap.size<=b
 nb:∀b,v.ownBlock=some b->b≠B
 box:Blk W B 170 (put8 x)
 bel:Below w.heap.size w W
theorem x9n (ns:List Nat) (h9:∀x∈ns,x<18446744073709551616) (h4:ns.length<=1000) (v:Value) (w:World) (h:q1w .u64 w v (ns.map fun x:Nat=>(x:Int))):
  Calls Tryz.prog 214 #[v] w fun e W'=> ∃u,e= .returned u/\W'.ownsRow w.heap.size 5 1 u (8*ns.length) (q2u (q0i ns))/\Below w.heap.size w W'/\(ns.length=0->u= .slice none 0 0):=by
 obtain⟨ao,cap,rfl,O⟩:=h;rw[AO];obtain⟨q,hq⟩:∃q,q=ns.length:=⟨_,rfl⟩;rw[<- hq] at h4 ⊢;have HQ:=hid hq;have HC:=hid O;have hg:=hid h9;have hp:Hid (BytI ns w 0 (.slice none 0 0) w):=⟨World.ownsRow_nil _ _ _ _,fun b hb=>by simp[Value.ownBlock] at hb,Below.refl _ _,fun _=>rfl⟩;clear hq O h9;go_enter Tryz.func214,Tryz.ntmps214;go_wp2;go_loopw [3,4,5,6] (fun rv iv s5 s6 wr=> ∃k:Nat,k<=q/\iv= .int .i64 k/\(∃m ra rc,rv= .slice ra m rc/\Hid (m=8*k))/\Hid (BytI ns w k rv wr)) (fun _ iv _ _ _=>(q- (intOf iv).toNat));case atStart=>exact⟨0,by omega,rfl,⟨0,none,0,rfl,rfl⟩,hp⟩
 case round=>
  obtain⟨k,hk,rfl,⟨m,ra,rc,rfl,hm⟩,hI⟩:=hrel;by_cases hlt:k<q
  ·have i1:(k:Int)< (q:Int):=by omega
   have i0:(0:Int)<=(k:Int):=by omega
   obtain⟨x,hx⟩:∃x,ns[k]?=some x:=⟨_,AD (by rw[<- HQ.out];exact hlt)⟩;obtain⟨g,off,hh,ha,O⟩:=HC.out.resolve_left (fun e=>by have h:=congrArg List.length e;simp at h;rw[h] at hx;simp at hx);subst hh;have c1:wr.cell? ⟨g,off+k,none⟩=some (.int .u64 (x:Int)):=(hI.out.bel.cell (p:=⟨g,off+k,none⟩) ha).trans (O k _ (by rw[AM,hx];rfl));have WP:=hid (y0b x (hg.out x (AJ hx)) wr);have HX:=hid hx;have Y:=hid hlt;clear hx O hlt hk ha;go_wp2_with fail;refine WP.out.mono ?_;rintro e w3 ⟨rfl,h5⟩;obtain⟨W5,h1⟩:∃W5,W5=w3.alloc (.cells (put8 x) 170):=⟨_,rfl⟩;have o5:Only [] wr W5:=by rw[h1];exact(Only.of_below h5 []).alloc _
   have he:Hid (BytJ ns x w3.heap.size w k 0 (.slice ra m rc) W5):=by have h3:=h5.size;refine⟨by have:=o5.own hI.out.row (by simp);simpa using this,hI.out.new,fun b hb=> ?_,by rw[h1];exact Blk.new _ _ _,hI.out.bel.trans (o5.below (by simp) hI.out.bel.size)⟩;obtain⟨cs,t,fr,hc⟩:=q5e hI.out.row b hb;have:=(AA.1 hc).1;omega
   have hf:=hid h1;clear h1 o5 h5 WP c1;unfold putV;go_upto_region 6 with fail;rw[show w3.alloc (.cells #[.int .u8 (q0g x 0),.int .u8 (q0g x 1),.int .u8 (q0g x 2),.int .u8 (q0g x 3),.int .u8 (q0g x 4),.int .u8 (q0g x 5),.int .u8 (q0g x 6),.int .u8 (q0g x 7)] 170)=W5 from hf.out.symm];go_wp2;go_loopw [3,6] (fun rv jv wj=> ∃j:Nat,j<=8/\jv= .int .i64 j/\(∃m ra rc,rv= .slice ra m rc/\Hid (m=8*k+j))/\Hid (BytJ ns x w3.heap.size w k j rv wj)) (fun _ jv _=>(8- (intOf jv).toNat));case atStart=>exact⟨0,by omega,rfl,⟨m,ra,rc,rfl,by have:=hm.out;show _=_;omega⟩,he⟩
   case round=>
    obtain⟨j,hj,rfl,⟨m2,S,U,rfl,L⟩,hJ⟩:=hrel;by_cases hj8:j<8
    ·have e1:(j:Int)<8:=by omega
     have e0:(0:Int)<=(j:Int):=by omega
     have c1:wr.cell? ⟨w3.heap.size,j,none⟩=some (.int .u8 (q0g x j)):=(hJ.out.box.cell j).trans (v5g x hj8);obtain⟨W6,M⟩:∃W6,W6=wr.alloc (.cells #[.int .u8 (q0g x j)] 5):=⟨_,rfl⟩;have o6:Only [] wr W6:=by rw[M];exact(Only.refl [] wr).alloc _
     have z6:w.heap.size<=W6.heap.size:=by have:=o6.size;have:=hJ.out.bel.size;omega
     obtain⟨v',w9,h6,I,h8,h2⟩:=z2m w.heap.size W6 (.slice (some ⟨wr.heap.size,0,none⟩) 1 1) 1 (q0i (ns.take k)++((List.range 8).map (q0g x)).take j) m2 (by
      rw[AI,q2f,AU,AU,L.out];have:=Y.out;have:=HQ.out;simp;omega) [q0g x j] (.slice S m2 U) (Or.inr ⟨wr.heap.size,0,1,rfl,fun i u hi=>by
      rw[M,(Blk.new wr 5 #[.int .u8 (q0g x j)]).cell (0+i),AQ];simpa[q2u] using hi⟩) rfl (by have:=Y.out;have:=L.out;omega) z6 (o6.own (by have:=hJ.out.row;rw[<- L.out] at this;exact this) (by simp))
     obtain⟨a9,d9,rfl⟩:=q0q I;have oW:Only ((Value.slice S m2 U).ownBlock.toList) wr w9:=(o6.mono (fun _ h=>by cases h)).trans (Only.of_grown h8 (fun k hk=>by simp[hk])) (fun k hk=>Or.inl hk)
     have hl:Hid (BytJ ns x w3.heap.size w k (j+1) (.slice a9 (m2+1) d9) w9):=by
      have hs:W6.heap.size=wr.heap.size+1:=by rw[M];exact World.size_alloc _ _
      have hbl:=hJ.out.box.lt;refine⟨?_,fun b hb=> ?_,fun b hb=> ?_,oW.blk hJ.out.box (fun hm=>hJ.out.nb _ (by simpa using hm) rfl),hJ.out.bel.trans (oW.below (fun y hy=>hJ.out.new y (by simpa using hy)) hJ.out.bel.size)⟩
      ·have e:((List.range 8).map (q0g x)).take (j+1)=((List.range 8).map (q0g x)).take j++[q0g x j]:=by
        rw[Ai,AM,BM hj8];rfl
       rw[e,<- BB,show 8*k+(j+1)=m2+1 by have:=L.out;omega];exact I
      ·rcases h2 with h|h;·exact hJ.out.new b (h▸hb)
       ·rw[h] at hb;injection hb with hb;omega
      ·rcases h2 with h|h;·exact hJ.out.nb b (h▸hb)
       ·rw[h] at hb;injection hb with hb;omega
     have HM:=hid (show m2+1=8*k+(j+1) by have:=L.out;omega);have h7:=hid hj8;rw[M] at h6;clear oW I h8 h2 o6 z6 M hj8 hj;go_wp2;go_roundw;case rel=>exact⟨j+1,h7.out,by go_num,⟨m2+1,a9,d9,rfl,HM⟩,hl⟩
     case measure=>simp[intOf];have:=h7.out;omega
    ·obtain rfl:j=8:=by omega
     have e1: ¬((8:Nat):Int)<8:=by omega
     have ho:Hid (BytI ns w (k+1) (.slice S m2 U) wr):=by
      refine⟨?_,hJ.out.new,hJ.out.bel,fun h0=>by omega⟩;have e:ns.take (k+1)=ns.take k++[x]:=by rw[Ai,HX.out];rfl
      rw[e,q8e,show 8*(k+1)=8*k+8 by omega];have e8:((List.range 8).map (q0g x)).take 8=(List.range 8).map (q0g x):=AY (by simp);have:=hJ.out.row
      rwa[e8] at this
     have HM:=hid (show m2=8*(k+1) by have:=L.out;omega);clear hj8 hj;go_wp2;go_roundw;case rel=>exact⟨k+1,Y.out,by go_num,⟨m2,S,U,rfl,HM⟩,ho⟩
     case measure=>simp[intOf];have:=Y.out;omega
  ·obtain rfl:k=q:=by omega
   have i1: ¬(k:Int)< (k:Int):=by omega
   clear hlt hk;go_wp2;go_ret;have hr:=hI.out.row;rw[AY (by have:=HQ.out;omega)] at hr;refine⟨_,rfl,hr,hI.out.bel,hI.out.zero⟩
end
theorem v3r {N c:Int} (hN:0<=N) (L:N<72057594037927936) (hc:0<=c) (M:c<256):bits BinOp.or IntKind.u64 (N*256) c=c+256*N:=by
 obtain⟨a,rfl⟩:=Bk hN;obtain⟨c,rfl⟩:=Bk hc;have hp:((a:Int)*256)=((a*2^8:Nat):Int):=by simp
 have I:c<2^8:=by omega
 rw[hp,bits_or_u64_nat _ c (by omega) (by omega)];rw[<- DR,<- Cw I,DR];rw[Nat.mul_comm a];omega
theorem x2f {bs:List Int} {k:Nat} {c:Int} (h:bs[k]?=some c):leW (bs.drop k)=c+256*leW (bs.drop (k+1)):=by obtain⟨hl,rfl⟩:=AE.1 h;rw[Au hl,leW]
theorem z8t {bs:List Int} (h:∀x∈bs,0<=x/\x<256) (h7:bs.length<=7):0<=leW bs/\leW bs<72057594037927936:=by
 have h1:=q1h h;have h2:(2:Int)^ (8*bs.length)<=72057594037927936:=by have:(2:Nat)^ (8*bs.length)<=2^56:=As (by omega) (by omega);have e:((2^ (8*bs.length):Nat):Int)=(2:Int)^ (8*bs.length):=Int.natCast_pow 2 _;rw[<- e];omega
 omega
theorem v5w (bs:List Int) (p:Option Addr) (cap:Nat) (h8:bs.length<=8) (w:World) (h:q1m w p cap bs):
  Calls Tryz.prog 168 #[.slice p bs.length cap] w fun e w'=>e= .returned (.int .u64 (leW bs))/\w=w':=by
 obtain⟨q,hq⟩:∃q,q=bs.length:=⟨_,rfl⟩;rw[<- hq] at h8 ⊢;have HQ:=hid hq;have H:=hid h;have iq:IntKind.i64.wrap ((q:Int)-1)=(q:Int)-1:=IntWalk.i64_in _ (by omega);clear hq h;go_enter Tryz.func168,Tryz.ntmps168;go_wp2;go_loopw [2,3] (fun nv iv wr=> ∃k:Nat,k<=q/\nv= .int .u64 (leW (bs.drop k))/\iv= .int .i64 ((k:Int)-1)/\Hid (wr=w)) (fun _ iv _=>(intOf iv+1).toNat);case atStart=>exact⟨q,by omega,by rw[BO (by rw[HQ.out];exact AG _)];rfl,(by first|rfl|go_num),rfl⟩
 case round=>
  obtain⟨k,hk,rfl,rfl,S⟩:=hrel;obtain rfl:=S.out;by_cases hk0:0<k
  ·obtain⟨j,rfl⟩:∃j,k=j+1:=⟨k-1,by omega⟩;have I:j<q:=by omega
   have i0:(0:Int)<=(j:Int):=by omega
   have i1:(j:Int)< (q:Int):=by omega
   obtain⟨c,hc⟩:∃c,bs[j]?=some c:=⟨_,AD (by rw[<- HQ.out];exact I)⟩;obtain⟨b,off,rfl,hbl,M⟩:=H.out.2.2 (by rw[<- HQ.out];omega);have c1:wr.cell? ⟨b,off+j,none⟩=some (.int .u8 c):=M j c hc;have O:=H.out.2.1 c (AJ hc);have hN:=z8t (bs:=bs.drop (j+1)) (fun x hx=>H.out.2.1 x (Ak hx)) (by rw[At,<- HQ.out];omega);have HL:=hid (x2f hc);obtain⟨N,L⟩:∃N,N=leW (bs.drop (j+1)):=⟨_,rfl⟩;rw[<- L] at hN HL ⊢;have ho:=v3r hN.1 hN.2 O.1 O.2;have uc:IntKind.u64.wrap c=c:=IntWalk.u64_in _ (by omega);have ij:IntKind.i64.wrap ((j:Int)-1)=(j:Int)-1:=IntWalk.i64_in _ (by omega);have HJ:=hid I;clear hc M hbl L I hk hk0;go_wp2;go_roundw;case rel=>exact⟨j,by have:=HJ.out;omega,by rw[HL.out],by first|rfl|go_num,(by first|exact hid rfl|exact hid trivial)⟩
   case measure=>(simp[intOf];try omega)
  ·obtain rfl:k=0:=by omega
   have HD:=hid (show bs.drop 0=bs from rfl);clear hk0 hk;go_wp2;go_ret;exact⟨rfl,rfl⟩
theorem q1m.cut {w:World} {b off cap:Nat} {bs:List Int} (h:q1m w (some ⟨b,off,none⟩) cap bs) (a m:Nat) (hm:a+m<=bs.length):q1m w (some ⟨b,off+a,none⟩) m ((bs.drop a).take m):=by
 refine⟨by rw[AU];omega,fun x hx=>h.2.1 x (Ak (Ab hx)),fun h0=> ?_⟩;rw[AU,At] at h0;obtain⟨b',I,e,hlt,hc⟩:=h.2.2 (by omega);injection e with e;injection e with e1 e2;subst e1;subst e2;refine⟨b,off+a,rfl,hlt,fun i x hi=> ?_⟩;rw[AV] at hi;split at hi
 ·rw[Ar] at hi;have:=hc (a+i) x hi
  rwa[<- Ce] at this
 ·cases hi
def strB (s:ByteArray):List Int:=s.data.toList.map fun b=>(b.toNat:Int)
theorem q2v (s:ByteArray):(strB s).length=s.size:=by unfold strB;rw[AO,BV];rfl
theorem z8o (s:ByteArray):∀x∈strB s,0<=x/\x<256:=by intro x hx;obtain⟨b,_,rfl⟩:=Aj.1 hx;have:=b.toNat_lt;omega
theorem v2t (s:ByteArray) (h8:s.size<=8) (w:World):
  Calls Tryz.prog 278 #[.string s] w fun e w'=>e= .returned (.int .u64 (leW (strB s)))/\w=w':=by
 have L:=q2v s;have HQ:=hid L;have iq:IntKind.i64.wrap ((s.size:Int)-1)=(s.size:Int)-1:=IntWalk.i64_in _ (by omega);clear L;go_enter Tryz.func278,Tryz.ntmps278;go_wp2;go_loopw [2,3] (fun nv iv wr=> ∃k:Nat,k<=s.size/\nv= .int .u64 (leW ((strB s).drop k))/\iv= .int .i64 ((k:Int)-1)/\Hid (wr=w)) (fun _ iv _=>(intOf iv+1).toNat);case atStart=>exact⟨s.size,by omega,by rw[BO (by rw[HQ.out];exact AG _)];rfl,(by first|rfl|go_num),rfl⟩
 case round=>
  obtain⟨k,hk,rfl,rfl,U⟩:=hrel;obtain rfl:=U.out;by_cases hk0:0<k
  ·obtain⟨j,rfl⟩:∃j,k=j+1:=⟨k-1,by omega⟩;have I:j<s.size:=by omega
   have i0:(0:Int)<=(j:Int):=by omega
   have i1:(j:Int)< (s.size:Int):=by omega
   obtain⟨c,hc⟩:∃c,(strB s)[j]?=some c:=⟨_,AD (by rw[HQ.out];exact I)⟩;have Y:((s[j]'I).toNat:Int)=c:=by unfold strB at hc;rw[AM,Ad] at hc;have S:j<s.data.size:=I;rw[AS S] at hc;exact Aw hc
   have M:=z8o s c (AJ hc);have hN:=z8t (bs:=(strB s).drop (j+1)) (fun x hx=>z8o s x (Ak hx)) (by rw[At,HQ.out];omega);have HL:=hid (x2f hc);obtain⟨N,O⟩:∃N,N=leW ((strB s).drop (j+1)):=⟨_,rfl⟩;rw[<- O] at hN HL ⊢;have ho:=v3r hN.1 hN.2 M.1 M.2;have uc:IntKind.u64.wrap c=c:=IntWalk.u64_in _ (by omega);have ij:IntKind.i64.wrap ((j:Int)-1)=(j:Int)-1:=IntWalk.i64_in _ (by omega);have HJ:=hid I;clear hc O hk hk0;go_wp2;go_roundw;case rel=>exact⟨j,by have:=HJ.out;omega,by rw[HL.out],by first|rfl|go_num,(by first|exact hid rfl|exact hid trivial)⟩
   case measure=>(simp[intOf];try omega)
  ·obtain rfl:k=0:=by omega
   clear hk0 hk;go_wp2;go_ret;exact⟨rfl,rfl⟩
section
attribute [local go_sem ↓ high] q0v
attribute [local go_sem] Oper.semAt_some q0h
theorem z0i (s:ByteArray) (a b:Nat):strB (s.extract a b)=((strB s).drop a).take (b-a):=by unfold strB;rw[ByteArray.data_extract,Array.toList_extract,List.extract_eq_take_drop,List.map_take,List.map_drop]
def q5m (bs:List Int) (k:Nat):List Int:=(bs.length:Int)::(List.range k).map fun i=>leW ((bs.drop (8*i)).take 8)
def z6k (bs:List Int) (k:Nat):List Value:=(q5m bs k).map (Value.int .u64)
theorem x3k (bs:List Int) (k:Nat):z6k bs (k+1)=z6k bs k++[.int .u64 (leW ((bs.drop (8*k)).take 8))]:=by unfold z6k q5m;rw[Ay,Ah,<- Ct,Ah];rfl
theorem x6c (bs:List Int) (k:Nat):(z6k bs k).length=k+1:=by unfold z6k q5m;simp
theorem v4n:(Tryz.prog.info? 46).map (fun i=>(i.zero,i.size,i.bytes))=some (some (.int .u64 0),1,8):=by kernel_rfl
structure PckI (bs:List Int) (w:World) (k:Nat) (v:Value) (W:World):Prop where
 row:W.ownsRow w.heap.size 46 1 v (k+1) (z6k bs k)
 new:∀b,v.ownBlock=some b->w.heap.size<=b
 bel:Below w.heap.size w W
theorem z9x (s:ByteArray) (h8:s.size<=120) (w:World):
  Calls Tryz.prog 276 #[.string s] w fun e w'=> ∃v,e= .returned v/\w'.ownsRow w.heap.size 46 1 v ((s.size+7)/8+1) (z6k (strB s) ((s.size+7)/8))/\Below w.heap.size w w':=by
 have iq:IntKind.u64.wrap (s.size:Int)=(s.size:Int):=IntWalk.u64_in _ (by omega)
 have h9:Hid (PckI (strB s) w 0 (.slice (some ⟨w.heap.size,0,none⟩) 1 1) (w.alloc (.cells #[.int .u64 (s.size:Int)] 46))):=by
  refine⟨⟨by rw[x6c],Or.inr ⟨w.heap.size,1,#[.int .u64 (s.size:Int)],rfl,AG _,Blk.new w _ _,by omega,by unfold maxLen;omega,rfl,?_⟩⟩,fun b hb=> ?_,ba (Below.refl _ _) _⟩;·unfold z6k q5m;rw[q2v];rfl
  ·injection hb with hb;exact Nat.le_of_eq hb
 go_enter Tryz.func276,Tryz.ntmps276;go_upto_region 2 with fail;go_loopw [0,3,4] (fun sv rv s4 wr=> ∃k u,sv= .string u/\Hid (strB u=(strB s).drop (8*k)/\k<=(s.size+7)/8)/\(∃m ra rc,rv= .slice ra m rc/\Hid (m=k+1))/\Hid (PckI (strB s) w k rv wr)) (fun sv _ _ _=>match sv with | .string u=>u.size|_=>0);case atStart=>exact⟨0,s,rfl,⟨rfl,Af _⟩,⟨1,_,1,rfl,rfl⟩,h9⟩
 case round=>
  obtain⟨k,u,rfl,hu,⟨m,ra,rc,rfl,hm⟩,hI⟩:=hrel;have S:u.size=s.size-8*k:=by rw[<- q2v,hu.out.1,At,q2v]
  by_cases h0:0<u.size
  ·have i0:(0:Int)< (u.size:Int):=by omega
   obtain⟨c,hc⟩:∃c,c=(min (u.size:Int) 8).toNat:=⟨_,rfl⟩;have M:c=min u.size 8:=by omega
   have e1:strB (u.extract 0 c)=((strB s).drop (8*k)).take 8:=by
    rw[z0i,CW,Nat.sub_zero,M,<- hu.out.1];rcases Nat.le_total u.size 8 with h|h;·rw[DU h,AY (by rw[q2v];exact AG _),AY (by rw[q2v];exact h)]
    ·rw[DS h]
   have U:(u.extract 0 c).size<=8:=by rw[<- q2v,e1,AU];omega
   have TA:=hid (v2t (u.extract 0 c) U wr);rw[e1] at TA
   have e2:strB (u.extract c u.size)=(strB s).drop (8*(k+1)):=by
    rw[z0i,AY (by rw[At,q2v];omega),hu.out.1,DW,M];rcases Nat.le_total u.size 8 with h|h;·rw[DU h,BO (by rw[q2v];omega),BO (by rw[q2v];omega)]
    ·rw[DS h];congr 1
   have e3:(u.extract c u.size).size<u.size:=by rw[<- q2v,e2,At,q2v];omega
   obtain⟨W6,L⟩:∃W6,W6=wr.alloc (.cells #[.int .u64 (leW (((strB s).drop (8*k)).take 8))] 46):=⟨_,rfl⟩;have o6:Only [] wr W6:=by rw[L];exact(Only.refl [] wr).alloc _
   have z6:w.heap.size<=W6.heap.size:=by have:=o6.size;have:=hI.out.bel.size;omega
   obtain⟨ha,h6,h2,h5,h3⟩:=info_parts v4n;obtain⟨v',w9,hA⟩:=q2b (P:=Tryz.prog) W6 w.heap.size 22 22 46 ha (.int .u64 0) 1 8 Tryz.underlying22 h6 h2 h5 h3 rfl (by decide) (.slice ra m rc) m (z6k (strB s) k) (o6.own (by have:=hI.out.row;rw[<- hm.out] at this;exact this) (by simp)) (.slice (some ⟨wr.heap.size,0,none⟩) 1 1) 1 [.int .u64 (leW (((strB s).drop (8*k)).take 8))] (Or.inr ⟨wr.heap.size,0,1,rfl,fun i v hi=>by rw[L,(Blk.new wr 46 #[.int .u64 (leW (((strB s).drop (8*k)).take 8))]).cell (0+i),AQ];simpa using hi⟩) rfl (fun v hv=>by rw[AF.1 hv];rfl) (by unfold maxLen;have:=hm.out;have:=hu.out.2;omega) (by have:=hm.out;have:=hu.out.2;omega) z6;have O:=hA.run;have I:=hA.own;have h1:=hA.grown;have Y:=hA.ob;clear hA;obtain⟨a9,d9,rfl⟩:=q0q I;have oW:Only ((Value.slice ra m rc).ownBlock.toList) wr w9:=(o6.mono (fun _ h=>by cases h)).trans (Only.of_grown h1 (fun k hk=>by simp[hk])) (fun k hk=>Or.inl hk)
   have h7:Hid (PckI (strB s) w (k+1) (.slice a9 (m+1) d9) w9):=by
    refine⟨?_,fun b hb=> ?_,hI.out.bel.trans (oW.below (fun y hy=>hI.out.new y (by simpa using hy)) hI.out.bel.size)⟩;·rw[x3k,<- hm.out];exact I
    ·rcases Y with h|h;·exact hI.out.new b (h▸hb)
     ·rw[h] at hb;injection hb with hb;omega
   have HR:=hid (⟨e2,by omega⟩:strB (u.extract c u.size)=(strB s).drop (8*(k+1))/\k+1<=(s.size+7)/8);have HM:=hid (show m+1=k+1+1 by have:=hm.out;omega);have h4:=hid e3;rw[L] at O;rw[hc] at TA HR h4;clear e1 e2 e3 U oW I h1 Y o6 z6 L M hc S h0 h6 h2 h5 h3;go_wp2_with fail;refine TA.out.mono ?_;rintro e w1 ⟨rfl,rfl⟩;go_wp2;go_roundw;case rel=>exact⟨k+1,_,rfl,HR,⟨m+1,a9,d9,rfl,HM⟩,h7⟩
   case measure=>exact h4.out
  ·have i0: ¬(0:Int)< (u.size:Int):=by omega
   have HK:=hid (show k=(s.size+7)/8 by have:=hu.out.2;omega);clear h0 S;go_wp2;go_ret;have hr:=hI.out.row;rw[HK.out,<- HK.out] at hr;exact⟨_,rfl,by rw[<- HK.out];rw[<- hm.out] at hr ⊢;exact hr,hI.out.bel⟩
end
theorem x0t (u v:Value) (xs ys:List Int) (w:World) (hu:q1w .u64 w u xs) (hv:q1w .u64 w v ys) (hl:xs.length<=1000000000) (hk:ys.length<=1000000000):
  Calls Tryz.prog 275 #[u,v] w fun e w'=>e= .returned (.bool (decide (xs=ys)))/\Below w.heap.size w w':=by
 obtain⟨uo,h4,rfl,h3⟩:=hu;obtain⟨vo,h5,rfl,U⟩:=hv;obtain⟨n,hn⟩:∃n,n=xs.length:=⟨_,rfl⟩;obtain⟨m,hm⟩:∃m,m=ys.length:=⟨_,rfl⟩;rw[<- hn,<- hm];have HN:=hid hn;have HM:=hid hm;have HU:=hid h3;have HV:=hid U;have n9:n<=1000000000:=by omega
 have m9:m<=1000000000:=by omega
 clear h3 U hl hk hn hm;by_cases I:n=m
 ·have e0:((n:Int) !=(m:Int))=false:=by simp[I]
  have Y:=hid I;clear I;go_enter Tryz.func275,Tryz.ntmps275;go_wp2;go_loopw [5,13] (fun s5 vi wr=> ∃i:Nat,vi= .int .i64 (i:Int)/\i<=n/\Hid (Below w.heap.size w wr)/\Hid (xs.take i=ys.take i)) (fun _ vi _=>n- (intOf vi).toNat);case atStart=>exact⟨0,rfl,Af _,Below.refl _ _,(by simp:xs.take 0=ys.take 0)⟩
  case round=>
   obtain⟨i,rfl,hi,hB,hT⟩:=hrel;have i0:(0:Int)<=(i:Int):=by omega
   by_cases hlt:i<n
   ·have I:=Y.out;have O:i<m:=by omega
    obtain⟨x,hx⟩:∃x,xs[i]?=some x:=⟨_,AD (by rw[<- HN.out];exact hlt)⟩;obtain⟨y,hy⟩:∃y,ys[i]?=some y:=⟨_,AD (by rw[<- HM.out];exact O)⟩
    obtain⟨b,off,rfl,hbl,hc⟩:∃b off,uo=some ⟨b,off,none⟩/\b<w.heap.size/\ ∀i x,xs[i]?=some x->w.cell? ⟨b,off+i,none⟩=some (.int .u64 x):=by
     rcases HU.out with h0|h0;·exfalso;rw[h0] at hx;simp at hx
     ·exact h0
    obtain⟨b',M,rfl,L,h2⟩:∃b off,vo=some ⟨b,off,none⟩/\b<w.heap.size/\ ∀i x,ys[i]?=some x->w.cell? ⟨b,off+i,none⟩=some (.int .u64 x):=by
     rcases HV.out with h0|h0;·exfalso;rw[h0] at hy;simp at hy
     ·exact h0
    have y1:wr.cell? ⟨b,off+i,none⟩=some (.int .u64 x):=(hB.out.cell (p:=⟨b,off+i,none⟩) hbl).trans (hc i x hx);have y2:wr.cell? ⟨b',M+i,none⟩=some (.int .u64 y):=(hB.out.cell (p:=⟨b',M+i,none⟩) L).trans (h2 i y hy);have i1:(i:Int)< (n:Int):=by omega
    have i2:(i:Int)< (m:Int):=by omega
    have HX:=hid hx;have HY:=hid hy;clear hc hbl h2 L hx hy I O;by_cases he:x=y
    ·have e1:(x !=y)=false:=by simp[he]
     have h7:Hid (xs.take (i+1)=ys.take (i+1)):=by show xs.take (i+1)=ys.take (i+1);rw[Ai,Ai,hT.out,HX.out,HY.out,he]
     have S:=hid (hB.out.drew);clear he;go_wp2;go_region;all_goals go_wp2
     go_roundw;case rel=>exact⟨i+1,by go_num,hlt,S,h7⟩
     case measure=>simp[intOf];omega
    ·have e1:(x !=y)=true:=by simp[he]
     have hd:Hid (decide (xs=ys)=false):=AK (fun e=>he (by have h1:=HX.out;rw[e,HY.out] at h1;injection h1 with h1;exact h1.symm));have S:=hid (hB.out.drew);clear he;go_wp2;go_region;all_goals go_wp2
     go_ret;exact⟨by rw[hd.out];rfl,S.out⟩
   ·have i1: ¬(i:Int)< (n:Int):=by omega
    have h6:i=n:=by omega
    have hd:Hid (decide (xs=ys)=true):=by have:=hT.out;have I:=Y.out;have hn:=HN.out;have hm:=HM.out;rw[AY (by omega),AY (by omega)] at this;exact AT this
    clear hi hlt h6;go_wp2;go_ret;exact⟨by rw[hd.out];rfl,hB.out⟩
 ·have e0:((n:Int) !=(m:Int))=true:=by simp;omega
  have hd:Hid (decide (xs=ys)=false):=AK (fun e=>I (by rw[HN.out,HM.out,e]));clear I;go_enter Tryz.func275,Tryz.ntmps275;go_wp2;go_ret;exact⟨by rw[hd.out];rfl,Below.refl _ _⟩
theorem z3i (n:Int) (w:World):Calls Tryz.prog 88 #[.int .i64 n] w fun e w'=>e= .returned (.bool (decide (n=0)))/\w=w':=by
 by_cases h:n=0
 ·have e1:(n==0)=true:=by simpa using h
  have H:=hid h;clear h;go_enter Tryz.func88,Tryz.ntmps88;go_wp2;go_ret;exact⟨by rw[AT H.out];rfl,rfl⟩
 ·have e1:(n==0)=false:=by simpa using h
  have H:=hid h;clear h;go_enter Tryz.func88,Tryz.ntmps88;go_wp2;go_ret;exact⟨by rw[AK H.out];rfl,rfl⟩
theorem q4t (w:World):Calls Tryz.prog 84 #[.bool true] w fun e w'=>e= .returned (.tuple #[])/\w=w':=by go_enter Tryz.func84,Tryz.ntmps84;go_wp2;refine bodyPost_end (v:= .tuple #[]) (by simp[results,Tryz.results84,go_sem]) rfl ?_;exact⟨rfl,rfl⟩
theorem q6f (w:World):Calls Tryz.prog 84 #[.bool false] w fun e w'=>e= .panicked [{ v:= .iface 33 (.int .i64 6),recovered:=false }]/\w=w':=by go_enter Tryz.func84,Tryz.ntmps84;go_wp2;exact⟨rfl,rfl,rfl⟩
def q8g (bs:List Int) (k:Nat):List Int:=(List.range k).map fun i=>leW ((bs.drop (8*i)).take 8)
theorem v1i (bs:List Int) (k:Nat):q5m bs k=(bs.length:Int)::q8g bs k:=rfl
theorem z7u (bs:List Int) (k:Nat):q8g bs (k+1)=leW (bs.take 8)::q8g (bs.drop 8) k:=by unfold q8g;rw[Cn,Be,BU];congr 1;apply CK;intro i _;show leW ((bs.drop (8*(i+1))).take 8)=leW (((bs.drop 8).drop (8*i)).take 8);rw[DW];congr 3;omega
theorem x7u:∀(a b:List Int),leW (a++b)=leW a+256^a.length*leW b
 | [],b=>by simp[leW]
 | x::a,b=>by rw[Ct,leW,leW,x7u a b,BE,Int.pow_succ,Int.mul_add,Int.mul_comm (256^a.length) 256,Int.mul_assoc];omega
theorem v2l {bs:List Int} (h:∀x∈bs,0<=x/\x<256):leW bs=0↔ ∀x∈bs,x=0:=by
 induction bs with
 | nil=>simp[leW]
 | cons x bs ih=>have h1:=h x (Ae ..);have h2:=q1h (bs:=bs) (fun y hy=>h y (AW _ hy));rw[leW,List.forall_mem_cons,<- ih (fun y hy=>h y (AW _ hy))];omega
theorem v7b {bs:List Int} (h:∀x∈bs,0<=x/\x<256) (m:Nat):leW (bs.take m)=leW bs↔ ∀x∈bs.drop m,x=0:=by
 have e:=x7u (bs.take m) (bs.drop m);rw[CR] at e;rw[e,<- v2l (fun x hx=>h x (Ak hx))];have hp:(0:Int)<256^ (bs.take m).length:=Int.pow_pos (by decide);constructor
 ·intro h0;have h1:256^ (bs.take m).length*leW (bs.drop m)=0:=by omega
  rcases Int.mul_eq_zero.1 h1 with h|h;·omega
  ·exact h
 ·intro h0;rw[h0];simp
def q4h (ns:List Nat) (n:Nat):Bool:=((q0i ns).drop n).all (fun x=>decide (x=0))
theorem x1p (n j:Nat):0<=q0g n j/\q0g n j<256:=by unfold q0g;omega
theorem q9c (ns:List Nat):∀x∈q0i ns,0<=x/\x<256:=by intro x hx;unfold q0i at hx;obtain⟨n,_,h⟩:=Bq.1 hx;obtain⟨j,_,rfl⟩:=Aj.1 h;exact x1p n j
theorem x0h (x:Nat) (ns:List Nat):q0i (x::ns)=(List.range 8).map (q0g x)++q0i ns:=by unfold q0i;rw[Ap]
theorem z0e:∀(ns:List Nat) (n:Nat),(∀x∈ns,x<18446744073709551616)->ns.length=(n+7)/8->(q8g ((q0i ns).take n) ((n+7)/8)=ns.map (fun x:Nat=>(x:Int))↔ ∀x∈(q0i ns).drop n,x=0)
 | [],n,h64,hl=>by
  have:n=0:=by simp at hl;omega
  subst this;simp[q8g,q0i]
 | x::ns,n,h64,hl=>by
  rw[BE] at hl;obtain⟨k,hk⟩:∃k,(n+7)/8=k+1:=⟨(n+7)/8-1,by omega⟩;have I:((List.range 8).map (q0g x)).length=8:=by simp
  have S:∀y∈(List.range 8).map (q0g x),0<=y/\y<256:=by intro y hy;obtain⟨j,_,rfl⟩:=Aj.1 hy;exact x1p x j
  have hw:=x2m (h64 x (Ae ..));rw[hk,z7u,Be,x0h];by_cases h8:8<=n
  ·have e1:((List.range 8).map (q0g x)++q0i ns).take n=(List.range 8).map (q0g x)++(q0i ns).take (n-8):=by
    rw[List.take_append,I,AY (by rw[I];exact h8)]
   have e2:((List.range 8).map (q0g x)++q0i ns).drop n=(q0i ns).drop (n-8):=by rw[List.drop_append,I,BO (by rw[I];exact h8),Bi]
   rw[e1,e2,Cv (by rw[I];exact AG _),AY (by rw[I];exact AG _),List.drop_append_of_le_length (by rw[I];exact AG _),BO (by rw[I];exact AG _),Bi,hw];have O:(n-8+7)/8=k:=by omega
   have ih:=z0e ns (n-8) (fun y hy=>h64 y (AW _ hy)) (by omega);rw[O] at ih;rw[<- ih];simp
  ·have M:ns=[]:=by
    cases ns with
    | nil=>rfl
    | cons y ns=>simp at hl;omega
   subst M;have L:k=0:=by simp at hl;omega
   subst L;have e0:q0i []=[]:=rfl;rw[e0,Bx,List.take_take,DS (by omega:n<=8)];have:=v7b S n;rw[hw] at this;rw[<- this];simp[q8g]
theorem z0n (ns:List Nat) (n:Nat) (I:∀x∈ns,x<18446744073709551616) (hl:ns.length=(n+7)/8):decide (q5m ((q0i ns).take n) ((n+7)/8)=(n::ns).map (fun x:Nat=>(x:Int)))=q4h ns n:=by
 have hbl:((q0i ns).take n).length=n:=by rw[AU,q2f];omega
 have h1:=z0e ns n I hl;rw[v1i,hbl,Be];unfold q4h;rw[Bool.eq_iff_iff,decide_eq_true_iff,Bc];simp only[decide_eq_true_eq];rw[<- h1];simp
theorem q8p {xs:List Int} (h:∀x∈xs,0<=x/\x<256):strB (strOfNums xs)=xs:=by
 unfold strB;rw[strOfNums_data,BU]
 conv=>rhs;rw[<- List.map_id xs]
 apply CK;intro x hx;have:=h x hx;show((UInt8.ofNat x.toNat).toNat:Int)=x;rw[UInt8.toNat_ofNat'];omega
end Go.Proofs.YtibiekfjbibpbaaGreat
