import Derived.Test.YtibiekfjbibpbaaGreatRefM
import Derived.Test.YtibiekfjbibpbaaGreatGeoN
set_option maxRecDepth 100000
set_option maxHeartbeats 4000000
set_option linter.unusedVariables false
set_option linter.unusedSimpArgs false
namespace Go.Proofs.YtibiekfjbibpbaaGreat
open Go.RowKit
def blkC (x:Int×Int):List Value:=[.int .u64 x.1,.int .i64 x.2]
def intC (x:Int):Value:= .int .i64 x
def refC (bs:List Int) (k:Nat):List Int:=(List.range k).map fun i=>(q1u bs (i+1):Int)
def q9j (bs:List Int) (i:Nat) (l:List (Fin 64)):List (Int×Int):=l.map fun j=>(q0c ((i:Int)+1) (q1u bs (i+1)) (j.val:Int),2)
def refL (bs:List Int) (k:Nat):List (Int×Int):=(List.range k).flatMap fun i=>q9j bs i (q0t (q4r bs (i+1)))
theorem x8y (bs:List Int) (k:Nat):refC bs (k+1)=refC bs k++[(q1u bs (k+1):Int)]:=by unfold refC;rw[Ay,Ah];rfl
theorem z8x (bs:List Int) (k:Nat):refL bs (k+1)=refL bs k++q9j bs k (q0t (q4r bs (k+1))):=by unfold refL;rw[Ay,Al];simp
structure q2l (w:World) (N g:Nat) (size:Int) (cs:List Int) (ls:List (Int×Int)) (vC vL:Value):Prop where
 blk:Blk w g 230 #[.int .i64 size,vC,vL]
 rc:w.ownsRow N 3 1 vC cs.length (cs.map intC)
 rl:w.ownsRow N 235 2 vL ls.length (ls.flatMap blkC)
 lo:N<=g
 nc:vC.ownBlock≠some g
 nl:vL.ownBlock≠some g
 ncl:∀k,vC.ownBlock=some k->vL.ownBlock≠some k
theorem x2j {w:World} {base:Nat} {e:TypeId} {size n:Nat} {v:Value} {xs:List Value} (h:w.ownsRow base e size v n xs):∀k,v.ownBlock=some k->k<w.heap.size:=by
 intro k hk;rcases h.2 with⟨h1,_⟩|⟨g,cap,I,h1,h2,h3,_⟩;·rw[h1] at hk;cases hk
 ·rw[h1] at hk;have:g=k:=by simpa[Value.ownBlock] using hk
  subst this;exact(AA.1 h3).1
theorem q2l.only {w w':World} {N g:Nat} {size:Int} {cs:List Int} {ls:List (Int×Int)} {vC vL:Value} {fs:List Nat} (h:q2l w N g size cs ls vC vL) (ho:Only fs w w') (h1:g∉fs) (h2:∀k,vC.ownBlock=some k->k∉fs) (h3:∀k,vL.ownBlock=some k->k∉fs):q2l w' N g size cs ls vC vL:=⟨ho.blk h.blk h1,ho.own h.rc h2,ho.own h.rl h3,h.lo,h.nc,h.nl,h.ncl⟩
theorem q2l.bel {w w':World} {N g:Nat} {size:Int} {cs:List Int} {ls:List (Int×Int)} {vC vL:Value} (h:q2l w N g size cs ls vC vL) (hb:Below w.heap.size w w'):q2l w' N g size cs ls vC vL:=h.only (Only.of_below hb []) (by simp) (by simp) (by simp)
theorem q2l.addC {w w0 w9:World} {N g:Nat} {size:Int} {cs:List Int} {ls:List (Int×Int)} {vC vL v':Value} {c:Int} (h:q2l w N g size cs ls vC vL) (hN:N<=w.heap.size) (hb:Below w.heap.size w w0)
  (I:w9.ownsRow N 3 1 v' (cs.length+1) (cs.map intC++[.int .i64 c])) (hg:w0.grownBy w9 vC.ownBlock) (L:v'.ownBlock=vC.ownBlock\/v'.ownBlock=some w0.heap.size):
  q2l (w9.setCell ⟨g,1,none⟩ v') N g size (cs++[c]) ls v' vL/\Below N w (w9.setCell ⟨g,1,none⟩ v'):=by
 have h0:=h.bel hb;have ho:Only vC.ownBlock.toList w0 w9:=Only.of_grown hg (fun k hk=>by simp[hk]);have O:Blk w9 g 230 #[.int .i64 size,vC,vL]:=ho.blk h0.blk (by simpa using h.nc);have M:w9.ownsRow N 235 2 vL ls.length (ls.flatMap blkC):=ho.own h0.rl (fun k hk hm=>h.ncl k (by simpa using hm) hk);have hs:Only [g] w9 (w9.setCell ⟨g,1,none⟩ v'):=(Only.refl _ _).setCell (Or.inl (by simp)) _;have S:=h0.blk.lt
 have nv:v'.ownBlock≠some g:=by
  rcases L with e|e;·rw[e];exact h.nc
  ·rw[e];intro hc;injection hc with hc;omega
 refine⟨⟨O.set_ 1 v',hs.own (by simpa[intC] using I) (fun k hk hm=>nv (by rw[hk,AF.1 hm])),hs.own M (fun k hk hm=>h.nl (by rw[hk,AF.1 hm])),h.lo,nv,h.nl,fun k hk=> ?_⟩,?_⟩
 ·rcases L with e|e;·exact h.ncl k (by rw[<- e];exact hk)
  ·rw[e] at hk;injection hk with hk;intro hc;have:=x2j h0.rl k hc;omega
 ·have h1:Below N w w0:=hb.mono hN;have h2:Below N w0 w9:=ho.below (fun x hx=>z1p h0.rc x (by simpa using hx)) (AH hN hb.size);exact((h1.trans h2).setCell h.lo _)
theorem q2l.addL {w w0 w9:World} {N g:Nat} {size:Int} {cs:List Int} {ls:List (Int×Int)} {vC vL v':Value} {x:Int×Int} (h:q2l w N g size cs ls vC vL) (hN:N<=w.heap.size) (hb:Below w.heap.size w w0)
  (I:w9.ownsRow N 235 2 v' (ls.length+1) (ls.flatMap blkC++blkC x)) (hg:w0.grownBy w9 vL.ownBlock) (L:v'.ownBlock=vL.ownBlock\/v'.ownBlock=some w0.heap.size):
  q2l (w9.setCell ⟨g,2,none⟩ v') N g size cs (ls++[x]) vC v'/\Below N w (w9.setCell ⟨g,2,none⟩ v'):=by
 have h0:=h.bel hb;have ho:Only vL.ownBlock.toList w0 w9:=Only.of_grown hg (fun k hk=>by simp[hk]);have O:Blk w9 g 230 #[.int .i64 size,vC,vL]:=ho.blk h0.blk (by simpa using h.nl);have M:w9.ownsRow N 3 1 vC cs.length (cs.map intC):=ho.own h0.rc (fun k hk hm=>h.ncl k hk (by simpa using hm));have hs:Only [g] w9 (w9.setCell ⟨g,2,none⟩ v'):=(Only.refl _ _).setCell (Or.inl (by simp)) _;have S:=h0.blk.lt
 have nv:v'.ownBlock≠some g:=by
  rcases L with e|e;·rw[e];exact h.nl
  ·rw[e];intro hc;injection hc with hc;omega
 refine⟨⟨O.set_ 2 v',hs.own M (fun k hk hm=>h.nc (by rw[hk,AF.1 hm])),hs.own (by simpa[List.flatMap_append] using I) (fun k hk hm=>nv (by rw[hk,AF.1 hm])),h.lo,h.nc,nv,fun k hk=> ?_⟩,?_⟩
 ·rcases L with e|e;·rw[e];exact h.ncl k hk
  ·rw[e];intro hc;injection hc with hc;have:=x2j h0.rc k hk;omega
 ·have h1:Below N w w0:=hb.mono hN;have h2:Below N w0 w9:=ho.below (fun x hx=>z1p h0.rl x (by simpa using hx)) (AH hN hb.size);exact((h1.trans h2).setCell h.lo _)
end Go.Proofs.YtibiekfjbibpbaaGreat
namespace Go.Proofs.YtibiekfjbibpbaaGreat
open Go.RowKit
attribute [local go_sem ↓ high] q5q
attribute [local go_sem] x2p
theorem v1t:(Tryz.prog.info? 235).map (fun i=>(i.zero,i.size,i.bytes))=some (some (.agg #[.int .u64 0,.int .i64 0]),2,16):=by kernel_rfl
structure v5h (w:World) (bs:List Int) (n N:Nat) (e:Ending) (W':World):Prop where
 yes:(∀i,1<=i->i<=n->q2k bs i=true)-> ∃g vC vL,e= .returned (.tuple #[.pointer (some ⟨g,0,none⟩),.int .i64 0])/\q2l W' w.heap.size g (N:Int) (refC bs n) (refL bs n) vC vL
 no:(∃i,1<=i/\i<=n/\q2k bs i=false)->e= .returned (.tuple #[.pointer none,.int .i64 6])
 bel:Below w.heap.size w W'
structure ROfI (w:World) (bs:List Int) (n N g k:Nat) (W:World):Prop where
 wo:∃vC vL,q2l W w.heap.size g (N:Int) (refC bs k) (refL bs k) vC vL
 ok:∀i,1<=i->i<=k->q2k bs i=true
 bel:Below w.heap.size w W
structure ROfJ (w:World) (bs:List Int) (N g k ZS Z3:Nat) (W3:World) (pre:List (Fin 64)) (W:World):Prop where
 wo:∃vC vL,q2l W w.heap.size g (N:Int) (refC bs (k+1)) (refL bs k++q9j bs k pre) vC vL/\ ∀x,vL.ownBlock=some x->x<ZS\/Z3<=x
 bel:Below w.heap.size w W
 keep:∀x,ZS<=x->x<Z3->W.heap[x]?=W3.heap[x]?
 sz:Z3<=W.heap.size
theorem z1f (bs:List Int) (k:Nat):(refL bs k).length<=64*k:=by
 induction k with
 | zero=>simp[refL]
 | succ k ih=>
  rw[z8x,AI];have:(q9j bs k (q0t (q4r bs (k+1)))).length<=64:=by unfold q9j;rw[AO];exact q3s (q4r bs (k+1)) 64
  omega
theorem v8i (p:Option Addr) (cap:Nat) (bs:List Int) (n:Nat) (hn:1<=n/\n<=64) (hl:bs.length=1024*(n+1)) (w:World) (h:q1m w p cap bs):
  Calls Tryz.prog 39 #[.slice p bs.length cap] w fun e W'=>v5h w bs n bs.length e W':=by
 have hs:q0w (bs.length:Int)=(n:Int):=by unfold q0w;rw[if_pos (by omega)];omega
 have hS:=q8q (bs.length:Int) w;rw[hs] at hS;have t0:((n:Int)==0)=false:=by simp;omega
 have hn:=hid hn;obtain⟨N,hN⟩:∃N,N=bs.length:=⟨_,rfl⟩;rw[<- hN] at hl hS ⊢;have HS:=hid hS;have HN:=hid hN;have HL:=hid hl;have H:=hid h;clear h hS hs hN hl;obtain⟨iI,zo,q1,zy,zn⟩:=info_parts x1e;obtain⟨iB,zl,zp,q2,zg⟩:=info_parts v1t;go_enter Tryz.func39,Tryz.ntmps39;go_wp2_with fail;refine(HS.out).mono ?_;rintro e w1 ⟨rfl,rfl⟩;go_wp2_with fail;generalize hW:World.alloc w (Obj.cells #[Value.int IntKind.i64 ↑N,Value.slice none 0 0,Value.slice none 0 0] 230)=W0;have z2:Hid (ROfI w bs n N w.heap.size 0 W0):=by refine⟨⟨.slice none 0 0,.slice none 0 0,?_⟩,fun i h1 h2=>by omega,by rw[<- hW];exact ba (Below.refl _ _) _⟩;rw[<- hW];exact⟨Blk.new _ _ _,World.ownsRow_nil _ _ _ _,World.ownsRow_nil _ _ _ _,AG _,by simp[Value.ownBlock],by simp[Value.ownBlock],by simp[Value.ownBlock]⟩
 obtain⟨g,hg⟩:∃g,g=w.heap.size:=⟨_,rfl⟩;rw[<- hg];rw[<- hg] at z2;clear hW hg;go_loopw [6] (fun i wr=> ∃k:Nat,k<=n/\i= .int .i64 ((k:Int)+1)/\Hid (ROfI w bs n N g k wr)) (fun i _=>(n+1- (intOf i).toNat));case atStart=>exact⟨0,by omega,rfl,z2⟩
 case round=>
  obtain⟨k,hk,rfl,hI⟩:=hrel;by_cases hlt:k<n
  ·have i1:(k:Int)+1<=(n:Int):=by omega
   have ke:=hid hlt;obtain⟨ha,zb⟩:∃ha,ha=1024*(k+1):=⟨_,rfl⟩;obtain⟨hb,z5⟩:∃hb,hb=1024*(k+1)+8:=⟨_,rfl⟩;obtain⟨cv,km⟩:∃cv,cv=q1u bs (k+1):=⟨_,rfl⟩;obtain⟨bv,kc⟩:∃bv,bv=q4r bs (k+1):=⟨_,rfl⟩;have zk:=hn.out;have e1:1024*((k:Int)+1)=(ha:Int):=by omega
   have e2:(ha:Int)+8=(hb:Int):=by omega
   have b1:(ha:Int)<=65536:=by omega
   have b2:(k:Int)+1<=64:=by omega
   have ky:∀W',Below w.heap.size w W'->Calls Tryz.prog 126 #[.slice p N cap,.int .i64 (ha:Int)] W' fun e w'=>e= .returned (.int .u64 (cv:Int))/\W'=w':=by
    intro W' kh;have ki:=q2d H.out kh;have he:=HN.out;have:=x1m p cap bs ha (by have:=HL.out;omega) (by have:=HL.out;omega) W' ki;rw[<- he] at this;have kx:leW ((bs.drop ha).take 8)=(cv:Int):=by rw[km,zb];exact(Cb (q1h (bs:=(bs.drop (1024*(k+1))).take 8) (fun x hx=>H.out.2.1 x (Ak (Ab hx)))).1).symm
    rw[kx] at this;exact this
   have z1:∀W',Below w.heap.size w W'->Calls Tryz.prog 126 #[.slice p N cap,.int .i64 (hb:Int)] W' fun e w'=>e= .returned (.int .u64 (bv:Int))/\W'=w':=by
    intro W' kh;have ki:=q2d H.out kh;have he:=HN.out;have:=x1m p cap bs hb (by have:=HL.out;omega) (by have:=HL.out;omega) W' ki;rw[<- he] at this;have kx:leW ((bs.drop hb).take 8)=(bv:Int):=by rw[kc,z5];exact(Cb (q1h (bs:=(bs.drop (1024*(k+1)+8)).take 8) (fun x hx=>H.out.2.1 x (Ak (Ab hx)))).1).symm
    rw[kx] at this;exact this
   have hbl:bv<18446744073709551616:=by
    have:=q1h (bs:=(bs.drop (1024*(k+1)+8)).take 8) (fun x hx=>H.out.2.1 x (Ak (Ab hx)));have h2:((bs.drop (1024*(k+1)+8)).take 8).length<=8:=by simp;omega
    have h3:(2:Int)^ (8*((bs.drop (1024*(k+1)+8)).take 8).length)<=2^64:=by
     have h4:=As (n:=2) (by omega) (show 8*((bs.drop (1024*(k+1)+8)).take 8).length<=64 by omega)
     exact_mod_cast h4
    have h5:((2:Int)^64)=18446744073709551616:=by decide
    have:(bv:Int)<18446744073709551616:=by rw[kc];unfold q4r;rw[Cb this.1];omega
    omega
   have T1:=hid ky;have T2:=hid z1;have k3:=hid km;have kf:=hid kc;have z4:=hid hbl;have HK:=hid hk;have q4:(0:Int)<=(cv:Int):=by omega
   clear ky z1 km kc hbl zb z5 hlt hk zk;go_wp2_with fail;refine(T1.out wr hI.out.bel).mono ?_;rintro e w1 ⟨rfl,rfl⟩;go_wp2_with fail;refine(T2.out wr hI.out.bel).mono ?_;rintro e w1 ⟨rfl,rfl⟩;by_cases hc3:(cv:Int)>3
   ·have kr:Hid (q2k bs (k+1)=false):=by
     show _=_;unfold q2k;rw[<- k3.out,AK (by omega)];rfl
    go_wp2;go_ret2;exact⟨fun hr=>absurd (hr (k+1) (by omega) ke.out) (by rw[kr.out];decide),fun _=>rfl,hI.out.bel⟩
   ·have qd:IntKind.i64.wrap (cv:Int)=(cv:Int):=by rw[IntKind.wrap_i64];omega
    go_wp2_with fail;refine(q6q (cv:Int) wr).mono ?_;rintro e w1 ⟨rfl,rfl⟩;go_wp2_with fail;refine(v9z bv (q0m (cv:Int)) z4.out wr).mono ?_;rintro e W2 ⟨rfl,k5⟩;cases hm:q4y bv (q0m (cv:Int))
    ·have kr:Hid (q2k bs (k+1)=false):=by
      show _=_;unfold q2k;rw[<- k3.out,<- kf.out,hm,Bool.and_false]
     have zc:=hid (hI.out.bel.trans (k5.mono hI.out.bel.size));clear k5;go_wp2;go_ret2;exact⟨fun hr=>absurd (hr (k+1) (by omega) ke.out) (by rw[kr.out];decide),fun _=>rfl,zc.out⟩
    ·have kk:Hid (q2k bs (k+1)=true):=by
      show _=_;unfold q2k;rw[<- k3.out,<- kf.out,hm,AT (by omega)];rfl
     obtain⟨vC,vL,k1⟩:=hI.out.wo;have O:=k1.bel k5;have U:=hI.out.bel.trans (k5.mono hI.out.bel.size);have yc:W2.cell? ⟨g,1,none⟩=some vC:=O.blk.cell 1;have ko:(refC bs k).length=k:=by unfold refC;simp
     have z7:=O.rc.alloc (.cells #[.int .i64 (cv:Int)] 3);obtain⟨q8,w9,S,hf,hi,_,k7⟩:=run_append_own_at (P:=Tryz.prog) (W2.alloc (.cells #[.int .i64 (cv:Int)] 3)) w.heap.size 227 227 3 iI (.int .i64 0) 1 8 Tryz.underlying227 zo q1 zy zn rfl (by decide) _ _ _ z7 ⟨W2.heap.size,0,none⟩ 1 1 [.int .i64 (cv:Int)] rfl (World.news_of_block (Blk.new W2 3 #[.int .i64 (cv:Int)])) (by simp[Value.oneCell']) (by rw[ko];unfold maxLen;have:=HK.out;have:=hn.out;omega) (by rw[ko];have:=HK.out;have:=hn.out;omega) (by have:=U.size;simp;omega);obtain⟨a9,c9,rfl⟩:=z1a hf;have ho:x2r Tryz.prog #[227,227] 227 #[vC,.slice (some ⟨W2.heap.size,0,none⟩) 1 1] (W2.alloc (.cells #[.int .i64 (cv:Int)] 3))= .ok (.slice a9 ((refC bs k).length+1) c9) w9:=S;have h8:=O.addC (c:=(cv:Int)) U.size (ba (Below.refl _ _) _) hf hi k7;have q3:w9.cell? ⟨g,1,none⟩=some vC:=by have h1:Blk w9 g 230 #[.int .i64 (N:Int),vC,vL]:=(O.blk.alloc (.cells #[.int .i64 (cv:Int)] 3)).grown hi (fun e=>O.nc e.symm);exact h1.cell 1
     have zj:w9.frozen? ⟨g,1,none⟩=false:=by have h1:Blk w9 g 230 #[.int .i64 (N:Int),vC,vL]:=(O.blk.alloc (.cells #[.int .i64 (cv:Int)] 3)).grown hi (fun e=>O.nc e.symm);exact h1.frozen 1
     have h7:=hid h8;have k4:=hid U;clear S hf hi k7 h8 z7 k1 O U ko k5;go_wp2_with fail;generalize hWS:w9.setCell ⟨g,1,none⟩ _=WS;rw[hWS] at h7;clear hWS q3 zj yc;refine(x9v bv z4.out WS).mono ?_;rintro e W3 ⟨vB,rfl,kb,k8⟩;obtain⟨aB,cB,rfl⟩:=z1a kb;have hj:Below w.heap.size w WS:=k4.out.trans h7.out.2;have zh:Hid (ROfJ w bs N g k WS.heap.size W3.heap.size W3 ((q0t bv).take 0) W3):=by refine⟨⟨_,vL,by rw[x8y,<- k3.out];simpa[q9j] using h7.out.1.bel k8,fun x hx=>Or.inl (x2j h7.out.1.rl x hx)⟩,hj.trans (k8.mono hj.size),fun _ _ _=>rfl,AG _⟩
     obtain⟨L,hL⟩:∃L,L=(q0t bv).length:=⟨_,rfl⟩;have q0:L<=64:=by rw[hL];exact q3s bv 64
     rw[<- hL] at kb ⊢;have zv:=hid kb;have z9:=hid hL;have q6:=hid k8.size;have q5:=hid hj.size;have zt:=hid h7.out.1.blk.lt;clear kb k8 hj hL h7;go_wp2;go_loopw [10] (fun i W'=> ∃t:Nat,t<=L/\i= .int .i64 t/\Hid (ROfJ w bs N g k WS.heap.size W3.heap.size W3 ((q0t bv).take t) W')) (fun i _=>(L- (intOf i).toNat));case atStart=>exact⟨0,by omega,rfl,zh⟩
     case round=>
      obtain⟨t,ht,rfl,hJ⟩:=hrel;by_cases htl:t<L
      ·have j1:(t:Int)< (L:Int):=by omega
       have j0:(0:Int)<=(t:Int):=by omega
       obtain⟨x,hx⟩:∃x,(q0t bv)[t]?=some x:=⟨_,AD (by have:=z9.out;omega)⟩;have k9:Hid ((q0t bv).take (t+1)=(q0t bv).take t++[x]):=by obtain⟨h1,h2⟩:=AE.1 hx;show _=_;rw[BF h1,h2]
       rcases zv.out.2 with⟨z6,qa⟩|⟨gB,ze,hz,z6,z8,kt,zq,zm,zx,kz⟩;·omega
       ·cases z6;have zs:gB<W3.heap.size:=(AA.1 kt).1;have hp:wr.heap[gB]?=some (.cells hz 3 (0,0)):=(hJ.out.keep gB z8 zs).trans kt
        have yb:wr.drew.cell? ⟨gB,t,none⟩=some (.int .i64 (x.val:Int)):=by
         have h1:(hz.toList.take (L*1))[t]?=some (bitV x):=by rw[kz,AM,hx];rfl
         rw[AV,if_pos (by omega)] at h1;show wr.cell? ⟨gB,t,none⟩=_;rw[cell_of_row wr gB t hz _ _ hp];simpa[bitV] using h1
        obtain⟨kd,k0,I,kq⟩:=hJ.out.wo;obtain⟨a,kn⟩:∃a,a=q0c ((k:Int)+1) (cv:Int) (x.val:Int):=⟨_,rfl⟩;have yl:wr.drew.cell? ⟨g,2,none⟩=some k0:=I.blk.cell 2;have he:(refL bs k++q9j bs k ((q0t bv).take t)).length<=64*66:=by have h1:=z1f bs k;have h2:=HK.out;have h3:=hn.out;rw[AI];unfold q9j;rw[AO,AU];omega
        have h6:=hJ.out.bel;have M:Below wr.heap.size wr (wr.alloc (.cells #[.int .u64 a,.int .i64 2] 235)).drew:=(ba (Below.refl _ _) _).drew;have q9:(wr.alloc (.cells #[.int .u64 a,.int .i64 2] 235)).drew.cell? ⟨g,2,none⟩=some k0:=(M.cell (p:=⟨g,2,none⟩) I.blk.lt).trans yl;have qe:(wr.alloc (.cells #[.int .u64 a,.int .i64 2] 235)).drew.cell? ⟨gB,t,none⟩=some (.int .i64 (x.val:Int)):=(M.cell (p:=⟨gB,t,none⟩) (AA.1 hp).1).trans yb;obtain⟨qf,w8,S,Y,h9,_,hh⟩:=run_append_own_at (P:=Tryz.prog) (wr.alloc (.cells #[.int .u64 a,.int .i64 2] 235)).drew w.heap.size 228 228 235 iB (.agg #[.int .u64 0,.int .i64 0]) 2 16 Tryz.underlying228 zl zp q2 zg rfl (by decide) _ _ _ (I.bel M).rl ⟨wr.heap.size,0,none⟩ 1 1 [.int .u64 a,.int .i64 2] rfl (World.news_of_block (Blk.new wr 235 #[.int .u64 a,.int .i64 2])) (by simp[Value.oneCell']) (by unfold maxLen;omega) (by omega) (by have:=h6.size;simp;omega);obtain⟨a8,c8,rfl⟩:=z1a Y;obtain⟨LL,hq⟩:∃LL,LL=(refL bs k++q9j bs k ((q0t bv).take t)).length:=⟨_,rfl⟩;rw[<- hq] at S Y hh;have ho:x2r Tryz.prog #[228,228] 228 #[k0,.slice (some ⟨wr.heap.size,0,none⟩) 1 1] (wr.alloc (.cells #[.int .u64 a,.int .i64 2] 235)).drew= .ok (.slice a8 (LL+1) c8) w8:=S;have h8:=I.addL (x:=(a,2)) h6.size M (by rw[<- hq];exact Y) h9 hh;have kj:Blk w8 g 230 #[.int .i64 (N:Int),kd,k0]:=(I.bel M).blk.grown h9 (fun e=>I.nl e.symm);have qg:w8.cell? ⟨g,2,none⟩=some k0:=kj.cell 2;have qc:w8.frozen? ⟨g,2,none⟩=false:=kj.frozen 2;have q7:g<WS.heap.size:=zt.out
        have za:ROfJ w bs N g k WS.heap.size W3.heap.size W3 ((q0t bv).take (t+1)) (w8.setCell ⟨g,2,none⟩ (.slice a8 (LL+1) c8)):=by
         refine⟨⟨kd,.slice a8 (LL+1) c8,?_,fun y hy=> ?_⟩,h6.trans h8.2,fun y zi z3=> ?_,?_⟩
         ·rw[k9.out];have:refL bs k++q9j bs k ((q0t bv).take t++[x])=(refL bs k++q9j bs k ((q0t bv).take t))++[(a,2)]:=by unfold q9j;rw[Ah,<- BB,kn,k3.out];rfl
          rw[this];exact h8.1
         ·rcases hh with e|e;·exact kq y (by rw[<- e];exact hy)
          ·rw[e] at hy;injection hy with hy;have:=hJ.out.sz;simp at hy;omega
         ·have z0:y<wr.heap.size:=AL z3 hJ.out.sz;have h1:(w8.setCell ⟨g,2,none⟩ (.slice a8 (LL+1) c8)).heap[y]?=w8.heap[y]?:=Below.heap_setCell w8 ⟨g,2,none⟩ _ y (by show y≠g;omega);have h2:=h9.block y (AL z0 M.size) (fun e=>by rcases kq y e.symm with h|h<;>omega);exact h1.trans (h2.trans ((M.block y z0).trans (hJ.out.keep y zi z3)))
         ·have:=h9.size;have h2:=M.size;have h3:=hJ.out.sz;simp[World.setCell];omega
        have zd:=hid za;have kp:=hid S;have kg:=z1y ((k:Int)+1) (cv:Int) (x.val:Int);rw[<- kn] at kg;have zr:=hid kg;have qb:=hid I.blk.lt;clear S ho Y h9 hh h8 kj za kg kn I kq he hJ h6 M kt hp kz zx zm zq z8 hx hq;go_wp2_with fail;refine z1q (X:= ?X) (fun key=> ?_) ?_
        rotate_left
        ·go_region_law (first
          | (refine q1k rfl (.tmp 67) (.tmp 77) 228 228 rfl _ _ (by simp[Act.eval,Act.put]) (by simp[Act.eval,Act.put]) kp.out ?_)
          | (go_simp;go_at_call 130;(with_reducible refine(zr.out _).mono ?_);rintro e w5 ⟨rfl,rfl⟩))
         all_goals
          try go_simp
          try simp only[Act.put,List.setIfInBounds_toArray,List.set_cons_zero,List.set_cons_succ]
          exact key.out
        go_wp2;go_roundw;case rel=>exact⟨t+1,by omega,by go_num,zd⟩
        case measure=>simp[intOf];omega
      ·obtain rfl:t=L:=by omega
       have k9:(q0t bv).take t=q0t bv:=AY (by have:=z9.out;omega);obtain⟨kd,k0,I,_⟩:=hJ.out.wo
       have zz:Hid (ROfI w bs n N g (k+1) wr):=by
        refine⟨⟨kd,k0,by rw[z8x];rw[k9] at I;rw[kf.out] at I;exact I⟩,fun i h1 h2=> ?_,hJ.out.bel⟩;by_cases e:i=k+1;·rw[e];exact kk.out
        ·exact hI.out.ok i h1 (by omega)
       clear I k9 hJ;go_wp2;go_roundw;case rel=>exact⟨k+1,ke.out,by go_num,zz⟩
       case measure=>simp[intOf];have:=ke.out;omega
  ·obtain rfl:k=n:=by omega
   obtain⟨vC,vL,k1⟩:=hI.out.wo;have zf:=hid k1;have i1: ¬((k:Int)+1<=(k:Int)):=by omega
   clear k1;go_wp2;go_ret2;exact⟨fun _=>⟨g,vC,vL,rfl,zf.out⟩,fun⟨i,h1,h2,h3⟩=>absurd (hI.out.ok i h1 h2) (by rw[h3];decide),hI.out.bel⟩
end Go.Proofs.YtibiekfjbibpbaaGreat
