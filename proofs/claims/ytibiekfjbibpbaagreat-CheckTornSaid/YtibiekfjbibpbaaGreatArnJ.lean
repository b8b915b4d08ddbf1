import Derived.Test.YtibiekfjbibpbaaGreatArnI
set_option maxRecDepth 100000
set_option maxHeartbeats 4000000
set_option linter.unusedVariables false
set_option linter.unusedSimpArgs false
namespace Go.Proofs.YtibiekfjbibpbaaGreat
open Go.RowKit
attribute [local go_sem ↓ high] q0v
attribute [local go_sem] q0h Oper.semAt_some
def v0w (w:World) (slabs:Nat) (keys:List Nat) (per lag:Nat) (e:Ending) (w':World):Prop:=Below w.heap.size w w'/\(e= .returned (.pointer none)\/ ∃g b n R lv rows,e= .returned (.pointer (some ⟨g,0,none⟩))/\w.heap.size<=g/\w.heap.size<=b/\ArIs w' g b n R lv/\LvsA w' w.heap.size lv rows/\q8a slabs keys per lag R rows)
structure VlI (w:World) (g b n:Nat) (keys:List Nat) (ev:Value) (Q:AR) (l:List (Int×Int)) (W:World):Prop where
 ar:ArIs W g b n Q (.slice none 0 0)
 en:W.ownsRow w.heap.size 166 2 ev l.length (l.flatMap entC)
 bel:Below w.heap.size w W
theorem VlI.arena {w:World} {g b n:Nat} {keys:List Nat} {ev:Value} {Q Q':AR} {l:List (Int×Int)} {W W':World} (h:VlI w g b n keys ev Q l W) (hg:w.heap.size<=g) (hb:w.heap.size<=b) (hA:ArIs W' g b n Q' (.slice none 0 0)) (ho:Only [g,b] W W'):VlI w g b n keys ev Q' l W':=by
 refine⟨hA,ho.own h.en (fun k hk hm=> ?_),h.bel.trans (ho.below (fun y hy=> ?_) h.bel.size)⟩
 ·simp at hm;rcases hm with rfl|rfl;·exact q6u h.en h.ar.blk (by decide) _ hk rfl
  ·exact q6u h.en h.ar.by' (by decide) _ hk rfl
 ·simp at hy;rcases hy with rfl|rfl<;>assumption
def z9d (Q:Exit->Act->World->Prop):Exit->Act->World->Prop
 | .panic _,_,_=>False
 | e,a,w=>Q e a w
theorem z9d.imp {Q:Exit->Act->World->Prop}:∀(e:Exit) (a:Act) (w:World),z9d Q e a w->Q e a w:=fun e a w h=>by cases e<;>first|exact h|exact(h:False).elim
theorem z9d.normal {Q:Exit->Act->World->Prop} {a:Act} {w:World} (h:Q .normal a w):z9d Q .normal a w:=h
structure LmI (w:World) (g b n:Nat) (ev:Value) (Q:AR) (rows:List (List (Nat×NodeA))) (i:Nat) (l:List (Int×Int)) (lv:Value) (W:World):Prop where
 ar:ArIs W g b n Q lv
 lvs:LvsA W w.heap.size lv rows
 en:W.ownsRow w.heap.size 166 2 ev i (l.flatMap entC)
 bel:Below w.heap.size w W
theorem LmI.bel' {w:World} {g b n:Nat} {ev:Value} {Q:AR} {rows:List (List (Nat×NodeA))} {i:Nat} {l:List (Int×Int)} {lv:Value} {W W':World} (h:LmI w g b n ev Q rows i l lv W) (hb:Below W.heap.size W W'):LmI w g b n ev Q rows i l lv W':=⟨h.ar.bel hb,h.lvs.only (Only.of_below hb []) (fun k hk=>by cases hk),(Only.of_below hb []).own h.en (by simp),h.bel.trans (hb.mono h.bel.size)⟩
abbrev LlI (w:World) (g b n:Nat) (ev:Value) (Q:AR) (rows:List (List (Nat×NodeA))) (l:List (Int×Int)) (lv:Value) (W:World):Prop:=LmI w g b n ev Q rows l.length l lv W
theorem v0e (slabs per lag:Nat) (keys:List Nat) (kv:Value) (h1:1<=slabs) (hs:slabs<=64) (hk:keys.length<=1000) (xd:∀x∈keys,x<18446744073709551616) (hp:2<=per) (vi:per<=8) (ze:lag<=1000) (w:World) (hK:q1w .u64 w kv (keys.map (fun x:Nat=>(x:Int)))):
  Calls Tryz.prog 35 #[.int .i64 (slabs:Int),kv,.int .i64 (per:Int),.int .i64 (lag:Int)] w fun e w'=>v0w w slabs keys per lag e w':=by
 obtain⟨ao,cap,qn,z4⟩:=hK;rw[AO] at qn;obtain⟨m,hm⟩:∃m,m=keys.length:=⟨_,rfl⟩;rw[<- hm] at qn;subst qn;obtain⟨n,hn⟩:∃n,n=1024*(slabs+1):=⟨_,rfl⟩;have y4:n<=66560:=by omega
 have w1:IntKind.i64.wrap ((slabs:Int)+1)=((slabs+1:Nat):Int):=by rw[IntWalk.i64_in _ (by constructor<;>omega)];omega
 have w2:IntKind.i64.wrap (1024*((slabs:Int)+1))=(n:Int):=by rw[IntWalk.i64_in _ (by constructor<;>omega)];omega
 have w3:IntKind.u64.wrap (n:Int)=(n:Int):=IntWalk.u64_in _ (by constructor<;>omega);obtain⟨c,hc⟩:∃c,c=18446744073709551615-n:=⟨_,rfl⟩;have w4:IntKind.u64.wrap (18446744073709551615- (n:Int))=(c:Int):=by rw[IntWalk.u64_in _ (by constructor<;>omega)];omega
 have zh:=v1h n (by omega) w;obtain⟨Z,hZ⟩:∃Z:List Int,Z=List.replicate n 0:=⟨_,rfl⟩;rw[<- hZ] at zh;obtain⟨g,hg⟩:∃g,g=w.heap.size+1:=⟨_,rfl⟩;obtain⟨b,hb⟩:∃b,b=w.heap.size:=⟨_,rfl⟩;have HH:=hid (⟨h1,hs,hk,xd,hp,vi,ze,hm,hn,hc,hZ⟩:1<=slabs/\slabs<=64/\keys.length<=1000/\(∀x∈keys,x<18446744073709551616)/\2<=per/\per<=8/\lag<=1000/\m=keys.length/\n=1024*(slabs+1)/\c=18446744073709551615-n/\Z=List.replicate n 0);have xz:=hid z4;have kc:=hid (⟨hg,hb⟩:_/\_);clear h1 hs hk xd hp vi ze hm hn hc hZ z4 y4 hg hb;go_enter Tryz.func35,Tryz.ntmps35;go_upto_region 2 with fail;obtain⟨W0,q8⟩:∃W0,W0=(w.alloc (.cells (byC Z) 5)).alloc (.cells #[.slice (some ⟨w.heap.size,0,none⟩) n n,.int .i64 (slabs:Int),.int .i64 0,.int .i64 0,.int .i64 0,.int .i64 0,.int .i64 0,.slice none 0 0] 39):=⟨_,rfl⟩;rw[<- q8,<- kc.out.1,<- kc.out.2];obtain⟨R0,qi⟩:∃R0:AR,R0={ bs:=Z,slabs:=slabs,used:=0,value:=0,values:=0,node:=0,nodes:=0 }:=⟨_,rfl⟩
 have vm:ArIs W0 g b n R0 (.slice none 0 0):=by
  have hh:=HH.out;have xt:Z.length=n:=by rw[hh.2.2.2.2.2.2.2.2.2.2];exact CB
  rw[qi,kc.out.1,kc.out.2,q8];refine⟨?_,(Blk.new _ _ _).alloc _,xt.symm,by omega,fun x hx=> ?_⟩;·have:=Blk.new (w.alloc (.cells (byC Z) 5)) 39 (arC w.heap.size n { bs:=Z,slabs:=slabs,used:=0,value:=0,values:=0,node:=0,nodes:=0 } (.slice none 0 0));rw[World.size_alloc] at this;exact this
  ·have x8:x∈Z:=hx;rw[hh.2.2.2.2.2.2.2.2.2.2] at x8;rw[Cd x8];exact⟨by decide,by decide⟩
 have vo:Below w.heap.size w W0:=by rw[q8];exact ba (ba (Below.refl _ _) _) _
 have zg:((R0.put 0 5929342154728227142).put 8 n).put 24 c=AR.new slabs:=by have hh:=HH.out;rw[qi,hh.2.2.2.2.2.2.2.2.2.2,hh.2.2.2.2.2.2.2.2.2.1,hh.2.2.2.2.2.2.2.2.1];rfl
 have q9:=hid zg;have x1:=hid vo;have P1:=hid (q9i g b n R0 (.slice none 0 0) 0 5929342154728227142 (by omega) (by have:=HH.out;omega) W0 vm);have P2:=hid (fun W hW=>q9i g b n (R0.put 0 5929342154728227142) (.slice none 0 0) 8 n (by have:=HH.out;omega) (by have:=HH.out;omega) W hW);have P3:=hid (fun W hW=>q9i g b n ((R0.put 0 5929342154728227142).put 8 n) (.slice none 0 0) 24 c (by have:=HH.out;omega) (by have:=HH.out;omega) W hW);clear q8 qi vm vo zg zh w1 w2;go_wp2_with fail;refine P1.out.mono ?_;rintro e W1 ⟨rfl,v0,vx⟩;have c0:W1.cell? ⟨g,0,none⟩=some (.slice (some ⟨b,0,none⟩) n n):=v0.blk.cell 0;have P2:=hid (P2.out W1 v0);have x7:Hid (Below w.heap.size w W1):=hid (x1.out.trans (vx.below (fun y hy=>by have:=kc.out.2;simp at hy;omega) x1.out.size));clear v0 vx;go_wp2_with fail;refine P2.out.mono ?_;rintro e W2 ⟨rfl,k3,z5⟩;clear c0;have c0:W2.cell? ⟨g,0,none⟩=some (.slice (some ⟨b,0,none⟩) n n):=k3.blk.cell 0;have P3:=hid (P3.out W2 k3);have zq:Hid (Below w.heap.size w W2):=hid (x7.out.trans (z5.below (fun y hy=>by have:=kc.out.2;simp at hy;omega) x7.out.size));clear k3 z5;go_wp2_with fail;refine P3.out.mono ?_;rintro e W3 ⟨rfl,qz,x5⟩;clear c0;have xr:Hid (Below w.heap.size w W3):=hid (zq.out.trans (x5.below (fun y hy=>by have:=kc.out.2;simp at hy;omega) zq.out.size));rw[q9.out] at qz;have x9:Hid (VlI w g b n keys (.slice none 0 0) ((AR.new slabs).vals keys 0).1 ((AR.new slabs).vals keys 0).2 W3):=hid ⟨qz,World.ownsRow_nil _ _ _ _,xr.out⟩;have vp:Hid ((AR.new slabs).valsRoomy keys 0):=hid (fun k hk=>absurd hk (BP _));have S:Hid (w.heap.size<=g/\w.heap.size<=b):=hid (by have:=kc.out;omega);clear qz x5 P1 P2 P3 w3 w4;go_wp2;go_loopw [10,11] (fun rv iv wr=> ∃(i:Nat) (ea:Option Addr) (ec:Nat),i<=m/\iv= .int .i64 (i:Int)/\rv= .slice ea i ec/\Hid (VlI w g b n keys (.slice ea i ec) ((AR.new slabs).vals keys i).1 ((AR.new slabs).vals keys i).2 wr)/\Hid ((AR.new slabs).valsRoomy keys i)) (fun _ iv _=>m- (intOf iv).toNat);case atStart=>exact⟨0,none,0,Af _,rfl,rfl,x9,vp⟩
 case round=>
  obtain⟨i,ea,ec,x2,rfl,rfl,hI,hV⟩:=hrel;obtain⟨wA,rfl⟩:∃y,y=wr:=⟨_,rfl⟩;clear x9 vp;obtain⟨kh,h9,z0⟩:=z1u (z2u HH.out.1 HH.out.2.1).1 HH.out.2.2.2.1 i hV.out;by_cases hlt:i<m
  ·have i1:(i:Int)< (m:Int):=by omega
   have i0:(0:Int)<=(i:Int):=by omega
   obtain⟨key,kq⟩:∃key,key=keys.getD i 0:=⟨_,rfl⟩;have qp:keys[i]?=some key:=by rw[kq,Ag,AD (by have:=HH.out;omega)];rfl
   have zo:key<18446744073709551616:=HH.out.2.2.2.1 _ (AJ qp);obtain⟨Q,hQ⟩:∃Q,Q=((AR.new slabs).vals keys i).1:=⟨_,rfl⟩;rw[<- hQ] at kh h9;obtain⟨at',v8⟩:∃a,a=Q.newValue.2:=⟨_,rfl⟩;have NV:=z9e g b n Q (.slice none 0 0) wA (by rw[hQ];exact hI.out.ar) kh;rw[<- v8] at NV;have NV:=hid NV;have HK:=hid (⟨hlt,kq,qp,zo,hQ,kh,h9,v8,z0⟩:i<m/\key=keys.getD i 0/\keys[i]?=some key/\key<18446744073709551616/\Q=((AR.new slabs).vals keys i).1/\AROk Q/\Q.bs.length=(AR.new slabs).bs.length/\at'=Q.newValue.2/\((AR.new slabs).vals keys i).2.length=i);have qs:=hI.out;rw[<- hQ] at qs;have HI:=hid qs;clear hlt x2 kq qp zo hQ kh h9 v8 z0 qs;go_wp2_with fail;refine NV.out.mono ?_;rintro e w4 ⟨rfl,vj,vh⟩;have zv:=hid (HI.out.arena S.out.1 S.out.2 vj vh);clear vj vh;by_cases qa:at'=0
   ·have b0:((at':Int)==0)=true:=by simp[qa]
    clear qa;go_wp2;go_ret;exact⟨zv.out.bel,Or.inl rfl⟩
   ·have b0:((at':Int)==0)=false:=by simp;omega
    have xn:=hid qa
    obtain⟨kb,off,rfl,qb,z4⟩:∃kb off,ao=some ⟨kb,off,none⟩/\kb<w.heap.size/\w.cell? ⟨kb,off+i,none⟩=some (.int .u64 (key:Int)):=by
     rcases xz.out with h|⟨kb,off,q1,q2,q3⟩
     ·have h2:=HK.out;have h3:=HH.out;have:keys=[]:=by simpa using h
      rw[this] at h3;simp at h3;omega
     ·refine⟨kb,off,q1,q2,?_⟩;have:=q3 i (key:Int) (by rw[AM,HK.out.2.2.1];rfl);exact this
    have x4:=hid (⟨qb,z4⟩:_/\_);have ck:w4.cell? ⟨kb,off+i,none⟩=some (.int .u64 (key:Int)):=(zv.out.bel.cell (p:=⟨kb,off+i,none⟩) qb).trans z4;obtain⟨T,hT⟩:∃T,T=strOfNums (numL key):=⟨_,rfl⟩;have VZ:=v0l key HK.out.2.2.2.1 w4;rw[<- hT] at VZ;have VZ:=hid VZ;have qd:T.size=(numL key).length:=by rw[hT,strOfNums_size]
    have zn:T.size<=20:=by rw[qd];exact z9n HK.out.2.2.2.1
    have kf:at'+64<=n:=by obtain⟨q1,q2,q3⟩:=z2d HK.out.2.2.2.2.2.1 HK.out.2.2.2.1 (by rw[<- HK.out.2.2.2.2.2.2.2.1];exact qa);have h4:=HK.out.2.2.2.2.2.2.1;have h5:=(z2u HH.out.1 HH.out.2.1).2;have h6:=HH.out.2.2.2.2.2.2.2.2.1;rw[<- HK.out.2.2.2.2.2.2.2.1] at q3;omega
    have vl:n<=66560:=by have:=HH.out;omega
    have wt:IntKind.u64.wrap (T.size:Int)=(T.size:Int):=IntWalk.u64_in _ (by constructor<;>omega);have ve:strB T=numL key:=by rw[hT];exact q8p (x0c key)
    have HT:=hid (⟨qd,zn,kf,vl,ve⟩:_/\_/\_/\_/\_);clear qa qb z4 hT qd zn kf vl ve;go_wp2_with fail;refine VZ.out.mono ?_;rintro e w5 ⟨rfl,qc⟩;have qv:VlI w g b n keys (.slice ea i ec) Q.newValue.1 ((AR.new slabs).vals keys i).2 w5:=zv.out.arena S.out.1 S.out.2 (zv.out.ar.bel qc) (Only.of_below qc _);have PT:=hid (q9i g b n Q.newValue.1 (.slice none 0 0) at' T.size (by have:=HT.out;omega) (by have:=HT.out;omega) w5 qv.ar);have yb:=hid qv;clear qc qv ck;go_wp2_with fail;refine PT.out.mono ?_;rintro e w6 ⟨rfl,vn,xf⟩;have vr:Hid (VlI w g b n keys (.slice ea i ec) ((Q.newValue.1.put at' T.size).bytesTo (at'+8) (numL key) 0) ((AR.new slabs).vals keys i).2 w6):=hid (yb.out.arena S.out.1 S.out.2 vn (xf.mono (by simp)));clear vn xf wt;go_wp2;go_loopw [14] (fun iv wr=> ∃j:Nat,j<=T.size/\iv= .int .i64 (j:Int)/\Hid (VlI w g b n keys (.slice ea i ec) ((Q.newValue.1.put at' T.size).bytesTo (at'+8) (numL key) j) ((AR.new slabs).vals keys i).2 wr)) (fun iv _=>T.size- (intOf iv).toNat);case atStart=>exact⟨0,Af _,rfl,vr⟩
    case round=>
     obtain⟨j,hj,rfl,hJ⟩:=hrel;obtain⟨wB,rfl⟩:∃y,y=wr:=⟨_,rfl⟩;clear vr;by_cases hjt:j<T.size
     ·have j1:(j:Int)< (T.size:Int):=by omega
      have j0:(0:Int)<=(j:Int):=by omega
      obtain⟨c',zt⟩:∃c',(strB T)[j]?=some c':=⟨_,AD (by rw[q2v];exact hjt)⟩;have yg:((T[j]'hjt).toNat:Int)=c':=by have hc:=zt;unfold strB at hc;rw[AM,Ad] at hc;have y8:j<T.data.size:=hjt;rw[AS y8] at hc;exact Aw hc
      obtain⟨a8,xo⟩:∃a8,a8=at'+8:=⟨_,rfl⟩;obtain⟨q,hq⟩:∃q,q=a8+j:=⟨_,rfl⟩;have wa:IntKind.i64.wrap ((at':Int)+8)=(a8:Int):=by have:=HT.out;rw[IntWalk.i64_in _ (by constructor<;>omega)];omega
      have wq:IntKind.i64.wrap ((a8:Int)+(j:Int))=(q:Int):=by have:=HT.out;rw[IntWalk.i64_in _ (by constructor<;>omega)];omega
      have q0:(0:Int)<=(q:Int):=by omega
      have q1:(q:Int)< (n:Int):=by have:=HT.out;omega
      have c0:wB.cell? ⟨g,0,none⟩=some (.slice (some ⟨b,0,none⟩) n n):=hJ.out.ar.blk.cell 0;have hbl:=hJ.out.ar.ln;have cb:∃y,wB.cell? ⟨b,q,none⟩=some y:=by refine⟨_,(hJ.out.ar.by'.cell q).trans (z2r (AD (by rw[<- hbl];have:=HT.out;omega)))⟩
      obtain⟨y,cb⟩:=cb;have fb:=hJ.out.ar.by'.frozen q
      have HN:Hid (VlI w g b n keys (.slice ea i ec) ((Q.newValue.1.put at' T.size).bytesTo (at'+8) (numL key) (j+1)) ((AR.new slabs).vals keys i).2 (wB.setCell ⟨b,q,none⟩ (.int .u8 c')).drew):=by
       have o:Only [b] wB (wB.setCell ⟨b,q,none⟩ (.int .u8 c')).drew:=((Only.refl _ _).setCell (Or.inl (by simp)) _).drew;have vg:(numL key).getD j 0=c':=by rw[Ag,<- HT.out.2.2.2.2,zt];rfl
       have xv:=z8o T c' (AJ zt)
       have hA:ArIs (wB.setCell ⟨b,q,none⟩ (.int .u8 c')).drew g b n ((Q.newValue.1.put at' T.size).bytesTo (at'+8) (numL key) (j+1)) (.slice none 0 0):=by
        refine⟨o.blk hJ.out.ar.blk (by have:=hJ.out.ar.ne;simpa using this),?_,?_,hJ.out.ar.big,?_⟩;·have h1:=(hJ.out.ar.by'.set_ q (.int .u8 c')).drew;rw[x0w] at h1;show Blk _ b _ (byC (List.set _ (at'+8+j) ((numL key).getD j 0)));rw[vg,show at'+8+j=q by omega];exact h1
        ·show n=(List.set _ _ _).length;rw[CP];exact hbl
        ·intro x hx;rcases CV hx with hx|hx;·exact hJ.out.ar.byt x hx
         ·rw[hx,vg];exact xv
       exact hid (hJ.out.arena S.out.1 S.out.2 hA (o.mono (by simp)))
      have h8:=hid hjt;have xq:(j:Int)<20:=by have:=HT.out;omega
      clear zt xo hq hbl hj;go_upto_region 17 with fail;go_region;clear c0 cb fb;go_wp2;go_roundw;case rel=>exact⟨j+1,h8.out,by go_num,HN⟩
      case measure=>simp[intOf];have:=h8.out;omega
     ·obtain rfl:j=T.size:=by omega
      have j1: ¬(T.size:Int)< (T.size:Int):=by omega
      obtain⟨Qv,qh⟩:∃x,x=(Q.newValue.1.put at' T.size).bytesTo (at'+8) (numL key) T.size:=⟨_,rfl⟩;rw[<- qh] at hJ;have y9:=hid qh;have ck:wB.cell? ⟨kb,off+i,none⟩=some (.int .u64 (key:Int)):=(hJ.out.bel.cell (p:=⟨kb,off+i,none⟩) x4.out.1).trans x4.out.2;have ye:IntKind.u64.wrap (at':Int)=(at':Int):=IntWalk.u64_in _ (by have:=HT.out;constructor<;>omega);have zi:Blk (wB.alloc (.cells #[.int .u64 (key:Int),.int .u64 (at':Int)] 166)) wB.heap.size 166 #[.int .u64 (key:Int),.int .u64 (at':Int)]:=Blk.new _ _ _;have kp:Only [] wB (wB.alloc (.cells #[.int .u64 (key:Int),.int .u64 (at':Int)] 166)):=(Only.refl _ _).alloc _;have he:=hJ.out.en;rw[HK.out.2.2.2.2.2.2.2.2] at he;have zp:w.heap.size<=wB.heap.size:=hJ.out.bel.size;obtain⟨v9,w9,ky,Y,z6,qt⟩:=z1i w.heap.size (wB.alloc (.cells #[.int .u64 (key:Int),.int .u64 (at':Int)] 166)) (.slice (some ⟨wB.heap.size,0,none⟩) 1 1) _ i (by rw[q7a,HK.out.2.2.2.2.2.2.2.2]) (key:Int) (at':Int) (.slice ea i ec) (Or.inr ⟨wB.heap.size,0,1,rfl,fun r u hr=>by rw[zi.cell (0+r),AQ,<- Ad];exact hr⟩) (by have h2:=HH.out;have h3:=HK.out.1;omega) (by rw[World.size_alloc];omega) (kp.own he (by simp));obtain⟨a9,c9,rfl⟩:=q0q Y;have o9:Only (Value.slice ea i ec).ownBlock.toList wB w9:=(kp.mono (fun _ h=>by cases h)).trans (Only.of_grown (f:=(Value.slice ea i ec).ownBlock.toList) z6 (fun y hy=>by simp[hy])) (fun y hy=>Or.inl hy)
      have HN:Hid (VlI w g b n keys (.slice a9 (i+1) c9) ((AR.new slabs).vals keys (i+1)).1 ((AR.new slabs).vals keys (i+1)).2 w9):=by
       have e1:((AR.new slabs).vals keys (i+1)).1=Qv:=by show((AR.new slabs).vals keys i).1.oneVal (keys.getD i 0)=_;rw[<- HK.out.2.2.2.2.1,<- HK.out.2.1,y9.out,HT.out.1];unfold AR.oneVal;rw[<- HK.out.2.2.2.2.2.2.2.1]
       have e2:((AR.new slabs).vals keys (i+1)).2=((AR.new slabs).vals keys i).2++[((key:Int),(at':Int))]:=by show((AR.new slabs).vals keys i).2++[((keys.getD i 0:Int),(((AR.new slabs).vals keys i).1.newValue.2:Int))]=_;rw[<- HK.out.2.2.2.2.1,<- HK.out.2.1,<- HK.out.2.2.2.2.2.2.2.1]
       rw[e1,e2];have km:=hJ.out.en;refine hid ⟨hJ.out.ar.only o9 (q4d km hJ.out.ar.blk (by decide)) (q4d km hJ.out.ar.by' (by decide)),?_,hJ.out.bel.trans (o9.below (fun y hy=> ?_) zp)⟩;·rw[AI,HK.out.2.2.2.2.2.2.2.2,Al];exact Y
       ·have y7:(Value.slice ea i ec).ownBlock=some y:=by simpa[Option.mem_toList] using hy
        exact(km.lt y y7).1
      have xp:Hid ((AR.new slabs).valsRoomy keys (i+1)):=hid (fun k hk=>by
       rcases(by omega:k<i\/k=i) with h|h;·exact hV.out k h
       ·rw[h,<- HK.out.2.2.2.2.1,<- HK.out.2.2.2.2.2.2.2.1];exact xn.out)
      have vv:=hid (by have:=HK.out.1;omega:i+1<=m);have y5:(i:Int)<=1000:=by have h2:=HH.out;have h3:=HK.out.1;omega
      clear hj hjt hJ qh zi kp he zp Y z6 qt o9;go_wp2;go_roundw;case rel=>exact⟨i+1,a9,c9,vv.out,by go_num,rfl,HN,xp⟩
      case measure=>simp[intOf];have:=vv.out;omega
  ·obtain rfl:i=m:=by omega
   have i1: ¬(i:Int)< (i:Int):=by omega
   have zh:=HH.out.2.2.2.2.2.2.2.1;obtain⟨R1,vd⟩:∃x,x=((AR.new slabs).vals keys i).1:=⟨_,rfl⟩;obtain⟨l1,zs⟩:∃x,x=((AR.new slabs).vals keys i).2:=⟨_,rfl⟩;have xb:∀x∈l1,U64 x.1/\U64 x.2:=by rw[zs];exact z1g (z2u HH.out.1 HH.out.2.1).1 (by rw[(z2u HH.out.1 HH.out.2.1).2];have:=HH.out.2.1;omega) HH.out.2.2.2.1 i hV.out
   rw[<- vd] at kh h9 hI;rw[<- zs] at z0 hI;have vq:=(z2u HH.out.1 HH.out.2.1).2;have kt:R1.bs.length=n:=by rw[h9,vq];exact HH.out.2.2.2.2.2.2.2.2.1.symm
   have vk:=hid (⟨vd,zs,zh⟩:_/\_/\_);have zl:=hid (fun k xl hr=>z1m (R:=R1) (per:=per) (lag:=lag) (l:=l1) kh (by rw[kt];have:=HH.out;omega) HH.out.2.2.2.2.1 (by rw[z0];have:=HH.out;omega) xb k xl hr);have xj:=hid kt;have x6:Hid (LlI w g b n (.slice ea i ec) (R1.lvls per lag l1 0).1 (R1.lvls per lag l1 0).2.1 (R1.lvls per lag l1 0).2.2 (.slice none 0 0) wA):=hid ⟨hI.out.ar,⟨[],rfl,World.ownsRow_nil _ _ _ _,fun i row hi=>by cases hi⟩,hI.out.en,hI.out.bel⟩;have zc:(R1.lvls per lag l1 0).2.2.length=i:=z0;have yd:=hid zc;clear hI kh h9 z0 hlt x2 zh vd zs xb vq kt zc;go_wp2;go_loopw [10,15] (fun ev kv wr=> ∃(k:Nat) (ea:Option Addr) (el ec:Nat) (lv:Value),kv= .int .i64 (k:Int)/\ev= .slice ea el ec/\Hid (k<=15)/\Hid (LlI w g b n (.slice ea el ec) (R1.lvls per lag l1 k).1 (R1.lvls per lag l1 k).2.1 (R1.lvls per lag l1 k).2.2 lv wr)/\Hid (∀j,j<k->R1.lvRoom per lag l1 j)/\Hid (∀j,j<k-> ¬R1.lvStop per lag l1 j)) (fun _ kv _=>16- (intOf kv).toNat);case atStart=>exact⟨0,ea,i,ec,.slice none 0 0,rfl,rfl,hid (by omega),x6,hid (fun j h=>absurd h (BP _)),hid (fun j h=>absurd h (BP _))⟩
   case round=>
    obtain⟨k,y0,el,xy,lv,rfl,rfl,k4,HJ,za,qf⟩:=hrel;clear x6;obtain⟨wB,rfl⟩:∃y,y=wr:=⟨_,rfl⟩;obtain⟨q1,q2,q3,q4,q5,q6⟩:=zl.out k (by have:=k4.out;omega) za.out;obtain⟨Q,hQ⟩:∃x,x=(R1.lvls per lag l1 k).1:=⟨_,rfl⟩;obtain⟨rows,h7⟩:∃x,x=(R1.lvls per lag l1 k).2.1:=⟨_,rfl⟩;obtain⟨ll,zz⟩:∃x,x=(R1.lvls per lag l1 k).2.2:=⟨_,rfl⟩;have k8:rows.length=k:=by rw[h7,z5a]
    rw[<- hQ,<- h7,<- zz] at HJ;rw[<- hQ] at q1 q2;rw[<- zz] at q3 q4 q5;have LV:=hid (v0o w.heap.size g b n Q lv rows k per ll (.slice y0 el xy) w.heap.size k4.out HH.out.2.2.2.2.1 HH.out.2.2.2.2.2.1 q3 q4 q5 wB HJ.out.ar q1 HJ.out.en HJ.out.bel.size HJ.out.lvs (by rw[k8];have:=k4.out;omega));have HQ:=hid (⟨hQ,h7,zz,k8⟩:_/\_/\_/\_);have yf:(k:Int)<=15:=by have:=k4.out;omega
    have yh:=hid q1;clear q1 q2 q3 q4 q5 q6 hQ h7 zz k8;go_wp2_with fail;refine LV.out.mono ?_;rintro e w2 ⟨z5,h2⟩
    have zy:Below w.heap.size w w2:=HJ.out.bel.trans (z5.below (fun y hy=>by
     rcases AN.1 hy with h|hy;·rw[h];exact S.out.1
     rcases AN.1 hy with h|hy;·rw[h];exact S.out.2
     ·obtain⟨vs,_,h3,_⟩:=HJ.out.lvs;exact(h3.lt y (by simpa[Option.mem_toList] using hy)).1) HJ.out.bel.size)
    rcases h2 with⟨rfl,_⟩|⟨rfl,kd,yi,k3,xg⟩;·have zq:=hid zy;clear zy z5;go_wp2;go_ret;exact⟨zq.out,Or.inl rfl⟩
    ·have U:R1.lvRoom per lag l1 k:=by
      unfold AR.lvRoom;rw[<- HQ.out.1,<- HQ.out.2.2.1];exact kd
     have ho:=hid U;obtain⟨row,k5⟩:∃x,x=Q.levelRow k per ll:=⟨_,rfl⟩;obtain⟨Q2,qg⟩:∃x,x=Q.level k per ll:=⟨_,rfl⟩;rw[<- k5] at xg;rw[<- qg] at k3;have hf:R1.lvls per lag l1 (k+1)=(Q2,rows++[row],q4n lag row):=by rw[qg,k5,HQ.out.1,HQ.out.2.1,HQ.out.2.2.1];rfl
     obtain⟨p1,p2,p3,p4,p5,p6⟩:=zl.out (k+1) (by omega) (fun j hj=>by
      rcases(by omega:j<k\/j=k) with h|h;·exact za.out j h
      ·rw[h];exact U)
     rw[hf] at p1 p2 p3 p5 p6;obtain⟨x3,ke,kn⟩:=p6 row (by simp);obtain⟨vs,v1,v2,v3⟩:=xg;have L:(rows++[row]).length=k+1:=by rw[AI,HQ.out.2.2.2];rfl
     obtain⟨gl,cl,rfl,g1,g2,g3,g4⟩:=q2e v2 (by rw[L];omega);obtain⟨rv,v4,v5,v6⟩:=v3 k row (by rw[Ac (by rw[HQ.out.2.2.2];exact AG _),HQ.out.2.2.2,Bz];rfl);obtain⟨ro,rc,rfl⟩:=q0q v6;obtain⟨rl,k8⟩:∃x,x=row.length:=⟨_,rfl⟩;have zk:0<rl:=by rw[k8];exact Bw.2 x3
     obtain⟨rb,rfl⟩:∃rb,ro=some ⟨rb,0,none⟩:=by
      rcases v6.2 with⟨h3,h4⟩|⟨rb,zf,M,h3,_⟩;·omega
      ·injection h3 with h3 _ _;exact⟨rb,h3⟩
     rw[<- k8] at v4 v6;have c7:w2.cell? ⟨g,7,none⟩=some (.slice (some ⟨gl,0,none⟩) (k+1) cl):=by have:=k3.blk.cell 7;rw[L] at this;exact this
     have ck:w2.cell? ⟨gl,k,none⟩=some (.slice (some ⟨rb,0,none⟩) rl rc):=by have:=g4 k _ v4;rw[AQ] at this;exact this
     rw[L] at k3;have v7:Hid (LmI w g b n (.slice none 0 0) Q2 (rows++[row]) 0 [] (.slice (some ⟨gl,0,none⟩) (k+1) cl) w2):=hid ⟨k3,⟨vs,v1,by rw[<- L];exact v2,v3⟩,World.ownsRow_nil _ _ _ _,zy⟩;obtain⟨x0,zj⟩:∃x,row[0]?=some x:=⟨_,AD (by omega)⟩;obtain⟨a0,zr⟩:∃a,a=x0.1:=⟨_,rfl⟩;have ht:w2.ownsRow w.heap.size 57 22 (.slice (some ⟨rb,0,none⟩) rl rc) rl (atsV row):=by unfold rowA at v6;rw[<- k8] at v6;exact v6
     have r0:w2.cell? ⟨rb,0,none⟩=some (.int .u64 (a0:Int)):=by rw[zr];have:=(ht.cellAt (0*22) (by omega)).trans (q6i zj 0 (by omega));exact this
     have kz:Hid (a0+192<=n/\n<=1000000/\(((rows++[row]).getD k []).getD 0 (0,q2w)).1=a0):=by
      refine hid ⟨?_,k3.big,?_⟩;·have:=(kn x0 (AJ zj)).1;rw[xj.out] at this;omega
      ·have e1:(rows++[row]).getD k []=row:=by
        rw[Ag,Ac (by rw[HQ.out.2.2.2];exact AG _),HQ.out.2.2.2,Bz];rfl
       rw[e1,Ag,zj,zr];rfl
     have I:=hid (⟨k8,zk,ke,ht,kn,p3,p5⟩:rl=row.length/\0<rl/\row.length<=1000/\w2.ownsRow w.heap.size 57 22 (.slice (some ⟨rb,0,none⟩) rl rc) rl (atsV row)/\(∀x∈row,x.1+192<=R1.bs.length/\q3b x.1 192/\0<x.1)/\(q4n lag row).length<=1000/\(∀x∈q4n lag row,U64 x.1/\U64 x.2));have k7:=hid (⟨by rw[hf],by rw[hf],by rw[hf],by rw[k5,HQ.out.1,HQ.out.2.2.1]⟩:Q2=(R1.lvls per lag l1 (k+1)).1/\rows++[row]=(R1.lvls per lag l1 (k+1)).2.1/\q4n lag row=(R1.lvls per lag l1 (k+1)).2.2/\row=(R1.lvls per lag l1 k).1.levelRow k per (R1.lvls per lag l1 k).2.2);have vy:=hid L;have xe:=hid (⟨zj,zr⟩:_/\_)
     have xx:Hid (∃M,Blk w2 gl 45 M/\M[k]?=some (.slice (some ⟨rb,0,none⟩) rl rc)):=by
      rcases v2.2 with⟨h3,_⟩|⟨g',zf,M,h3,h4,h5,_⟩;·cases h3
      ·injection h3 with h3 _ _;injection h3 with h3;injection h3 with h3;subst h3;have hB:Blk w2 gl 45 M:=h5;exact hid ⟨M,hB,by rw[<- hB.cell];exact ck⟩
     have yk:(0:Int)<=(k:Int):=by omega
     have xm:(k:Int)< (k:Int)+1:=by omega
     have yj:k<k+1:=by omega
     clear z5 zy kd U k5 qg hf p1 p2 p3 p4 p5 p6 x3 ke kn v1 v2 v3 v4 v5 v6 g1 g2 g3 g4 L k8 zk k3 zj zr ht;go_upto_region 24 with fail;go_cut [115] from 109 to 115 (fun c wd=>c= .bool (decide (rl=1\/k=15))/\Hid (wd=w2))
     case first=>
      by_cases s1:rl=1
      ·have b1:((rl:Int)==1)=true:=by simp[s1]
       have HD:=hid (show decide (rl=1\/k=15)=true by simp[s1]);clear s1;go_wp2;go_meet;exact⟨by rw[HD.out],hid rfl⟩
      ·have b1:((rl:Int)==1)=false:=by simp;omega
       by_cases s2:k=15
       ·have b2:((k:Int)==15)=true:=by simp[s2]
        have HD:=hid (show decide (rl=1\/k=15)=true by simp[s2]);clear s1 s2;go_wp2;go_meet;exact⟨by rw[HD.out],hid rfl⟩
       ·have b2:((k:Int)==15)=false:=by simp;omega
        have HD:=hid (show decide (rl=1\/k=15)=false by simp[s1,s2]);clear s1 s2;go_wp2;go_meet;exact⟨by rw[HD.out],hid rfl⟩
     case rest=>
      obtain⟨rfl,z7⟩:=hcut;obtain rfl:=z7.out;clear z7;by_cases st:rl=1\/k=15
      ·rw[AT st]
       have O:R1.lvStop per lag l1 k:=by
        unfold AR.lvStop;rw[<- k7.out.2.2.2];rcases st with h|h;·exact Or.inl (by rw[<- I.out.1];exact h)
        ·exact Or.inr (Or.inl h)
       clear st;have qx:=vy.out;have wk:IntKind.i64.wrap (((k+1:Nat):Int)-1)=(k:Int):=by rw[IntWalk.i64_in _ (by have:=k4.out;constructor<;>omega)];omega
       have ql:IntKind.i64.wrap ((k:Int)+1-1)=(k:Int):=by rw[IntWalk.i64_in _ (by have:=k4.out;constructor<;>omega)];omega
       have k0:(0:Int)<=(k:Int):=by omega
       have ya:(0:Int)< (rl:Int):=by have:=I.out.2.1;omega
       have y3:0<rl:=I.out.2.1;have k1:(k:Int)< (k:Int)+1:=by omega
       have k2:k<k+1:=by omega
       clear qx;go_upto_region 31 with fail;go_quiet (fail);obtain⟨wT,kk⟩:∃x,x=wc.drewN nq:=⟨_,rfl⟩;rw[<- kk];have kr:Below wc.heap.size wc wT:=by rw[kk];exact⟨rfl,rfl,rfl,AG _,fun _ _=>rfl⟩
       have h8:=hid (v7.out.bel' kr);have r0:wT.cell? ⟨rb,0,none⟩=some (.int .u64 (a0:Int)):=(kr.cell (p:=⟨rb,0,none⟩) (World.block_lt_of_cell? wc _ r0)).trans r0;have PT:=hid (q9i g b n Q2 (.slice (some ⟨gl,0,none⟩) (k+1) cl) 16 a0 (by have:=kz.out;omega) (by have:=kz.out;omega) wT h8.out.ar);have hl:=hid O;clear kk kr wk ql O;go_wp2_with fail;refine PT.out.mono ?_;rintro e wU ⟨rfl,zd,kx⟩
       have ko:Hid (v0w w slabs keys per lag (.returned (.pointer (some ⟨g,0,none⟩))) wU):=by
        refine hid ⟨h8.out.bel.trans (kx.below (fun y hy=>by rw[AF.1 hy];exact S.out.2) h8.out.bel.size),Or.inr ⟨g,b,n,_,_,_,rfl,S.out.1,S.out.2,zd,h8.out.lvs.only kx (fun y hy=>by rw[AF.1 hy];exact Or.inr ⟨_,_,h8.out.ar.by',by decide,by decide⟩),?_⟩⟩;obtain⟨z1,z2,z3⟩:=vk.out;unfold q8a;rw[<- z3,<- z1,<- z2];refine⟨hV.out,k,fun j hj=> ?_,qf.out,hl.out,k7.out.2.1,?_⟩
        ·rcases(by omega:j<k\/j=k) with h|h;·exact za.out j h
         ·rw[h];exact ho.out
        ·rw[k7.out.1,kz.out.2.2]
       clear zd kx;go_wp2;go_ret;exact ko.out
      ·rw[AK st];have vf:=hid st;obtain⟨cn,qk⟩:∃cn,cn=(q4n lag row).length:=⟨_,rfl⟩;have zb:cn=min (max 1 (rl-lag)) rl:=by rw[qk,I.out.1];unfold q4n;rw[AO,AU]
       have ha:=hid (⟨qk,zb⟩:_/\_);have xa:Hid (LmI w g b n (.slice none 0 0) Q2 (rows++[row]) 0 ((q4n lag row).take 0) (.slice (some ⟨gl,0,none⟩) (k+1) cl) wc/\wc.ownsRow w.heap.size 57 22 (.slice (some ⟨rb,0,none⟩) rl rc) rl (atsV row)/\ ∃M,Blk wc gl 45 M/\M[k]?=some (.slice (some ⟨rb,0,none⟩) rl rc)):=hid ⟨v7.out,I.out.2.2.2.1,xx.out⟩;clear st qk zb v7 c7 ck r0 xm;go_wp2;go_loopw [10,17] (fun ev iv wr=> ∃(q:Nat) (e1:Option Addr) (e2:Nat),q<=cn/\iv= .int .i64 (q:Int)/\ev= .slice e1 q e2/\Hid (LmI w g b n (.slice e1 q e2) Q2 (rows++[row]) q ((q4n lag row).take q) (.slice (some ⟨gl,0,none⟩) (k+1) cl) wr/\(wr.ownsRow w.heap.size 57 22 (.slice (some ⟨rb,0,none⟩) rl rc) rl (atsV row)/\ ∃M,Blk wr gl 45 M/\M[k]?=some (.slice (some ⟨rb,0,none⟩) rl rc)))) (fun _ iv _=>cn- (intOf iv).toNat);case atStart=>exact⟨0,none,0,Af _,rfl,rfl,xa⟩
       case round=>
        obtain⟨q,e1,e2,hq,rfl,rfl,hW⟩:=hrel;obtain⟨wD,rfl⟩:∃y,y=wr:=⟨_,rfl⟩;clear xa;have k9:q<=rl:=by have:=ha.out.2;omega
        have kj:=HH.out.2.2.2.2.2.2.1;have kg:rl<=1000:=by rw[I.out.1];exact I.out.2.2.1
        have wl:IntKind.i64.wrap ((rl:Int)- (lag:Int))=(rl:Int)- (lag:Int):=IntWalk.i64_in _ (by constructor<;>omega);have zx:=hid (⟨hq,k9,kg⟩:_/\_/\_);clear hq;go_upto_region 27 with fail;go_cut [131] from 116 to 131 (fun c wd=>c= .bool (decide (q<cn))/\Hid (wd=wD))
        case first=>
         by_cases s1:q<rl
         ·have d1:(q:Int)< (rl:Int):=by omega
          by_cases s2:q=0
          ·have b2:((q:Int)==0)=true:=by simp[s2]
           have HD:=hid (show decide (q<cn)=true by have:=ha.out.2;exact AT (by omega));clear s2 k9 kj kg;go_wp2;go_meet;exact⟨by rw[HD.out],hid rfl⟩
          ·have b2:((q:Int)==0)=false:=by simp;omega
           by_cases s3:(q:Int)< (rl:Int)- (lag:Int);·have HD:=hid (show decide (q<cn)=true by have:=ha.out.2;exact AT (by omega));clear s2 k9 kj kg;go_wp2;go_meet;exact⟨by rw[HD.out],hid rfl⟩
           ·have HD:=hid (show decide (q<cn)=false by have:=ha.out.2;exact AK (by omega));clear s2 k9 kj kg;go_wp2;go_meet;exact⟨by rw[HD.out],hid rfl⟩
         ·have d1: ¬(q:Int)< (rl:Int):=by omega
          have HD:=hid (show decide (q<cn)=false by have:=ha.out.2;exact AK (by omega));clear k9 kj kg;go_wp2;go_meet;exact⟨by rw[HD.out],hid rfl⟩
        case rest=>
         obtain⟨rfl,z7⟩:=hcut;obtain rfl:=z7.out;clear z7 wl;by_cases qq:q<cn
         ·rw[AT qq];have qj:q<rl:=by have:=ha.out.2;omega
          obtain⟨y,hy⟩:∃y,row[q]?=some y:=⟨_,AD (by rw[<- I.out.1];exact qj)⟩;have xk:wc.cell? ⟨rb,q*22+2,none⟩=some (.int .u64 y.2.low):=(hW.out.2.1.cellAt (q*22+2) (by omega)).trans (q6i hy 2 (by omega));have y2:wc.cell? ⟨rb,q*22,none⟩=some (.int .u64 (y.1:Int)):=(hW.out.2.1.cellAt (q*22) (by omega)).trans (q6i hy 0 (by omega));have he:=hW.out.1.en;have xc:((q4n lag row).take q).length=q:=by rw[AU];have:=ha.out.1;omega
          have zp:w.heap.size<=wc.heap.size:=hW.out.1.bel.size;obtain⟨WA,zm⟩:∃x,x=(wc.alloc (.cells #[.int .u64 y.2.low,.int .u64 (y.1:Int)] 166)).drew:=⟨_,rfl⟩;have zi:Blk WA wc.heap.size 166 #[.int .u64 y.2.low,.int .u64 (y.1:Int)]:=by rw[zm];exact(Blk.new _ _ _).drew
          have kp:Only [] wc WA:=by rw[zm];exact((Only.refl _ _).alloc _).drew
          have xh:WA.heap.size=wc.heap.size+1:=by rw[zm];exact World.size_alloc _ _
          obtain⟨v9,w9,ky,Y,z6,qt⟩:=z1i w.heap.size WA (.slice (some ⟨wc.heap.size,0,none⟩) 1 1) (((q4n lag row).take q).flatMap entC) q (by rw[q7a,xc]) y.2.low (y.1:Int) (.slice e1 q e2) (Or.inr ⟨wc.heap.size,0,1,rfl,fun r u hr=>by rw[zi.cell (0+r),AQ,<- Ad];exact hr⟩) (by have h2:=zx.out;omega) (by rw[xh];omega) (kp.own he (by simp));obtain⟨a9,c9,rfl⟩:=q0q Y;have o9:Only (Value.slice e1 q e2).ownBlock.toList wc w9:=(kp.mono (fun _ h=>by cases h)).trans (Only.of_grown (f:=(Value.slice e1 q e2).ownBlock.toList) z6 (fun y hy=>by simp[hy])) (fun y hy=>Or.inl hy);have vz:∀z,z∈(Value.slice e1 q e2).ownBlock.toList->w.heap.size<=z:=fun z hz=>(he.lt z (by simpa[Option.mem_toList] using hz)).1
          have HN:Hid (LmI w g b n (.slice a9 (q+1) c9) Q2 (rows++[row]) (q+1) ((q4n lag row).take (q+1)) (.slice (some ⟨gl,0,none⟩) (k+1) cl) w9/\w9.ownsRow w.heap.size 57 22 (.slice (some ⟨rb,0,none⟩) rl rc) rl (atsV row)/\ ∃M,Blk w9 gl 45 M/\M[k]?=some (.slice (some ⟨rb,0,none⟩) rl rc)):=by
           have z8:(q4n lag row)[q]?=some (y.2.low,(y.1:Int)):=by unfold q4n;rw[AM,AV,if_pos (by have:=ha.out.2;have:=I.out.1;omega),hy];rfl
           refine hid ⟨⟨hW.out.1.ar.only o9 (q4d he hW.out.1.ar.blk (by decide)) (q4d he hW.out.1.ar.by' (by decide)),hW.out.1.lvs.only o9 (fun z hz=> ?_),?_,hW.out.1.bel.trans (o9.below vz zp)⟩,o9.own hW.out.2.1 (z3m hW.out.2.1 he (by decide)),(by obtain⟨M,z1,z2⟩:=hW.out.2.2;exact⟨M,o9.blk z1 (q4d he z1 (by decide)),z2⟩)⟩
           ·have q7:(Value.slice e1 q e2).ownBlock=some z:=by simpa[Option.mem_toList] using hz
            rcases he.2 with⟨h1,_⟩|⟨g',zf,M,h1,h2,h3,_⟩;·rw[h1] at q7;cases q7
            ·rw[h1] at q7;have:g'=z:=by simpa[Value.ownBlock] using q7
             subst this;exact Or.inr ⟨_,_,h3,by decide,by decide⟩
           ·rw[Ai,z8,Option.toList_some,Al];exact Y
          have qm:=hid ky;have y1:=hid zm;have xi:=hid (by omega:q+1<=cn);have ki:(q:Int)<=1000:=by have:=zx.out;omega
          have j1:(q:Int)< (rl:Int):=by omega
          have j0:(0:Int)<=(q:Int):=by omega
          clear he xc zp zi kp xh Y z6 qt o9 vz ky hy zm;clear k9 kj kg;go_upto_region 29 with fail;refine Code.wp_mono (Q:=z9d _) z9d.imp ?_;refine z1q (X:= ?X) (fun key=> ?_) ?_
          rotate_left
          ·go_region_law (refine q1k rfl (.tmp 134) (.tmp 147) 162 162 rfl _ _ (by simp[Act.eval,Act.put]) (by simp[Act.eval,Act.put]) (y1.out▸qm.out) ?_)
           all_goals
            try go_simp
            try simp only[Act.put,List.setIfInBounds_toArray,List.set_cons_zero,List.set_cons_succ]
            exact key.out
          refine z9d.normal ?_;clear xk y2;go_wp2;go_roundw;case rel=>exact⟨q+1,a9,c9,xi.out,by go_num,rfl,HN⟩
          case measure=>simp[intOf];have:=xi.out;omega
         ·rw[AK qq];obtain rfl:q=cn:=by have:=zx.out;omega
          have z8:(q4n lag row).take q=q4n lag row:=AY (by rw[<- ha.out.1];exact AG _);rw[z8] at hW;have ki:(q:Int)<=1000:=by have:=zx.out;omega
          by_cases qo:q=1
          ·have b3:((q:Int)==1)=true:=by simp[qo]
           have O:R1.lvStop per lag l1 k:=by unfold AR.lvStop;exact Or.inr (Or.inr (by rw[<- k7.out.2.2.1,<- ha.out.1];exact qo))
           have y6:=hid hW.out.1;have c7:wc.cell? ⟨g,7,none⟩=some (.slice (some ⟨gl,0,none⟩) (k+1) cl):=hW.out.1.ar.blk.cell 7;have ck:wc.cell? ⟨gl,k,none⟩=some (.slice (some ⟨rb,0,none⟩) rl rc):=by obtain⟨M,z1,z2⟩:=hW.out.2.2;exact(z1.cell k).trans z2
           have r0:wc.cell? ⟨rb,0,none⟩=some (.int .u64 (a0:Int)):=by have h5:=(hW.out.2.1.cellAt (0*22) (by have:=I.out.2.1;omega)).trans (q6i xe.out.1 0 (by omega));rw[xe.out.2];exact h5
           clear qo qq z8 hW k9 kj kg;have qx:=vy.out;have wk:IntKind.i64.wrap (((k+1:Nat):Int)-1)=(k:Int):=by rw[IntWalk.i64_in _ (by have:=k4.out;constructor<;>omega)];omega
           have ql:IntKind.i64.wrap ((k:Int)+1-1)=(k:Int):=by rw[IntWalk.i64_in _ (by have:=k4.out;constructor<;>omega)];omega
           have k0:(0:Int)<=(k:Int):=by omega
           have ya:(0:Int)< (rl:Int):=by have:=I.out.2.1;omega
           have y3:0<rl:=I.out.2.1;have k1:(k:Int)< (k:Int)+1:=by omega
           have k2:k<k+1:=by omega
           clear qx;go_upto_region 31 with fail;go_quiet (fail);obtain⟨wT,kk⟩:∃x,x=wc.drewN nq:=⟨_,rfl⟩;rw[<- kk];have kr:Below wc.heap.size wc wT:=by rw[kk];exact⟨rfl,rfl,rfl,AG _,fun _ _=>rfl⟩
           have h8:=hid (y6.out.bel' kr);have r0:wT.cell? ⟨rb,0,none⟩=some (.int .u64 (a0:Int)):=(kr.cell (p:=⟨rb,0,none⟩) (World.block_lt_of_cell? wc _ r0)).trans r0;have PT:=hid (q9i g b n Q2 (.slice (some ⟨gl,0,none⟩) (k+1) cl) 16 a0 (by have:=kz.out;omega) (by have:=kz.out;omega) wT h8.out.ar);have hl:=hid O;clear kk kr wk ql O;go_wp2_with fail;refine PT.out.mono ?_;rintro e wU ⟨rfl,zd,kx⟩
           have ko:Hid (v0w w slabs keys per lag (.returned (.pointer (some ⟨g,0,none⟩))) wU):=by
            refine hid ⟨h8.out.bel.trans (kx.below (fun y hy=>by rw[AF.1 hy];exact S.out.2) h8.out.bel.size),Or.inr ⟨g,b,n,_,_,_,rfl,S.out.1,S.out.2,zd,h8.out.lvs.only kx (fun y hy=>by rw[AF.1 hy];exact Or.inr ⟨_,_,h8.out.ar.by',by decide,by decide⟩),?_⟩⟩;obtain⟨z1,z2,z3⟩:=vk.out;unfold q8a;rw[<- z3,<- z1,<- z2];refine⟨hV.out,k,fun j hj=> ?_,qf.out,hl.out,k7.out.2.1,?_⟩
            ·rcases(by omega:j<k\/j=k) with h|h;·exact za.out j h
             ·rw[h];exact ho.out
            ·rw[k7.out.1,kz.out.2.2]
           clear zd kx;go_wp2;go_ret;exact ko.out
          ·have b3:((q:Int)==1)=false:=by simp;omega
           have yc:Hid (LlI w g b n (.slice e1 q e2) (R1.lvls per lag l1 (k+1)).1 (R1.lvls per lag l1 (k+1)).2.1 (R1.lvls per lag l1 (k+1)).2.2 (.slice (some ⟨gl,0,none⟩) (k+1) cl) wc):=by obtain⟨z1,z2,z3,_⟩:=k7.out;rw[<- z1,<- z2,<- z3];unfold LlI;rw[<- ha.out.1];exact hid hW.out.1
           have z9:Hid (k+1<=15):=hid (by have h1:=vf.out;have h2:=k4.out;omega)
           have qy:Hid (∀j,j<k+1->R1.lvRoom per lag l1 j):=hid (fun j hj=>by
            rcases(by omega:j<k\/j=k) with h|h;·exact za.out j h
            ·rw[h];exact ho.out)
           have qe:Hid (∀j,j<k+1-> ¬R1.lvStop per lag l1 j):=hid (fun j hj=>by
            rcases(by omega:j<k\/j=k) with h|h;·exact qf.out j h
            ·rw[h];unfold AR.lvStop;rw[<- k7.out.2.2.2,<- k7.out.2.2.1,<- I.out.1,<- ha.out.1];intro hs;have:=vf.out;rcases hs with h|h|h;·exact this (Or.inl h)
             ·exact this (Or.inr h)
             ·exact qo h)
           clear qo qq z8 hW k9 kj kg;go_wp2;go_roundw;case rel=>exact⟨k+1,e1,q,e2,_,by go_num,rfl,z9,yc,qy,qe⟩
           case measure=>simp[intOf];have:=z9.out;omega
end Go.Proofs.YtibiekfjbibpbaaGreat
