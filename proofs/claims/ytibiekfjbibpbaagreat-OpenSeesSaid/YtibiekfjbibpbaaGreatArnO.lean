import Derived.Test.YtibiekfjbibpbaaGreatByteW
import Derived.Deep.CutRange
set_option maxRecDepth 100000
set_option maxHeartbeats 2000000
set_option linter.unusedVariables false
set_option linter.unusedSimpArgs false
namespace Go.Proofs.YtibiekfjbibpbaaGreat
open Go.RowKit
structure AR where
 bs:List Int
 slabs:Nat
 used:Nat
 value:Nat
 values:Nat
 node:Nat
 nodes:Nat
def arC (b n:Nat) (R:AR) (lv:Value):Array Value:= #[.slice (some ⟨b,0,none⟩) n n,.int .i64 (R.slabs:Int),.int .i64 (R.used:Int),.int .i64 (R.value:Int),.int .i64 (R.values:Int),.int .i64 (R.node:Int),.int .i64 (R.nodes:Int),lv]
structure ArIs (W:World) (g b n:Nat) (R:AR) (lv:Value):Prop where
 blk:Blk W g 39 (arC b n R lv)
 by':Blk W b 5 (byC R.bs)
 ln:n=R.bs.length
 big:n<=1000000
 byt:∀x∈R.bs,0<=x/\x<256
theorem ArIs.bel {W W':World} {g b n:Nat} {R:AR} {lv:Value} (h:ArIs W g b n R lv) (hb:Below W.heap.size W W'):ArIs W' g b n R lv:=⟨h.blk.bel hb,h.by'.bel hb,h.ln,h.big,h.byt⟩
theorem ArIs.ne {W:World} {g b n:Nat} {R:AR} {lv:Value} (h:ArIs W g b n R lv):g≠b:=by intro e;have h1:W.heap[g]?=some (.cells _ 39 (0,0)):=h.blk;have h2:W.heap[b]?=some (.cells _ 5 (0,0)):=h.by';rw[e,h2] at h1;injection h1 with h1;injection h1 with _ h1 _;cases h1
def AR.put (R:AR) (a x:Nat):AR:={ R with bs:=putW R.bs a x }
theorem ArIs.put {W W':World} {g b n:Nat} {R:AR} {lv:Value} (h:ArIs W g b n R lv) {a x:Nat} (ha:a+8<=n) (hk:Blk W' b 5 (byC (putW R.bs a x))) (ho:Only [b] W W'):ArIs W' g b n (R.put a x) lv:=⟨ho.blk h.blk (by have:=h.ne;simpa using this),hk,by have:=h.ln;show n=(putW R.bs a x).length;rw[q3n x (by omega)];exact this,h.big,q7z h.byt a x⟩
structure PtI (w:World) (b:Nat) (bs:List Int) (a x i:Nat) (W:World):Prop where
 by':Blk W b 5 (byC (z3h bs a x i))
 only:Only [b] w W
theorem q9i (g b n:Nat) (R:AR) (lv:Value) (a x:Nat) (hx:x<18446744073709551616) (ha:a+8<=n) (w:World) (h:ArIs w g b n R lv):
  Calls Tryz.prog 114 #[.pointer (some ⟨g,0,none⟩),.int .i64 (a:Int),.int .u64 (x:Int)] w fun e w'=>e= .returned (.tuple #[])/\ArIs w' g b n (R.put a x) lv/\Only [b] w w':=by
 have M:Hid (PtI w b R.bs a x 0 w):=hid ⟨by rw[x2o];exact h.by',Only.refl _ _⟩;have H:=hid h;have HA:=hid (⟨by rw[<- h.ln];exact ha,h.big,h.ln⟩:a+8<=R.bs.length/\n<=1000000/\n=R.bs.length);have HX:=hid hx;clear h ha hx;go_enter Tryz.func114,Tryz.ntmps114;go_wp2;go_loopw [2,6] (fun xv iv wr=> ∃i:Nat,i<=8/\iv= .int .i64 (i:Int)/\xv= .int .u64 ((x/256^i:Nat):Int)/\Hid (PtI w b R.bs a x i wr)) (fun _ iv _=>8- (intOf iv).toNat);case atStart=>exact⟨0,Af _,rfl,by simp,M⟩
 case round=>
  obtain⟨i,hi,rfl,rfl,hI⟩:=hrel;obtain⟨wA,rfl⟩:∃y,y=wr:=⟨_,rfl⟩;by_cases hi8:i<8
  ·have i0:(0:Int)<=(i:Int):=by omega
   have i1:(i:Int)<8:=by omega
   have L:x/256^i<=x:=Cy _ _;have e2:Hid (x/256^ (i+1)=x/256^i/256):=by show _=_;rw[Cr,CN]
   have eb:Hid (q0g x i=((x/256^i:Nat):Int)% 256):=by show _=_;unfold q0g;omega
   obtain⟨V,hV⟩:∃V,V=x/256^i:=⟨_,rfl⟩;rw[<- hV] at e2 eb L ⊢;have v0:(0:Int)<=(V:Int):=by omega
   have v1:(V:Int)<18446744073709551616:=by have:=HX.out;omega
   have u8:IntKind.u8.wrap (V:Int)=(V:Int)% 256:=by rw[IntKind.wrap_u8]
   obtain⟨q,hq⟩:∃q,q=a+i:=⟨_,rfl⟩;have c0:wA.cell? ⟨g,0,none⟩=some (.slice (some ⟨b,0,none⟩) n n):=(hI.out.only.blk H.out.blk (by have:=H.out.ne;simpa using this)).cell 0;obtain⟨y,hy⟩:=v1r (bs:=R.bs) (a:=a) (x:=x) (i:=i) (by have:=HA.out;omega);have cb:wA.cell? ⟨b,q,none⟩=some (.int .u8 y):=by rw[hq];exact(hI.out.by'.cell (a+i)).trans (z2r hy)
   have fb:=hI.out.by'.frozen q;have wa:IntKind.i64.wrap ((a:Int)+(i:Int))=(q:Int):=by rw[IntWalk.i64_in _ (by have:=HA.out;constructor<;>omega)];omega
   have q0:(0:Int)<=(q:Int):=by omega
   have q1:(q:Int)< (n:Int):=by have:=HA.out;omega
   have hN:Hid (PtI w b R.bs a x (i+1) (wA.setCell ⟨b,q,none⟩ (.int .u8 ((V:Int)% 256)))):=by have o:Only [b] wA (wA.setCell ⟨b,q,none⟩ (.int .u8 ((V:Int)% 256))):=(Only.refl _ _).setCell (Or.inl (by simp)) _;have hb:=hI.out.by'.set_ q (.int .u8 ((V:Int)% 256));rw[x0w,hq,<- eb.out,x3e (by have:=HA.out;omega)] at hb;refine hid ⟨?_,hI.out.only.trans o (fun _ h=>Or.inl h)⟩;rw[hq,<- eb.out];exact hb
   have I:=hid hi8;clear hy hq hi8 hi hI hV L;go_wp2;go_roundw;case rel=>exact⟨i+1,I.out,by go_num,by rw[e2.out];try(congr 1),hN⟩
   case measure=>simp[intOf];have:=I.out;omega
  ·obtain rfl:i=8:=by omega
   have i1: ¬((8:Nat):Int)<8:=by omega
   clear hi hi8;go_wp2;refine bodyPost_end (v:= .tuple #[]) (by simp[results,Tryz.results114,go_sem]) rfl ?_;exact⟨rfl,H.out.put (by have:=HA.out;omega) (by have:=hI.out.by';rw[v5o] at this;exact this) hI.out.only,hI.out.only⟩
theorem x3y {bs:List Int} (hb:∀x∈bs,0<=x/\x<256) (a:Nat):0<=wdN bs a/\wdN bs a<18446744073709551616:=by
 have h2:=q1h (bs:=(bs.drop a).take 8) (fun x hx=>hb x (Ak (Ab hx)))
 have h3:(2:Int)^ (8*((bs.drop a).take 8).length)<=2^64:=by
  have hp:=As (n:=2) (by decide) (show 8*((bs.drop a).take 8).length<=64 by rw[AU];omega)
  exact_mod_cast hp
 unfold wdN;omega
theorem v6g (g b n:Nat) (R:AR) (lv:Value) (a:Nat) (ha:a+8<=n) (w:World) (h:ArIs w g b n R lv):
  Calls Tryz.prog 215 #[.pointer (some ⟨g,0,none⟩),.int .i64 (a:Int)] w fun e w'=>e= .returned (.int .u64 (wdN R.bs a))/\w=w':=by
 obtain⟨cs,I⟩:∃cs,cs=(R.bs.drop a).take 8:=⟨_,rfl⟩;have U:=h.ln;have O:cs.length=8:=by rw[I];simp;omega
 have M:∀j c,cs[j]?=some c->w.cell? ⟨b,a+j,none⟩=some (.int .u8 c)/\0<=c/\c<256:=by
  intro j c hj;have Y:j<8:=by have:=(AE.1 hj).1;omega
  rw[I,AV,if_pos Y,Ar] at hj;exact⟨(h.by'.cell (a+j)).trans (z2r hj),h.byt c (AJ hj)⟩
 have c0:w.cell? ⟨g,0,none⟩=some (.slice (some ⟨b,0,none⟩) n n):=h.blk.cell 0;have h1:=h.big;have HW:=hid (show wdN R.bs a=leW cs by unfold wdN;rw[I]);have S:=hid M;have L:=hid O;clear h M O I U;go_enter Tryz.func215,Tryz.ntmps215;go_wp2;go_loop [5,6] (fun v i=> ∃k:Nat,k<=8/\i= .int .i64 ((k:Int)-1)/\v= .int .u64 (leW (cs.drop k))) (fun _ i=>((intOf i)+1).toNat);case atStart=>refine⟨8,by omega,rfl,?_⟩;rw[BO (by have:=L.out;omega)];rfl
 case round=>
  obtain⟨k,hk,rfl,rfl⟩:=hrel;by_cases hlt:0<k
  ·obtain⟨j,rfl⟩:∃j,k=j+1:=⟨k-1,by omega⟩;have ej:(((j+1:Nat)):Int)-1=(j:Int):=by omega
   rw[ej];obtain⟨c,hc⟩:∃c,cs[j]?=some c:=⟨_,AD (by have:=L.out;omega)⟩;obtain⟨y0,y1,y2⟩:=S.out j c hc;have hw:Hid (leW (cs.drop j)=c+256*leW (cs.drop (j+1))):=by show _=_;obtain⟨h3,h5⟩:=AE.1 hc;rw[Au h3,h5];rfl
   have hb:=q1h (bs:=cs.drop (j+1)) (fun z hz=>by obtain⟨m,hm⟩:=Bu (Ak hz);exact(S.out m z hm).2)
   have hp:(2:Int)^ (8*(cs.drop (j+1)).length)<=2^56:=by
    have h4:=As (n:=2) (by omega) (show 8*(cs.drop (j+1)).length<=56 by simp;have:=L.out;omega)
    exact_mod_cast h4
   have h2:((2:Int)^56)=72057594037927936:=by decide
   obtain⟨V,hV⟩:∃V,V=leW (cs.drop (j+1)):=⟨_,rfl⟩;rw[<- hV] at hw hb ⊢;have v0:0<=V:=hb.1;have v1:V*256+c<18446744073709551616:=by omega
   have v2:V*256<18446744073709551616:=by omega
   have i0:(0:Int)<=(j:Int):=by omega
   obtain⟨q,hq⟩:∃q,q=a+j:=⟨_,rfl⟩;rw[<- hq] at y0;have wq:IntKind.i64.wrap ((a:Int)+(j:Int))=(q:Int):=by rw[IntWalk.i64_in _ (by constructor<;>omega)];omega
   have i1:(0:Int)<=(q:Int):=by omega
   have i2:(q:Int)< (n:Int):=by omega
   have i4:IntKind.u64.wrap (V*256)=V*256:=IntWalk.u64_in _ (by omega);have i5:IntKind.u64.wrap (V*256+c)=V*256+c:=IntWalk.u64_in _ (by omega);have i6:IntKind.u64.wrap c=c:=IntWalk.u64_in _ (by omega);clear hc hb hp h2 hV hq;go_wp2;go_round;case rel=>exact⟨j,by omega,by first|rfl|go_num,by rw[hw.out];try(congr 1;omega)⟩
   case measure=>simp[intOf]
  ·obtain rfl:k=0:=by omega
   have i1: ¬((((0:Nat)):Int)-1≥0):=by omega
   rw[CW];go_wp2;go_ret;exact⟨by rw[HW.out];rfl,rfl⟩
structure AROk (R:AR):Prop where
 len:R.bs.length=1024*(R.slabs+1)
 s64:R.slabs<=64
 us:R.used<=R.slabs
 val:R.value<=R.used
 nod:R.node<=R.used
 vs:R.values<=15
 ns:R.nodes<=5
 byt:∀x∈R.bs,0<=x/\x<256
 fresh:∀s,R.used<s->s<=R.slabs->wdN R.bs (1024*s+8)=0
 hv:R.value≠0->wdN R.bs (1024*R.value+8)=2^R.values-1
 hn:R.node≠0->wdN R.bs (1024*R.node+8)=2^R.nodes-1
 two:R.value≠0->R.node≠0->R.value≠R.node
def AR.slab (R:AR) (c:Nat):AR×Nat:=if R.used=R.slabs then(R,0) else({ R with used:=R.used+1,bs:=putW R.bs (1024*(R.used+1)) c },R.used+1)
def AR.taken (R:AR) (s j:Nat):AR:=R.put (1024*s+8) ((wdN R.bs (1024*s+8)).toNat+2^j)
theorem v0s (b n:Nat) (R:AR) (lv:Value) (x:Nat):(arC b n R lv).setIfInBounds 2 (.int .i64 (x:Int))=arC b n { R with used:=x } lv:=rfl
theorem v0z (b n:Nat) (R:AR) (lv:Value) (x:Nat):(arC b n R lv).setIfInBounds 3 (.int .i64 (x:Int))=arC b n { R with value:=x } lv:=rfl
theorem x1t (b n:Nat) (R:AR) (lv:Value) (x:Nat):(arC b n R lv).setIfInBounds 4 (.int .i64 (x:Int))=arC b n { R with values:=x } lv:=rfl
theorem v1n (b n:Nat) (R:AR) (lv:Value) (x:Nat):(arC b n R lv).setIfInBounds 5 (.int .i64 (x:Int))=arC b n { R with node:=x } lv:=rfl
theorem x2k (b n:Nat) (R:AR) (lv:Value) (x:Nat):(arC b n R lv).setIfInBounds 6 (.int .i64 (x:Int))=arC b n { R with nodes:=x } lv:=rfl
theorem ArIs.set {W:World} {g b n:Nat} {R R':AR} {lv:Value} (h:ArIs W g b n R lv) (i:Nat) (v:Value) (he:(arC b n R lv).setIfInBounds i v=arC b n R' lv) (hb:R'.bs=R.bs):ArIs (W.setCell ⟨g,i,none⟩ v) g b n R' lv/\Only [g] W (W.setCell ⟨g,i,none⟩ v):=by have o:Only [g] W (W.setCell ⟨g,i,none⟩ v):=(Only.refl _ _).setCell (Or.inl (by simp)) _;have hs:=h.blk.set_ i v;rw[he] at hs;exact⟨⟨hs,by rw[hb];exact o.blk h.by' (by have:=h.ne;simp;exact fun e=>this e.symm),by rw[hb];exact h.ln,h.big,by rw[hb];exact h.byt⟩,o⟩
theorem x6h (g b n:Nat) (R:AR) (lv:Value) (c:Nat) (hc:c<18446744073709551616) (w:World) (h:ArIs w g b n R lv) (M:AROk R):
  Calls Tryz.prog 174 #[.pointer (some ⟨g,0,none⟩),.int .u64 (c:Int)] w fun e w'=>e= .returned (.int .i64 ((R.slab c).2:Int))/\ArIs w' g b n (R.slab c).1 lv/\Only [g,b] w w':=by
 have c1:w.cell? ⟨g,1,none⟩=some (.int .i64 (R.slabs:Int)):=h.blk.cell 1;have c2:w.cell? ⟨g,2,none⟩=some (.int .i64 (R.used:Int)):=h.blk.cell 2;have f2:=h.blk.frozen 2;have h2:=h.ln;have O:=M.len;have h4:=M.us;have L:=M.s64;by_cases he:R.used=R.slabs
 ·have HR:=hid (show R.slab c=(R,0) by unfold AR.slab;rw[if_pos he]);have e0:((R.used:Int)==(R.slabs:Int))=true:=by simp[he]
  have H:=hid h;obtain⟨u,hu⟩:∃u,u=R.used:=⟨_,rfl⟩;obtain⟨sl,S⟩:∃sl,sl=R.slabs:=⟨_,rfl⟩;rw[<- hu] at c2 e0;rw[<- S] at c1 e0;clear h M he h2 O h4 L hu S f2;go_enter Tryz.func174,Tryz.ntmps174;go_upto_region 1 with fail;go_quiet (fail);go_wp2;go_ret;rw[HR.out];exact⟨rfl,H.out.bel (by(repeat(first|exact Below.refl _ _|(refine ba ?_ _)|(refine Below.drew ?_)|(refine below_drewN ?_ _)|(refine Below.alloc ?_ (by first|omega|simp<;>omega) _)|(refine Below.setCell ?_ (by first|omega|simp<;>omega) _)|(refine bx ?_ (by assumption))|(refine Below.trans ?_ (Below.mono (by assumption) (by first|omega|simp<;>omega)))))),Only.of_below (by(repeat(first|exact Below.refl _ _|(refine ba ?_ _)|(refine Below.drew ?_)|(refine below_drewN ?_ _)|(refine Below.alloc ?_ (by first|omega|simp<;>omega) _)|(refine Below.setCell ?_ (by first|omega|simp<;>omega) _)|(refine bx ?_ (by assumption))|(refine Below.trans ?_ (Below.mono (by assumption) (by first|omega|simp<;>omega)))))) _⟩
 ·have hlt:R.used+1<=R.slabs:=by omega
  have HR:=hid (show R.slab c=(({ R with used:=R.used+1 }:AR).put (1024*(R.used+1)) c,R.used+1) by unfold AR.slab AR.put;rw[if_neg he]);have e0:((R.used:Int)==(R.slabs:Int))=false:=by simp;omega
  obtain⟨u,hu⟩:∃u,u=R.used:=⟨_,rfl⟩;obtain⟨sl,S⟩:∃sl,sl=R.slabs:=⟨_,rfl⟩;obtain⟨W0,I⟩:∃W0,W0=w.drewN 1:=⟨_,rfl⟩;rw[<- hu] at c2 e0;rw[<- S] at c1 e0;have wu:IntKind.i64.wrap ((u:Int)+1)=((u+1:Nat):Int):=by rw[IntWalk.i64_in _ (by constructor<;>omega)];omega
  have wm:IntKind.i64.wrap (1024*((u+1:Nat):Int))=((1024*(u+1):Nat):Int):=by rw[IntWalk.i64_in _ (by constructor<;>omega)];omega
  have ST:=hid (fun(W:World) (hb:Below w.heap.size w W)=>(h.bel hb).set 2 (.int .i64 ((u+1:Nat):Int)) (v0s b n R lv (u+1)) rfl);have PT:=hid (fun(W:World) (hW:ArIs W g b n { R with used:=u+1 } lv)=>q9i g b n { R with used:=u+1 } lv (1024*(u+1)) c hc (by omega) W hW);have HU:=hid hu;have H:=hid h;clear h M he h2 O h4 L hu S hlt I;go_enter Tryz.func174,Tryz.ntmps174;go_upto_region 1 with fail;go_quiet (fail);obtain⟨W0,I⟩:∃W0,W0=w.drewN nq:=⟨_,rfl⟩;have h1:Below w.heap.size w W0:=by rw[I];(repeat(first|exact Below.refl _ _|(refine ba ?_ _)|(refine Below.drew ?_)|(refine below_drewN ?_ _)|(refine Below.alloc ?_ (by first|omega|simp<;>omega) _)|(refine Below.setCell ?_ (by first|omega|simp<;>omega) _)|(refine bx ?_ (by assumption))|(refine Below.trans ?_ (Below.mono (by assumption) (by first|omega|simp<;>omega)))))
  have d2:W0.cell? ⟨g,2,none⟩=some (.int .i64 (u:Int)):=by rw[I];exact c2
  have hg:W0.frozen? ⟨g,2,none⟩=false:=by rw[I];exact f2
  rw[<- I];obtain⟨U,h7⟩:=ST.out W0 h1;have ha:(W0.setCell ⟨g,2,none⟩ (.int .i64 ((u+1:Nat):Int))).cell? ⟨g,2,none⟩=some (.int .i64 ((u+1:Nat):Int)):=U.blk.cell 2;have h6:=hid (PT.out _ U);have h5:=hid ((Only.of_below h1 [g]).trans h7 (fun _ h=>Or.inl h));obtain⟨q,hq⟩:∃q,q=u+1:=⟨_,rfl⟩;rw[<- hq] at wu wm ha h6 h5;have HQ:=hid hq;clear U h7 h1 I c1 c2 f2 e0 hq;go_wp2_with fail;refine h6.out.mono ?_;rintro e w2 ⟨rfl,Y,h3⟩;have hf:w2.cell? ⟨g,2,none⟩=some (.int .i64 (q:Int)):=Y.blk.cell 2;have h9:=hid Y;have h8:=hid h3;clear Y h3;go_wp2;go_ret;rw[HR.out];refine⟨?_,?_,?_⟩;·have:=HQ.out;have:=HU.out;subst this;rw[HQ.out];rfl
  ·have:=h9.out;rw[HQ.out,HU.out] at this;exact this
  ·exact(h5.out.mono (by simp)).trans (h8.out.mono (g:=[g,b]) (by simp)) (fun _ h=>Or.inl h)
theorem x2x (g b n:Nat) (R:AR) (lv:Value) (s j:Nat) (hs:1024*s+16<=n) (hj:j<=62) (hw:(wdN R.bs (1024*s+8)).toNat+2^j<18446744073709551616) (w:World) (h:ArIs w g b n R lv):
  Calls Tryz.prog 175 #[.pointer (some ⟨g,0,none⟩),.int .i64 (s:Int),.int .i64 (j:Int)] w fun e w'=>e= .returned (.tuple #[])/\ArIs w' g b n (R.taken s j) lv/\Only [b] w w':=by
 have L:=h.big;have O:=x3y h.byt (1024*s+8);obtain⟨a,ha⟩:∃a,a=1024*s+8:=⟨_,rfl⟩;obtain⟨m,hm⟩:∃m:Nat,wdN R.bs a=(m:Int):=⟨(wdN R.bs a).toNat,by rw[ha];omega⟩;have WR:=v6g g b n R lv a (by omega) w h;rw[hm] at WR;have WR:=hid WR;rw[<- ha,hm,BG] at hw;have PT:=hid (q9i g b n R lv a (m+2^j) hw (by omega) w h);have w1:IntKind.i64.wrap (1024*(s:Int))=1024*(s:Int):=by rw[IntWalk.i64_in _ (by constructor<;>omega)]
 have w2:IntKind.i64.wrap (1024*(s:Int)+8)=(a:Int):=by rw[IntWalk.i64_in _ (by constructor<;>omega)];omega
 have HT:=hid (show R.taken s j=R.put a (m+2^j) by unfold AR.taken;rw[<- ha,hm,BG]);have HA:=hid (⟨ha,hw⟩:_/\_);clear h hs O ha hm hw L;go_enter Tryz.func175,Tryz.ntmps175;go_wp2;go_loopw [7,8] (fun bv iv wr=> ∃k:Nat,k<=j/\iv= .int .i64 (k:Int)/\bv= .int .u64 ((2^k:Nat):Int)/\w=wr) (fun _ iv _=>j- (intOf iv).toNat);case atStart=>exact⟨0,Af _,rfl,rfl,rfl⟩
 case round=>
  obtain⟨k,hk,rfl,rfl,rfl⟩:=hrel;by_cases hkj:k<j
  ·have i1:(k:Int)< (j:Int):=by omega
   have i0:(0:Int)<=(k:Int):=by omega
   have hp:=As (n:=2) (by decide) (show k+1<=63 by omega);have M:2^63=9223372036854775808:=by decide
   have e2:2^ (k+1)=2*2^k:=by rw[Cr,Nat.mul_comm]
   obtain⟨B,hB⟩:∃B,B=2^k:=⟨_,rfl⟩;rw[e2,M,<- hB] at hp;rw[<- hB] at e2;rw[<- hB];have wb:IntKind.u64.wrap (2*(B:Int))=((2*B:Nat):Int):=by rw[IntWalk.u64_in _ (by constructor<;>omega)];omega
   have HE:=hid e2;have HK:=hid hkj;clear hkj hk hp M e2 hB;go_wp2;go_roundw;case rel=>exact⟨k+1,HK.out,by go_num,by rw[HE.out];first|done|rfl|(congr 1;omega),by first|rfl|trivial⟩
   case measure=>simp[intOf];have:=HK.out;omega
  ·obtain rfl:j=k:=by omega
   have i1: ¬(j:Int)< (j:Int):=by omega
   have I:=HA.out.2;obtain⟨B,hB⟩:∃B,B=2^j:=⟨_,rfl⟩;rw[<- hB] at PT HT I ⊢;have wb:IntKind.u64.wrap ((m:Int)+(B:Int))=((m+B:Nat):Int):=by rw[IntWalk.u64_in _ (by constructor<;>omega)];omega
   obtain⟨X,hX⟩:∃X,X=m+B:=⟨_,rfl⟩;rw[<- hX] at PT HT wb;clear hk hkj hB I hX;go_wp2_with fail;refine WR.out.mono ?_;rintro e w3 ⟨rfl,rfl⟩;go_wp2_with fail;refine PT.out.mono ?_;rintro e w4 ⟨rfl,hA,ho⟩;have HR:=hid (⟨hA,ho⟩:_/\_);clear hA ho;go_wp2;refine bodyPost_end (v:= .tuple #[]) (by simp[results,Tryz.results175,go_sem]) rfl ?_;rw[HT.out];exact⟨rfl,HR.out.1,HR.out.2⟩
def AR.newValue0 (R:AR):AR:=if R.value=0\/R.values=15 then{ (R.slab 1).1 with value:=(R.slab 1).2,values:=0 } else R
def AR.newValue (R:AR):AR×Nat:=if R.newValue0.value=0 then(R.newValue0,0) else({ R.newValue0.taken R.newValue0.value R.newValue0.values with values:=R.newValue0.values+1 },1024*R.newValue0.value+64*(R.newValue0.values+1))
def AR.newNode0 (R:AR):AR:=if R.node=0\/R.nodes=5 then{ (R.slab 3).1 with node:=(R.slab 3).2,nodes:=0 } else R
def AR.newNode (R:AR):AR×Nat:=if R.newNode0.node=0 then(R.newNode0,0) else({ R.newNode0.taken R.newNode0.node R.newNode0.nodes with nodes:=R.newNode0.nodes+1 },1024*R.newNode0.node+64+192*R.newNode0.nodes)
theorem AROk.slab {R:AR} (h:AROk R) {c:Nat}:(R.slab c).1.bs.length=R.bs.length/\(R.slab c).1.slabs=R.slabs/\(R.slab c).1.used<=R.slabs/\R.used<=(R.slab c).1.used/\(R.slab c).2<=(R.slab c).1.used/\(∀x∈(R.slab c).1.bs,0<=x/\x<256)/\
  (R.slab c).1.value=R.value/\(R.slab c).1.values=R.values/\(R.slab c).1.node=R.node/\(R.slab c).1.nodes=R.nodes/\
  (∀s,wdN (R.slab c).1.bs (1024*s+8)=wdN R.bs (1024*s+8))/\((R.slab c).2≠0->R.used< (R.slab c).2):=by
 have I:=h.len;unfold AR.slab;by_cases he:R.used=R.slabs;·rw[if_pos he];exact⟨rfl,rfl,h.us,AG _,Af _,h.byt,rfl,rfl,rfl,rfl,fun _=>rfl,fun h=>absurd rfl h⟩
 ·rw[if_neg he];have L:=h.us;have hb:1024*(R.used+1)+8<=R.bs.length:=by omega
  refine⟨q3n _ hb,rfl,by show R.used+1<=_;omega,by show R.used<=R.used+1;omega,AG _,q7z h.byt _ _,rfl,rfl,rfl,rfl,fun s=>z2z hb (by omega),fun _=>by show R.used<R.used+1;omega⟩
theorem AROk.newValue0 {R:AR} (h:AROk R):AROk R.newValue0:=by
 unfold AR.newValue0;by_cases hv:R.value=0\/R.values=15
 ·rw[if_pos hv];obtain⟨q1,q2,q3,q4,q5,q6,q7,q8,q9,O,L,M⟩:=h.slab (c:=1);refine⟨by rw[show({ (R.slab 1).1 with value:=(R.slab 1).2,values:=0 }:AR).bs.length=(R.slab 1).1.bs.length from rfl,q1,h.len];show _=1024*((R.slab 1).1.slabs+1);rw[q2],by show(R.slab 1).1.slabs<=64;rw[q2];exact h.s64,by show(R.slab 1).1.used<=(R.slab 1).1.slabs;rw[q2];exact q3,q5,by show(R.slab 1).1.node<=(R.slab 1).1.used;rw[q9];exact AH h.nod q4,Af _,by show(R.slab 1).1.nodes<=5;rw[O];exact h.ns,q6,fun s h1 h2=> ?_,fun hn=> ?_,fun hn=> ?_,fun h1 h2=> ?_⟩;·show wdN (R.slab 1).1.bs _=0;have S:(R.slab 1).1.used<s:=h1;have U:s<=(R.slab 1).1.slabs:=h2;rw[L];exact h.fresh s (by omega) (by rw[<- q2];exact U)
  ·show wdN (R.slab 1).1.bs (1024*(R.slab 1).2+8)=2^0-1;have I:(R.slab 1).2≠0:=hn;rw[L,h.fresh _ (M I) (by omega)];rfl
  ·show wdN (R.slab 1).1.bs (1024*(R.slab 1).1.node+8)=2^ (R.slab 1).1.nodes-1;have I:(R.slab 1).1.node≠0:=hn;rw[q9] at I ⊢;rw[L,O];exact h.hn I
  ·show(R.slab 1).2≠(R.slab 1).1.node;have S:(R.slab 1).2≠0:=h1;have:=M S;have:=h.nod;rw[q9];omega
 ·rw[if_neg hv];exact h
theorem AROk.newNode0 {R:AR} (h:AROk R):AROk R.newNode0:=by
 unfold AR.newNode0;by_cases hv:R.node=0\/R.nodes=5
 ·rw[if_pos hv];obtain⟨q1,q2,q3,q4,q5,q6,q7,q8,q9,S,M,O⟩:=h.slab (c:=3);refine⟨by rw[show({ (R.slab 3).1 with node:=(R.slab 3).2,nodes:=0 }:AR).bs.length=(R.slab 3).1.bs.length from rfl,q1,h.len];show _=1024*((R.slab 3).1.slabs+1);rw[q2],by show(R.slab 3).1.slabs<=64;rw[q2];exact h.s64,by show(R.slab 3).1.used<=(R.slab 3).1.slabs;rw[q2];exact q3,by show(R.slab 3).1.value<=(R.slab 3).1.used;rw[q7];exact AH h.val q4,q5,by show(R.slab 3).1.values<=15;rw[q8];exact h.vs,Af _,q6,fun s h1 h2=> ?_,fun hn=> ?_,fun hn=> ?_,fun h1 h2=> ?_⟩;·show wdN (R.slab 3).1.bs _=0;have U:(R.slab 3).1.used<s:=h1;have L:s<=(R.slab 3).1.slabs:=h2;rw[M];exact h.fresh s (by omega) (by rw[<- q2];exact L)
  ·show wdN (R.slab 3).1.bs (1024*(R.slab 3).1.value+8)=2^ (R.slab 3).1.values-1;have I:(R.slab 3).1.value≠0:=hn;rw[q7] at I ⊢;rw[M,q8];exact h.hv I
  ·show wdN (R.slab 3).1.bs (1024*(R.slab 3).2+8)=2^0-1;have I:(R.slab 3).2≠0:=hn;rw[M,h.fresh _ (O I) (by omega)];rfl
  ·show(R.slab 3).1.value≠(R.slab 3).2;have L:(R.slab 3).2≠0:=h2;have:=O L;have:=h.val;rw[q7];omega
 ·rw[if_neg hv];exact h
theorem q5p (R:AR):R.newValue0.value≠0->R.newValue0.values≠15:=by
 unfold AR.newValue0;by_cases hv:R.value=0\/R.values=15;·rw[if_pos hv];intro _;show(0:Nat)≠15;decide
 ·rw[if_neg hv];intro _ h;exact hv (Or.inr h)
theorem q6d (R:AR):R.newNode0.node≠0->R.newNode0.nodes≠5:=by
 unfold AR.newNode0;by_cases hv:R.node=0\/R.nodes=5;·rw[if_pos hv];intro _;show(0:Nat)≠5;decide
 ·rw[if_neg hv];intro _ h;exact hv (Or.inr h)
theorem z1r {k:Nat} (h:k<=15):(2:Nat)^k<=32768:=As (n:=2) (by decide) h
theorem z9e (g b n:Nat) (R:AR) (lv:Value) (w:World) (h:ArIs w g b n R lv) (ha:AROk R):
  Calls Tryz.prog 115 #[.pointer (some ⟨g,0,none⟩)] w fun e w'=>e= .returned (.int .i64 (R.newValue.2:Int))/\ArIs w' g b n R.newValue.1 lv/\Only [g,b] w w':=by
 have c3:w.cell? ⟨g,3,none⟩=some (.int .i64 (R.value:Int)):=h.blk.cell 3;have c4:w.cell? ⟨g,4,none⟩=some (.int .i64 (R.values:Int)):=h.blk.cell 4;have f3:=h.blk.frozen 3;have SL:=hid (show Calls Tryz.prog 174 #[.pointer (some ⟨g,0,none⟩),.int .u64 1] w fun e w'=>e= .returned (.int .i64 ((R.slab 1).2:Int))/\ArIs w' g b n (R.slab 1).1 lv/\Only [g,b] w w' from x6h g b n R lv 1 (by omega) w h ha);have I:=ha.newValue0;have L:=q5p R;have M:=I.len;have O:n=R.bs.length:=h.ln;have k5:=hid (ha.slab (c:=1));obtain⟨R0,hf⟩:∃R0,R0=R.newValue0:=⟨_,rfl⟩;rw[<- hf] at I L M;have hm:=hid hf;have hi:=hid (⟨I,L⟩:_/\_);have HN:=hid (show R.newValue=if R0.value=0 then(R0,0) else({ R0.taken R0.value R0.values with values:=R0.values+1 },1024*R0.value+64*(R0.values+1)) by unfold AR.newValue;rw[hf]);have H:=hid h;have h1:=hid (fun(hv:R.value=0\/R.values=15)=>show R.newValue0={ (R.slab 1).1 with value:=(R.slab 1).2,values:=0 } by unfold AR.newValue0;rw[if_pos hv]);have hk:=hid (fun(hv: ¬(R.value=0\/R.values=15))=>show R.newValue0=R by unfold AR.newValue0;rw[if_neg hv]);clear ha I L M O hf h;obtain⟨x3,hg⟩:∃x,x=R.value:=⟨_,rfl⟩;obtain⟨x4,hj⟩:∃x,x=R.values:=⟨_,rfl⟩;rw[<- hg] at c3 h1 hk;rw[<- hj] at c4 h1 hk;have k3:=hid (⟨hg,hj⟩:_/\_);clear hg hj;go_enter Tryz.func115,Tryz.ntmps115;go_upto_region 1 with fail;go_cut [14] from 3 to 14 (fun s wc=>s= .bool (decide (x3=0\/x4=15))/\Hid (wc=w))
 case first=>
  by_cases q1:x3=0
  ·have b1:((x3:Int)==0)=true:=by simp[q1]
   have HD:=hid (show decide (x3=0\/x4=15)=true by simp[q1]);clear q1;go_wp2_with fail;go_meet;exact⟨by rw[HD.out],rfl⟩
  ·have b1:((x3:Int)==0)=false:=by simp;omega
   by_cases q2:x4=15
   ·have b2:((x4:Int)==15)=true:=by simp[q2]
    have HD:=hid (show decide (x3=0\/x4=15)=true by simp[q2]);clear q1 q2;go_wp2_with fail;go_meet;exact⟨by rw[HD.out],rfl⟩
   ·have b2:((x4:Int)==15)=false:=by simp;omega
    have HD:=hid (show decide (x3=0\/x4=15)=false by simp[q1,q2]);clear q1 q2;go_wp2_with fail;go_meet;exact⟨by rw[HD.out],rfl⟩
 case rest=>
  obtain⟨rfl,hy⟩:=hcut;obtain rfl:=hy.out;clear hy;have hO:ArIs wc g b n R lv:=H.out;go_upto_if 14 with fail;go_cut [] from 3 to 22 (fun wd=>Hid (ArIs wd g b n R0 lv/\Only [g,b] wc wd))
  case first=>
   by_cases q:x3=0\/x4=15
   ·rw[AT q];have HY:=hid (h1.out q);clear q c3 c4 f3;go_wp2_with fail;refine SL.out.mono ?_;rintro e w2 ⟨rfl,he,hs⟩;obtain⟨sl,hh⟩:∃sl,sl=(R.slab 1).2:=⟨_,rfl⟩;rw[<- hh];obtain⟨S,h8⟩:=he.set 3 (.int .i64 (sl:Int)) (v0z b n _ lv sl) rfl;obtain⟨h2,h7⟩:=S.set 4 (.int .i64 ((0:Nat):Int)) (x1t b n _ lv 0) rfl;have d3:∃x,w2.cell? ⟨g,3,none⟩=some x:=⟨_,he.blk.cell 3⟩;obtain⟨y3,d3⟩:=d3;have k7:=he.blk.frozen 3;have d4:∃x,(w2.setCell ⟨g,3,none⟩ (.int .i64 (sl:Int))).cell? ⟨g,4,none⟩=some x:=⟨_,S.blk.cell 4⟩;obtain⟨y4,d4⟩:=d4;have k4:=S.blk.frozen 4;have HF:Hid (ArIs ((w2.setCell ⟨g,3,none⟩ (.int .i64 (sl:Int))).setCell ⟨g,4,none⟩ (.int .i64 0)) g b n R0 lv/\Only [g,b] wc ((w2.setCell ⟨g,3,none⟩ (.int .i64 (sl:Int))).setCell ⟨g,4,none⟩ (.int .i64 0))):=by rw[hm.out,HY.out,<- hh];exact hid ⟨h2,(hs.trans (h8.mono (g:=[g,b]) (by simp)) (fun _ h=>Or.inl h)).trans (h7.mono (g:=[g,b]) (by simp)) (fun _ h=>Or.inl h)⟩
    clear he hs S h8 h2 h7 hh hO;go_wp2;go_meet;exact HF
   ·rw[AK q];have HY:=hid (hk.out q);clear q c3 c4 f3;go_wp2;go_meet;exact hid ⟨by rw[hm.out,HY.out];exact hO,Only.refl _ _⟩
  case rest=>
   obtain⟨hA,ho⟩:=hcut.out;obtain⟨I,L⟩:=hi.out;have h6:=hA.big;have O:n=R0.bs.length:=hA.ln;have M:=I.len;have h5:=I.s64;have ht:=I.us;have U:=I.val;have hr:=I.vs;have c3:wc.cell? ⟨g,3,none⟩=some (.int .i64 (R0.value:Int)):=hA.blk.cell 3;have c4:wc.cell? ⟨g,4,none⟩=some (.int .i64 (R0.values:Int)):=hA.blk.cell 4;by_cases qv:R0.value=0
   ·have b3:((R0.value:Int)==0)=true:=by simp[qv]
    have HR:=hid (show R.newValue=(R0,0) by rw[HN.out,if_pos qv]);have HA:=hid (⟨hA,ho⟩:_/\_);obtain⟨vv,h4⟩:∃x,x=R0.value:=⟨_,rfl⟩;rw[<- h4] at c3 b3;clear I L hA ho hcut hO h6 O M h5 ht U hr qv h4 c4;go_wp2;go_ret;rw[HR.out];exact⟨rfl,HA.out.1,HA.out.2⟩
   ·have b3:((R0.value:Int)==0)=false:=by simp;omega
    have hlt:R0.values<=15-1:=by have:=L qv;omega
    have HR:=hid (show R.newValue=({ R0.taken R0.value R0.values with values:=R0.values+1 },1024*R0.value+64*(R0.values+1)) by rw[HN.out,if_neg qv]);have hl:=I.hv qv;have hx:=z1r (show R0.values<=15 by omega);have hp:((2:Int)^R0.values)=((2^R0.values:Nat):Int):=by simp
    have hz:1<=2^R0.values:=DB;have TK:∀W,ArIs W g b n R0 lv->_:=fun W hW=>x2x g b n R0 lv R0.value R0.values (by omega) (by omega) (by rw[hl,hp];generalize 2^R0.values=P at hx hz ⊢;omega) W hW;have TK:=hid TK;have HA:=hid hA;have HO:=hid ho;obtain⟨vv,h4⟩:∃x,x=R0.value:=⟨_,rfl⟩;obtain⟨vs,h3⟩:∃x,x=R0.values:=⟨_,rfl⟩;rw[<- h4] at c3 b3 TK HR U;rw[<- h3] at c4 TK HR hlt;obtain⟨Y,hY⟩:∃Y,Y=vs+1:=⟨_,rfl⟩;have HY:=hid hY;have wi:IntKind.i64.wrap ((vs:Int)+1)=(Y:Int):=by rw[IntWalk.i64_in _ (by constructor<;>omega)];omega
    have k1:=hid h4;have k0:=hid h3;obtain⟨X,hX⟩:∃X:Nat,X=1024*vv+64*(vs+1):=⟨_,rfl⟩;have w1:IntKind.i64.wrap (1024*(vv:Int))=1024*(vv:Int):=by rw[IntWalk.i64_in _ (by constructor<;>omega)]
    have w2:IntKind.i64.wrap (64*(Y:Int))=64*(Y:Int):=by rw[IntWalk.i64_in _ (by constructor<;>omega)]
    have w3:IntKind.i64.wrap (1024*(vv:Int)+64*(Y:Int))=(X:Int):=by rw[IntWalk.i64_in _ (by constructor<;>omega)];omega
    have HX:=hid hX;clear hX;clear I L hA ho hcut hO h6 O M h5 ht hr U qv h4 h3 hl hp hx hz hlt hY;go_upto_region 6 with fail;refine wp_region_still_tail 9 (by kernel_rfl) (by kernel_rfl) ?_;simp only[List.take_succ_cons,List.take_zero,List.drop_succ_cons,List.drop_zero];repeat still_step
    refine wpStill_nil ?_;change wpList _ _ _ _ _ wc.drew;have HD:=hid (HA.out.bel (W':=wc.drew) ⟨rfl,rfl,rfl,AG _,fun _ _=>rfl⟩);have hq:=hid (HO.out.drew);have TK:=hid (TK.out _ HD.out);clear c3 c4;generalize wc.drew=w2 at TK HD hq ⊢;go_wp2_with fail;refine TK.out.mono ?_;rintro e w3 ⟨rfl,S,h8⟩;obtain⟨h2,h7⟩:=S.set 4 (.int .i64 (Y:Int)) (x1t b n _ lv Y) rfl;have c4:w3.cell? ⟨g,4,none⟩=some (.int .i64 (vs:Int)):=by have:=S.blk.cell 4;rw[k0.out];exact this
    have f4:=S.blk.frozen 4;have d3:(w3.setCell ⟨g,4,none⟩ (.int .i64 (Y:Int))).cell? ⟨g,3,none⟩=some (.int .i64 (vv:Int)):=by have:=h2.blk.cell 3;rw[k1.out];exact this
    have d4:(w3.setCell ⟨g,4,none⟩ (.int .i64 (Y:Int))).cell? ⟨g,4,none⟩=some (.int .i64 (Y:Int)):=h2.blk.cell 4;have HF:=hid (⟨h2,(hq.out.trans (h8.mono (g:=[g,b]) (by simp)) (fun _ h=>Or.inl h)).trans (h7.mono (g:=[g,b]) (by simp)) (fun _ h=>Or.inl h)⟩:_/\_);clear S h8 h2 h7;go_upto_region 8 with fail;generalize w3.setCell ⟨g,4,none⟩ (.int .i64 (Y:Int))=w5 at HF d3 d4 ⊢;go_quiet (fail);go_wp2;go_ret;rw[HR.out];refine⟨?_,?_,?_⟩;·show Ending.returned (Value.int .i64 (X:Int))=Ending.returned (Value.int .i64 ((1024*vv+64*(vs+1):Nat):Int));rw[HX.out]
    ·have h9:=HF.out.1.bel (W':=w5.drewN nq) (by(repeat(first|exact Below.refl _ _|(refine ba ?_ _)|(refine Below.drew ?_)|(refine below_drewN ?_ _)|(refine Below.alloc ?_ (by first|omega|simp<;>omega) _)|(refine Below.setCell ?_ (by first|omega|simp<;>omega) _)|(refine bx ?_ (by assumption))|(refine Below.trans ?_ (Below.mono (by assumption) (by first|omega|simp<;>omega))))));rw[HY.out] at h9;exact h9
    ·exact HF.out.2.trans (Only.of_below (by(repeat(first|exact Below.refl _ _|(refine ba ?_ _)|(refine Below.drew ?_)|(refine below_drewN ?_ _)|(refine Below.alloc ?_ (by first|omega|simp<;>omega) _)|(refine Below.setCell ?_ (by first|omega|simp<;>omega) _)|(refine bx ?_ (by assumption))|(refine Below.trans ?_ (Below.mono (by assumption) (by first|omega|simp<;>omega)))))) _) (fun _ h=>Or.inl h)
theorem x4j (g b n:Nat) (R:AR) (lv:Value) (w:World) (h:ArIs w g b n R lv) (ha:AROk R):
  Calls Tryz.prog 176 #[.pointer (some ⟨g,0,none⟩)] w fun e w'=>e= .returned (.int .i64 (R.newNode.2:Int))/\ArIs w' g b n R.newNode.1 lv/\Only [g,b] w w':=by
 have c3:w.cell? ⟨g,5,none⟩=some (.int .i64 (R.node:Int)):=h.blk.cell 5;have c4:w.cell? ⟨g,6,none⟩=some (.int .i64 (R.nodes:Int)):=h.blk.cell 6;have f3:=h.blk.frozen 5;have SL:=hid (show Calls Tryz.prog 174 #[.pointer (some ⟨g,0,none⟩),.int .u64 3] w fun e w'=>e= .returned (.int .i64 ((R.slab 3).2:Int))/\ArIs w' g b n (R.slab 3).1 lv/\Only [g,b] w w' from x6h g b n R lv 3 (by omega) w h ha);have I:=ha.newNode0;have L:=q6d R;have M:=I.len;have O:n=R.bs.length:=h.ln;have k5:=hid (ha.slab (c:=3));obtain⟨R0,hf⟩:∃R0,R0=R.newNode0:=⟨_,rfl⟩;rw[<- hf] at I L M;have hm:=hid hf;have hi:=hid (⟨I,L⟩:_/\_);have HN:=hid (show R.newNode=if R0.node=0 then(R0,0) else({ R0.taken R0.node R0.nodes with nodes:=R0.nodes+1 },1024*R0.node+64+192*R0.nodes) by unfold AR.newNode;rw[hf]);have H:=hid h;have h1:=hid (fun(hv:R.node=0\/R.nodes=5)=>show R.newNode0={ (R.slab 3).1 with node:=(R.slab 3).2,nodes:=0 } by unfold AR.newNode0;rw[if_pos hv]);have hk:=hid (fun(hv: ¬(R.node=0\/R.nodes=5))=>show R.newNode0=R by unfold AR.newNode0;rw[if_neg hv]);clear ha I L M O hf h;obtain⟨x3,hg⟩:∃x,x=R.node:=⟨_,rfl⟩;obtain⟨x4,hj⟩:∃x,x=R.nodes:=⟨_,rfl⟩;rw[<- hg] at c3 h1 hk;rw[<- hj] at c4 h1 hk;have k3:=hid (⟨hg,hj⟩:_/\_);clear hg hj;go_enter Tryz.func176,Tryz.ntmps176;go_upto_region 1 with fail;go_cut [14] from 3 to 14 (fun s wc=>s= .bool (decide (x3=0\/x4=5))/\Hid (wc=w))
 case first=>
  by_cases q1:x3=0
  ·have b1:((x3:Int)==0)=true:=by simp[q1]
   have HD:=hid (show decide (x3=0\/x4=5)=true by simp[q1]);clear q1;go_wp2_with fail;go_meet;exact⟨by rw[HD.out],rfl⟩
  ·have b1:((x3:Int)==0)=false:=by simp;omega
   by_cases q2:x4=5
   ·have b2:((x4:Int)==5)=true:=by simp[q2]
    have HD:=hid (show decide (x3=0\/x4=5)=true by simp[q2]);clear q1 q2;go_wp2_with fail;go_meet;exact⟨by rw[HD.out],rfl⟩
   ·have b2:((x4:Int)==5)=false:=by simp;omega
    have HD:=hid (show decide (x3=0\/x4=5)=false by simp[q1,q2]);clear q1 q2;go_wp2_with fail;go_meet;exact⟨by rw[HD.out],rfl⟩
 case rest=>
  obtain⟨rfl,hy⟩:=hcut;obtain rfl:=hy.out;clear hy;have hO:ArIs wc g b n R lv:=H.out;go_upto_if 14 with fail;go_cut [] from 3 to 22 (fun wd=>Hid (ArIs wd g b n R0 lv/\Only [g,b] wc wd))
  case first=>
   by_cases q:x3=0\/x4=5
   ·rw[AT q];have HY:=hid (h1.out q);clear q c3 c4 f3;go_wp2_with fail;refine SL.out.mono ?_;rintro e w2 ⟨rfl,he,hs⟩;obtain⟨sl,hh⟩:∃sl,sl=(R.slab 3).2:=⟨_,rfl⟩;rw[<- hh];obtain⟨S,h8⟩:=he.set 5 (.int .i64 (sl:Int)) (v1n b n _ lv sl) rfl;obtain⟨h2,h7⟩:=S.set 6 (.int .i64 ((0:Nat):Int)) (x2k b n _ lv 0) rfl;have d3:∃x,w2.cell? ⟨g,5,none⟩=some x:=⟨_,he.blk.cell 5⟩;obtain⟨y3,d3⟩:=d3;have k7:=he.blk.frozen 5;have d4:∃x,(w2.setCell ⟨g,5,none⟩ (.int .i64 (sl:Int))).cell? ⟨g,6,none⟩=some x:=⟨_,S.blk.cell 6⟩;obtain⟨y4,d4⟩:=d4;have k4:=S.blk.frozen 6;have HF:Hid (ArIs ((w2.setCell ⟨g,5,none⟩ (.int .i64 (sl:Int))).setCell ⟨g,6,none⟩ (.int .i64 0)) g b n R0 lv/\Only [g,b] wc ((w2.setCell ⟨g,5,none⟩ (.int .i64 (sl:Int))).setCell ⟨g,6,none⟩ (.int .i64 0))):=by rw[hm.out,HY.out,<- hh];exact hid ⟨h2,(hs.trans (h8.mono (g:=[g,b]) (by simp)) (fun _ h=>Or.inl h)).trans (h7.mono (g:=[g,b]) (by simp)) (fun _ h=>Or.inl h)⟩
    clear he hs S h8 h2 h7 hh hO;go_wp2;go_meet;exact HF
   ·rw[AK q];have HY:=hid (hk.out q);clear q c3 c4 f3;go_wp2;go_meet;exact hid ⟨by rw[hm.out,HY.out];exact hO,Only.refl _ _⟩
  case rest=>
   obtain⟨hA,ho⟩:=hcut.out;obtain⟨I,L⟩:=hi.out;have h6:=hA.big;have O:n=R0.bs.length:=hA.ln;have M:=I.len;have h5:=I.s64;have ht:=I.us;have U:=I.nod;have hr:=I.ns;have c3:wc.cell? ⟨g,5,none⟩=some (.int .i64 (R0.node:Int)):=hA.blk.cell 5;have c4:wc.cell? ⟨g,6,none⟩=some (.int .i64 (R0.nodes:Int)):=hA.blk.cell 6;by_cases qv:R0.node=0
   ·have b3:((R0.node:Int)==0)=true:=by simp[qv]
    have HR:=hid (show R.newNode=(R0,0) by rw[HN.out,if_pos qv]);have HA:=hid (⟨hA,ho⟩:_/\_);obtain⟨vv,h4⟩:∃x,x=R0.node:=⟨_,rfl⟩;rw[<- h4] at c3 b3;clear I L hA ho hcut hO h6 O M h5 ht U hr qv h4 c4;go_wp2;go_ret;rw[HR.out];exact⟨rfl,HA.out.1,HA.out.2⟩
   ·have b3:((R0.node:Int)==0)=false:=by simp;omega
    have hlt:R0.nodes<=5-1:=by have:=L qv;omega
    have HR:=hid (show R.newNode=({ R0.taken R0.node R0.nodes with nodes:=R0.nodes+1 },1024*R0.node+64+192*R0.nodes) by rw[HN.out,if_neg qv]);have hl:=I.hn qv;have hx:=z1r (show R0.nodes<=15 by omega);have hp:((2:Int)^R0.nodes)=((2^R0.nodes:Nat):Int):=by simp
    have hz:1<=2^R0.nodes:=DB;have TK:∀W,ArIs W g b n R0 lv->_:=fun W hW=>x2x g b n R0 lv R0.node R0.nodes (by omega) (by omega) (by rw[hl,hp];generalize 2^R0.nodes=P at hx hz ⊢;omega) W hW;have TK:=hid TK;have HA:=hid hA;have HO:=hid ho;obtain⟨vv,h4⟩:∃x,x=R0.node:=⟨_,rfl⟩;obtain⟨vs,h3⟩:∃x,x=R0.nodes:=⟨_,rfl⟩;rw[<- h4] at c3 b3 TK HR U;rw[<- h3] at c4 TK HR hlt;obtain⟨Y,hY⟩:∃Y,Y=vs+1:=⟨_,rfl⟩;have HY:=hid hY;have wi:IntKind.i64.wrap ((vs:Int)+1)=(Y:Int):=by rw[IntWalk.i64_in _ (by constructor<;>omega)];omega
    have k1:=hid h4;have k0:=hid h3;obtain⟨X,hX⟩:∃X:Nat,X=1024*vv+64+192*vs:=⟨_,rfl⟩;have w1:IntKind.i64.wrap (1024*(vv:Int))=1024*(vv:Int):=by rw[IntWalk.i64_in _ (by constructor<;>omega)]
    have w2:IntKind.i64.wrap (1024*(vv:Int)+64)=1024*(vv:Int)+64:=by rw[IntWalk.i64_in _ (by constructor<;>omega)]
    have w4:IntKind.i64.wrap ((Y:Int)-1)=(vs:Int):=by rw[IntWalk.i64_in _ (by constructor<;>omega)];omega
    have w5:IntKind.i64.wrap (192*(vs:Int))=192*(vs:Int):=by rw[IntWalk.i64_in _ (by constructor<;>omega)]
    have w6:IntKind.i64.wrap (1024*(vv:Int)+64+192*(vs:Int))=(X:Int):=by rw[IntWalk.i64_in _ (by constructor<;>omega)];omega
    have HX:=hid hX;clear hX;clear I L hA ho hcut hO h6 O M h5 ht hr U qv h4 h3 hl hp hx hz hlt hY;go_upto_region 6 with fail;refine wp_region_still_tail 9 (by kernel_rfl) (by kernel_rfl) ?_;simp only[List.take_succ_cons,List.take_zero,List.drop_succ_cons,List.drop_zero];repeat still_step
    refine wpStill_nil ?_;change wpList _ _ _ _ _ wc.drew;have HD:=hid (HA.out.bel (W':=wc.drew) ⟨rfl,rfl,rfl,AG _,fun _ _=>rfl⟩);have hq:=hid (HO.out.drew);have TK:=hid (TK.out _ HD.out);clear c3 c4;generalize wc.drew=w2 at TK HD hq ⊢;go_wp2_with fail;refine TK.out.mono ?_;rintro e w3 ⟨rfl,S,h8⟩;obtain⟨h2,h7⟩:=S.set 6 (.int .i64 (Y:Int)) (x2k b n _ lv Y) rfl;have c4:w3.cell? ⟨g,6,none⟩=some (.int .i64 (vs:Int)):=by have:=S.blk.cell 6;rw[k0.out];exact this
    have f4:=S.blk.frozen 6;have d3:(w3.setCell ⟨g,6,none⟩ (.int .i64 (Y:Int))).cell? ⟨g,5,none⟩=some (.int .i64 (vv:Int)):=by have:=h2.blk.cell 5;rw[k1.out];exact this
    have d4:(w3.setCell ⟨g,6,none⟩ (.int .i64 (Y:Int))).cell? ⟨g,6,none⟩=some (.int .i64 (Y:Int)):=h2.blk.cell 6;have HF:=hid (⟨h2,(hq.out.trans (h8.mono (g:=[g,b]) (by simp)) (fun _ h=>Or.inl h)).trans (h7.mono (g:=[g,b]) (by simp)) (fun _ h=>Or.inl h)⟩:_/\_);clear S h8 h2 h7;go_upto_region 8 with fail;generalize w3.setCell ⟨g,6,none⟩ (.int .i64 (Y:Int))=w5 at HF d3 d4 ⊢;go_quiet (fail);go_wp2;go_ret;rw[HR.out];refine⟨?_,?_,?_⟩;·show Ending.returned (Value.int .i64 (X:Int))=Ending.returned (Value.int .i64 ((1024*vv+64+192*vs:Nat):Int));rw[HX.out]
    ·have h9:=HF.out.1.bel (W':=w5.drewN nq) (by(repeat(first|exact Below.refl _ _|(refine ba ?_ _)|(refine Below.drew ?_)|(refine below_drewN ?_ _)|(refine Below.alloc ?_ (by first|omega|simp<;>omega) _)|(refine Below.setCell ?_ (by first|omega|simp<;>omega) _)|(refine bx ?_ (by assumption))|(refine Below.trans ?_ (Below.mono (by assumption) (by first|omega|simp<;>omega))))));rw[HY.out] at h9;exact h9
    ·exact HF.out.2.trans (Only.of_below (by(repeat(first|exact Below.refl _ _|(refine ba ?_ _)|(refine Below.drew ?_)|(refine below_drewN ?_ _)|(refine Below.alloc ?_ (by first|omega|simp<;>omega) _)|(refine Below.setCell ?_ (by first|omega|simp<;>omega) _)|(refine bx ?_ (by assumption))|(refine Below.trans ?_ (Below.mono (by assumption) (by first|omega|simp<;>omega)))))) _) (fun _ h=>Or.inl h)
end Go.Proofs.YtibiekfjbibpbaaGreat
