import Derived.Test.YtibiekfjbibpbaaGreatArnQ
set_option maxRecDepth 100000
set_option maxHeartbeats 4000000
set_option linter.unusedVariables false
set_option linter.unusedSimpArgs false
namespace Go.Proofs.YtibiekfjbibpbaaGreat
open Go.RowKit
attribute [local go_sem ↓ high] x1b
attribute [local go_sem] q1x q1v
structure La where
 slabs:Int
 per:Int
 lag:Int
def q5b (xs:List Int):List Nat:=(q4s xs xs.length).map Int.toNat
theorem v1p {W:World} {N g b n:Nat} {R:AR} {lv:Value} {rows:List (List (Nat×NodeA))} {slabs per lag:Nat} {keys:List Nat} (h1:1<=slabs) (hs:slabs<=64) (hp:2<=per) (hk:keys.length<=1000) (Y:∀x∈keys,x<18446744073709551616) (hA:ArIs W g b n R lv) (hV:LvsA W N lv rows) (hB:q8a slabs keys per lag R rows):SpA W N g b n R lv rows:=by
 obtain⟨z1,K,z2,z3,z4,z5,z6⟩:=hB;obtain⟨n1,n2⟩:=z2u h1 hs;obtain⟨v1,v2,v3⟩:=z1u n1 Y keys.length z1;have hu:=z1g n1 (by rw[n2];omega) Y keys.length z1;have I:((AR.new slabs).vals keys keys.length).1.bs.length=1024*(slabs+1):=v2.trans n2
 have hK:K<=15:=by
  rcases Cc 15 K with h|h;·exact absurd (Or.inr (Or.inl rfl)) (z3 15 h)
  ·exact h
 have O:=z1m (per:=per) (lag:=lag) v1 (by rw[I];omega) hp (by rw[v3];exact hk) hu (K+1) (by omega) (fun j hj=>z2 j (by omega));obtain⟨q1,q2,q3,q4,q5,q6⟩:=O;have h2:rows.length=K+1:=by rw[z5,z5a]
 have U:=hA.ln;have L:R.bs.length=1024*(slabs+1):=by rw[z6];show(putW _ 16 _).length=_;rw[q3n _ (by rw[q2,I];omega),q2,I]
 have S:R.slabs=(((AR.new slabs).vals keys keys.length).1.lvls per lag ((AR.new slabs).vals keys keys.length).2 (K+1)).1.slabs:=by rw[z6];rfl
 have M:=q1.len;refine⟨hA,hV,⟨by rw[U,L,S];rw[q2,I] at M;omega,by rw[S];rw[q2,I] at M;omega,by rw[S];exact q1.s64⟩,fun e=>(by rw[e] at h2;simp at h2),by omega,fun r hr=> ?_⟩;rw[z5] at hr;obtain⟨p1,p2,p3⟩:=q6 r hr;exact⟨p1,p2,fun x hx=>by have:=(p3 x hx).1;rw[I] at this;rw[U,L];exact this⟩
theorem q7v (xs:List Int):∀i,(q4s xs i).length<=i
 | 0=>AG _
 | i+1=>by have:=z4n (q4s xs i) (xs.getD i 0);have:=q7v xs i;show(insU _ _).length<=_;omega
theorem v7g {W1 W w9:World} {slabs per lag:Nat} {keys:List Nat} {e:Ending} (hb:Below W1.heap.size W1 W) (h:v0w W slabs keys per lag e w9):∃v,e= .returned v/\Below W1.heap.size W1 w9/\(v= .pointer none\/ ∃g b n R lv rows,v= .pointer (some ⟨g,0,none⟩)/\W1.heap.size<=g/\W1.heap.size<=b/\ArIs w9 g b n R lv/\LvsA w9 W1.heap.size lv rows/\q8a slabs keys per lag R rows):=by
 obtain⟨h1,h2⟩:=h;have hs:=hb.size;rcases h2 with rfl|⟨g,b,n,R,lv,rows,rfl,q1,q2,q3,q4,q5⟩;·exact⟨_,rfl,bx hb h1,Or.inl rfl⟩
 ·refine⟨_,rfl,bx hb h1,Or.inr ⟨g,b,n,R,lv,rows,rfl,by omega,by omega,q3,?_,q5⟩⟩;obtain⟨vs,v1,v2,v3⟩:=q4;exact⟨vs,v1,z5y v2 hs,fun i row hi=>by obtain⟨v,z1,z2,z3⟩:=v3 i row hi;exact⟨v,z1,z2,z5y z3 hs⟩⟩
end Go.Proofs.YtibiekfjbibpbaaGreat
namespace Go.Proofs.YtibiekfjbibpbaaGreat
open Go.RowKit
attribute [local go_sem] Oper.semAt_some
def laC5 (x:La) (kv bv:Value):Array Value:= #[.int .i64 x.slabs,kv,.int .i64 x.per,.int .i64 x.lag,bv]
def z5l (w:World) (v:Value) (l:List (Int×Int)):Prop:=∃ao cap,v= .slice ao l.length cap/\(l=[]\/ ∃b off,ao=some ⟨b,off,none⟩/\b<w.heap.size/\ ∀i s,l[i]?=some s->w.cell? ⟨b,off+i*2,none⟩=some (.int .i64 s.1)/\w.cell? ⟨b,off+i*2+1,none⟩=some (.int .u8 s.2))
theorem z5l.bel {w w':World} {v:Value} {l:List (Int×Int)} (h:z5l w v l) (hb:Below w.heap.size w w'):z5l w' v l:=by
 obtain⟨ao,cap,h1,h2⟩:=h;refine⟨ao,cap,h1,?_⟩;rcases h2 with h2|⟨b,off,h3,h4,h5⟩;·exact Or.inl h2
 ·exact Or.inr ⟨b,off,h3,AL h4 hb.size,fun i s hi=>⟨(hb.cell (p:=⟨b,off+i*2,none⟩) h4).trans (h5 i s hi).1,(hb.cell (p:=⟨b,off+i*2+1,none⟩) h4).trans (h5 i s hi).2⟩⟩
def ByOK (s:Int×Int):Prop:=I64 s.1/\0<=s.2/\s.2<256
def v0h (x:La) (xs:List Int) (l:List (Int×Int)):Prop:=1<=x.slabs/\x.slabs<=8/\xs.length<=30/\2<=x.per/\x.per<=8/\0<=x.lag/\x.lag<=20/\l.length<=6
structure ImA (W:World) (N g b n:Nat) (bs:List Int):Prop where
 gb:W.cell? ⟨g,0,none⟩=some (.slice (some ⟨b,0,none⟩) n n)
 lo:N<=g/\N<=b/\g<W.heap.size/\g≠b
 by':Blk W b 5 (byC bs)
 ln:n=bs.length
 big:0<n/\n<=9216
 byt:∀x∈bs,0<=x/\x<256
theorem ImA.set {W:World} {N g b n:Nat} {bs:List Int} (h:ImA W N g b n bs) {r:Nat} (hr:r<n) {v:Int} (h0:0<=v) (h1:v<256):ImA (W.setCell ⟨b,r,none⟩ (.int .u8 v)).drew N g b n (bs.set r v):=by
 have ho:Only [b] W (W.setCell ⟨b,r,none⟩ (.int .u8 v)).drew:=((Only.refl _ _).setCell (Or.inl (by simp)) _).drew;refine⟨(World.cell?_of_block (w:=W) (a:=⟨g,0,none⟩) (ho.block g h.lo.2.2.1 (by simpa using h.lo.2.2.2))).trans h.gb,⟨h.lo.1,h.lo.2.1,AL h.lo.2.2.1 ho.size,h.lo.2.2.2⟩,?_,by rw[CP];exact h.ln,h.big,fun x hx=> ?_⟩;·have:=(h.by'.set_ r (.int .u8 v)).drew;rw[x0w] at this;exact this
 ·rcases CV hx with h2|rfl;·exact h.byt x h2
  ·exact⟨h0,h1⟩
theorem v4r {W:World} {g b n:Nat} {R:AR} {lv:Value} {rows:List (List (Nat×NodeA))} {slabs per lag:Nat} {keys:List Nat} (h1:1<=slabs) (hs:slabs<=64) (hp:2<=per) (hk:keys.length<=1000) (M:∀x∈keys,x<18446744073709551616) (hA:ArIs W g b n R lv) (hB:q8a slabs keys per lag R rows):n=1024*(slabs+1):=by
 obtain⟨z1,K,z2,z3,z4,z5,z6⟩:=hB;obtain⟨n1,n2⟩:=z2u h1 hs;obtain⟨v1,v2,v3⟩:=z1u n1 M keys.length z1;have hu:=z1g n1 (by rw[n2];omega) M keys.length z1;have L:((AR.new slabs).vals keys keys.length).1.bs.length=1024*(slabs+1):=v2.trans n2
 have hK:K<=15:=by
  rcases Cc 15 K with h|h;·exact absurd (Or.inr (Or.inl rfl)) (z3 15 h)
  ·exact h
 have I:=z1m (per:=per) (lag:=lag) v1 (by rw[L];omega) hp (by rw[v3];exact hk) hu (K+1) (by omega) (fun j hj=>z2 j (by omega));rw[hA.ln,z6];show(putW _ 16 _).length=_;rw[q3n _ (by rw[I.2.1,L];omega),I.2.1,L]
def ImPs (w:World) (x:La) (xs:List Int) (l:List (Int×Int)) (e:Ending) (w':World):Prop:=Below w.heap.size w w'/\(e= .returned (.slice none 0 0)\/ ∃g b n bs,e= .returned (.slice (some ⟨b,0,none⟩) n n)/\ImA w' w.heap.size g b n bs/\n=1024*(x.slabs.toNat+1))
theorem x5h (x:La) (kv k8:Value) (xs:List Int) (l:List (Int×Int)) (hq:∀y∈xs,U64 y) (hp:∀s∈l,ByOK s) (kr:xs.length<=9223372036854775807) (kz:l.length<=9223372036854775807) (hx:I64 x.slabs/\I64 x.per/\I64 x.lag) (w:World) (hK:q1w .u64 w kv xs) (hS:z5l w k8 l):
  Calls Tryz.prog 27 #[.agg (laC5 x kv k8)] w fun e w'=>ImPs w x xs l e w':=by
 obtain⟨ka,kc,rfl,kd⟩:=hK;obtain⟨sa,sc,rfl,k7⟩:=hS;obtain⟨m,hm⟩:∃m,m=xs.length:=⟨_,rfl⟩;obtain⟨k,hk⟩:∃k,k=l.length:=⟨_,rfl⟩;have ko:Hid (q1w .u64 w (.slice ka m kc) xs):=hid ⟨ka,kc,by rw[hm],kd⟩;have km:Hid (z5l w (.slice sa k sc) l):=hid ⟨sa,sc,by rw[hk],k7⟩;rw[<- hm,<- hk];obtain⟨W1,ha⟩:∃W1,W1=w.alloc (.cells (laC5 x (.slice ka m kc) (.slice sa k sc)) 83):=⟨_,rfl⟩;have k9:Below w.heap.size w W1:=by rw[ha];exact ba (Below.refl _ _) _
 have k1:Blk W1 w.heap.size 83 (laC5 x (.slice ka m kc) (.slice sa k sc)):=by rw[ha];exact Blk.new _ _ _
 obtain⟨B,hB⟩:∃B,B=w.heap.size:=⟨_,rfl⟩;rw[<- hB] at k1;have c0:W1.cell? ⟨B,0,none⟩=some (.int .i64 x.slabs):=k1.cell 0;have c1:W1.cell? ⟨B,1,none⟩=some (.slice ka m kc):=k1.cell 1;have c2:W1.cell? ⟨B,2,none⟩=some (.int .i64 x.per):=k1.cell 2;have c3:W1.cell? ⟨B,3,none⟩=some (.int .i64 x.lag):=k1.cell 3;have c4:W1.cell? ⟨B,4,none⟩=some (.slice sa k sc):=k1.cell 4;have z0:=hid k1;have ky:=hid ha;have O:=hid k9;have HH:=hid (⟨hm,hk,hq,hp⟩:m=xs.length/\k=l.length/\(∀y∈xs,U64 y)/\(∀s∈l,ByOK s));clear ha k9 k1 hq hp kd k7 hm hk kr kz hx;go_enter Tryz.func27,Tryz.ntmps27;go_upto_region 1 with fail;rw[show _=W1 from ky.out.symm,<- hB];have kq:=hid hB;clear hB;by_cases q1:x.slabs<1;·have I:Hid (ImPs w x xs l (.returned (.slice none 0 0)) W1):=hid ⟨O.out,Or.inl rfl⟩;go_wp2;go_ret;exact I.out
 by_cases q2:x.slabs>8;·have I:Hid (ImPs w x xs l (.returned (.slice none 0 0)) W1):=hid ⟨O.out,Or.inl rfl⟩;go_wp2;go_ret;exact I.out
 by_cases q3:30<m
 ·have p3:(m:Int)>30:=by omega
  have I:Hid (ImPs w x xs l (.returned (.slice none 0 0)) W1):=hid ⟨O.out,Or.inl rfl⟩;go_wp2;go_ret;exact I.out
 have n3: ¬(m:Int)>30:=by omega
 by_cases q4:x.per<2;·have I:Hid (ImPs w x xs l (.returned (.slice none 0 0)) W1):=hid ⟨O.out,Or.inl rfl⟩;go_wp2;go_ret;exact I.out
 by_cases q5:x.per>8;·have I:Hid (ImPs w x xs l (.returned (.slice none 0 0)) W1):=hid ⟨O.out,Or.inl rfl⟩;go_wp2;go_ret;exact I.out
 by_cases q6:x.lag<0;·have I:Hid (ImPs w x xs l (.returned (.slice none 0 0)) W1):=hid ⟨O.out,Or.inl rfl⟩;go_wp2;go_ret;exact I.out
 by_cases q7:x.lag>20;·have I:Hid (ImPs w x xs l (.returned (.slice none 0 0)) W1):=hid ⟨O.out,Or.inl rfl⟩;go_wp2;go_ret;exact I.out
 by_cases q8:6<k
 ·have p8:(k:Int)>6:=by omega
  have I:Hid (ImPs w x xs l (.returned (.slice none 0 0)) W1):=hid ⟨O.out,Or.inl rfl⟩;go_wp2;go_ret;exact I.out
 have n8: ¬(k:Int)>6:=by omega
 have ke:Hid (v0h x xs l):=hid (by have h1:=HH.out.1;have h2:=HH.out.2.1;unfold v0h;omega);clear q3 q8;go_upto_region 3 with fail;obtain⟨sl,hl⟩:∃sl:Nat,x.slabs=(sl:Int):=⟨x.slabs.toNat,by omega⟩;obtain⟨pe,he⟩:∃pe:Nat,x.per=(pe:Int):=⟨x.per.toNat,by omega⟩;obtain⟨lg,hh⟩:∃lg:Nat,x.lag=(lg:Int):=⟨x.lag.toNat,by omega⟩;rw[hl] at c0;rw[he] at c2;rw[hh] at c3;have M:=hid (⟨by rw[hl];exact BG _,by rw[he];exact BG _,by rw[hh];exact BG _,(by have:=ke.out;unfold v0h at this;omega:1<=sl/\sl<=8/\2<=pe/\pe<=8/\lg<=20)⟩:x.slabs.toNat=sl/\x.per.toNat=pe/\x.lag.toNat=lg/\1<=sl/\sl<=8/\2<=pe/\pe<=8/\lg<=20);have ki:m<=30:=by omega
 have RZ:=hid (fun W (hb:Below W1.heap.size W1 W)=>v3q xs 30 (.slice ka m kc) (by have:=HH.out.1;omega) (by omega) W (ko.out.bel (bx O.out hb)))
 have BZ:=hid (fun(W:World) (v:Value) (hb:Below W1.heap.size W1 W) (hv:q1w .u64 W v (q4s xs xs.length))=>v0e sl pe lg (q5b xs) v M.out.2.2.2.1 (by have:=M.out;omega) (by unfold q5b;rw[AO];have:=q7v xs xs.length;have:=HH.out.1;omega) (by
  intro y hy;unfold q5b at hy;obtain⟨z,hz,rfl⟩:=Aj.1 hy;have:=HH.out.2.2.1 z (q9v (AG _) z hz);unfold U64 at this;omega) M.out.2.2.2.2.2.1 M.out.2.2.2.2.2.2.1 (by have:=M.out;omega) W (by
  have e:(q5b xs).map (fun x:Nat=>(x:Int))=q4s xs xs.length:=by
   unfold q5b;rw[BU]
   conv=>rhs;rw[<- List.map_id (q4s xs xs.length)]
   apply CK;intro z hz;have:=(HH.out.2.2.1 z (q9v (AG _) z hz)).1;show((z.toNat:Nat):Int)=z;omega
  rw[e];exact hv))
 clear q1 q2 n3 q4 q5 q6 q7 n8 hl he hh;go_cut [3] from 3 to 54 (fun v wd=>Hid (Below W1.heap.size W1 wd/\(v= .pointer none\/ ∃g b n R lv rows,v= .pointer (some ⟨g,0,none⟩)/\W1.heap.size<=g/\W1.heap.size<=b/\ArIs wd g b n R lv/\LvsA wd W1.heap.size lv rows/\q8a sl (q5b xs) pe lg R rows)))
 case first=>
  go_region_held3 (fun X=>X.cell? ⟨B,0,none⟩=some (.int .i64 (sl:Int))/\X.cell? ⟨B,1,none⟩=some (.slice ka m kc)/\X.cell? ⟨B,2,none⟩=some (.int .i64 (pe:Int))/\X.cell? ⟨B,3,none⟩=some (.int .i64 (lg:Int))) (go_keep) (first
   | (go_at_call 18;refine(RZ.out _ (by(repeat(first|exact Below.refl _ _|(refine ba ?_ _)|(refine Below.drew ?_)|(refine below_drewN ?_ _)|(refine Below.alloc ?_ (by first|omega|simp<;>omega) _)|(refine Below.setCell ?_ (by first|omega|simp<;>omega) _)|(refine bx ?_ (by assumption))|(refine Below.trans ?_ (Below.mono (by assumption) (by first|omega|simp<;>omega))))))).mono ?_;rintro e v1 ⟨hb,v,j,rfl,z1,kh,z2,S⟩;(have hj:j=xs.length:=by have h8:=q7v xs j;have h9:=HH.out.1;omega);subst hj;have U:Below W1.heap.size W1 v1:=bx (by(repeat(first|exact Below.refl _ _|(refine ba ?_ _)|(refine Below.drew ?_)|(refine below_drewN ?_ _)|(refine Below.alloc ?_ (by first|omega|simp<;>omega) _)|(refine Below.setCell ?_ (by first|omega|simp<;>omega) _)|(refine bx ?_ (by assumption))|(refine Below.trans ?_ (Below.mono (by assumption) (by first|omega|simp<;>omega)))))) hb;have h7:=hid U;have d1:v1.cell? ⟨B,1,none⟩=some (.slice ka m kc):=(U.cell (p:=⟨B,1,none⟩) (World.block_lt_of_cell? W1 _ c1)).trans c1;obtain⟨va,vc,rfl⟩:=q0q S;have k4:=hid (q1w.of_own S);have d0:v1.cell? ⟨B,0,none⟩=some (.int .i64 (sl:Int)):=(U.cell (p:=⟨B,0,none⟩) (World.block_lt_of_cell? W1 _ c0)).trans c0;have d2:v1.cell? ⟨B,2,none⟩=some (.int .i64 (pe:Int)):=(U.cell (p:=⟨B,2,none⟩) (World.block_lt_of_cell? W1 _ c2)).trans c2;have d3:v1.cell? ⟨B,3,none⟩=some (.int .i64 (lg:Int)):=(U.cell (p:=⟨B,3,none⟩) (World.block_lt_of_cell? W1 _ c3)).trans c3;clear hb S U z1 kh z2)
   | (go_at_call 35;refine(BZ.out _ _ (by first|exact h7.out|exact h7.out.drew) (by first|exact k4.out|exact k4.out.bel ⟨rfl,rfl,rfl,AG _,fun _ _=>rfl⟩)).mono ?_;intro e w9 h9;obtain⟨v9,rfl,hp9⟩:=v7g (by first|exact h7.out|exact h7.out.drew) h9;have f0:w9.cell? ⟨B,0,none⟩=some (.int .i64 (sl:Int)):=(hp9.1.cell (p:=⟨B,0,none⟩) (World.block_lt_of_cell? W1 _ c0)).trans c0;have f1:w9.cell? ⟨B,1,none⟩=some (.slice ka m kc):=(hp9.1.cell (p:=⟨B,1,none⟩) (World.block_lt_of_cell? W1 _ c1)).trans c1;have f2:w9.cell? ⟨B,2,none⟩=some (.int .i64 (pe:Int)):=(hp9.1.cell (p:=⟨B,2,none⟩) (World.block_lt_of_cell? W1 _ c2)).trans c2;have f3:w9.cell? ⟨B,3,none⟩=some (.int .i64 (lg:Int)):=(hp9.1.cell (p:=⟨B,3,none⟩) (World.block_lt_of_cell? W1 _ c3)).trans c3;have kn:=hid hp9;clear h9 hp9))
  go_wp2;go_meet;exact kn
 case rest=>
  obtain⟨h4,kp⟩:=hcut.out;have ht:Hid (Below w.heap.size w wc):=hid (bx O.out h4);rcases kp with rfl|⟨g,b,n,R,lv,rows,rfl,hg,kk,hA,hV,hf⟩;·have HF:Hid (ImPs w x xs l (.returned (.slice none 0 0)) wc):=hid ⟨ht.out,Or.inl rfl⟩;clear hcut h4;go_wp2;go_ret;exact HF.out
  ·have hS:=v1p M.out.2.2.2.1 (by have:=M.out;omega) M.out.2.2.2.2.2.1 (by unfold q5b;rw[AO];have:=q7v xs xs.length;have:=HH.out.1;omega) (by
    intro y hy;unfold q5b at hy;obtain⟨z,hz,rfl⟩:=Aj.1 hy;have:=HH.out.2.2.1 z (q9v (AG _) z hz);unfold U64 at this;omega) hA hV hf
   have kt:w.heap.size<=W1.heap.size:=O.out.size;have kg:W1.heap.size<=wc.heap.size:=h4.size;have hn:n=1024*(sl+1):=v4r M.out.2.2.2.1 (by have:=M.out;omega) M.out.2.2.2.2.2.1 (by unfold q5b;rw[AO];have:=q7v xs xs.length;have:=HH.out.1;omega) (by intro y hy;unfold q5b at hy;obtain⟨z,hz,rfl⟩:=Aj.1 hy;have:=HH.out.2.2.1 z (q9v (AG _) z hz);unfold U64 at this;omega) hA hf;have k0:Hid (Below w.heap.size w wc/\(∃bs,ImA wc w.heap.size g b n bs)/\Blk wc B 83 (laC5 x (.slice ka m kc) (.slice sa k sc))):=hid ⟨ht.out,⟨R.bs,⟨hA.blk.cell 0,⟨by omega,by omega,hA.blk.lt,hA.ne⟩,hA.by',hA.ln,by have:=M.out;omega,hA.byt⟩⟩,z0.out.bel h4⟩;have HN:=hid (show n=1024*(x.slabs.toNat+1) by rw[M.out.1];exact hn);have z3:=hid (show w.heap.size<=B by have:=kq.out;omega);have kj:k<=6:=by have h1:=ke.out;have h2:=HH.out.2.1;unfold v0h at h1;omega
   clear hcut h4 hg kk hA hV hf hS kt kg c0 c1 c2 c3 c4 hn;go_wp2;go_loopw [4] (fun iv wr=> ∃i:Nat,i<=k/\iv= .int .i64 (i:Int)/\Hid (Below w.heap.size w wr/\(∃bs,ImA wr w.heap.size g b n bs)/\Blk wr B 83 (laC5 x (.slice ka m kc) (.slice sa k sc)))) (fun iv _=>k- (intOf iv).toNat);case atStart=>exact⟨0,Af _,rfl,k0⟩
   case round=>
    obtain⟨i,kb,rfl,hI⟩:=hrel;obtain⟨wA,rfl⟩:∃y,y=wr:=⟨_,rfl⟩;clear k0;obtain⟨Y,⟨bs,L⟩,h6⟩:=hI.out;have c4:wA.cell? ⟨B,4,none⟩=some (.slice sa k sc):=h6.cell 4;by_cases hlt:i<k
    ·have i1:(i:Int)< (k:Int):=by omega
     have i0:(0:Int)<=(i:Int):=by omega
     obtain⟨s,hs⟩:∃s,l[i]?=some s:=⟨_,AD (by have:=HH.out.2.1;omega)⟩;have hi:=HH.out.2.2.2 s (AJ hs);obtain⟨s1,s2⟩:=s
     obtain⟨sb,so,rfl,d0,d1⟩:∃sb so,sa=some ⟨sb,so,none⟩/\wA.cell? ⟨sb,so+i*2,none⟩=some (.int .i64 s1)/\wA.cell? ⟨sb,so+i*2+1,none⟩=some (.int .u8 s2):=by
      obtain⟨ao,cp,h1,h2⟩:=km.out.bel Y;injection h1 with h1 _ _;subst h1;rcases h2 with h2|⟨sb,so,h3,_,h5⟩;·rw[h2] at hs;simp at hs
      ·exact⟨sb,so,h3,(h5 i _ hs).1,(h5 i _ hs).2⟩
     obtain⟨r,hr,er⟩:=umod s1 n L.big.1;have z4:IntKind.i64.wrap (r:Int)=(r:Int):=IntWalk.i64_in _ (by have:=L.big;constructor<;>omega);have un:IntKind.u64.wrap (n:Int)=(n:Int):=IntWalk.u64_in _ (by have:=L.big;constructor<;>omega);have n0: ¬(n:Int)=0:=by have:=L.big;omega
     have n1: ¬n=0:=by omega
     have r0:(0:Int)<=(r:Int):=by omega
     have r1:(r:Int)< (n:Int):=by omega
     have c0:=L.gb;obtain⟨y0,k3⟩:∃y0,bs[r]?=some y0:=⟨_,AD (by rw[<- L.ln];exact hr)⟩;have b0:wA.cell? ⟨b,r,none⟩=some (.int .u8 y0):=(L.by'.cell r).trans (z2r k3);have kx:=L.by'.frozen r;have k5:b≠B:=fun e=>by have h1:wA.heap[b]?=some (.cells _ 5 (0,0)):=L.by';have h2:wA.heap[B]?=some (.cells _ 83 (0,0)):=h6;rw[e,h2] at h1;injection h1 with h1;injection h1 with _ h1 _;exact absurd h1 (by decide)
     have HX:Hid (Below w.heap.size w (wA.setCell ⟨b,r,none⟩ (.int .u8 s2)).drew/\(∃bs,ImA (wA.setCell ⟨b,r,none⟩ (.int .u8 s2)).drew w.heap.size g b n bs)/\Blk (wA.setCell ⟨b,r,none⟩ (.int .u8 s2)).drew B 83 (laC5 x (.slice ka m kc) (.slice (some ⟨sb,so,none⟩) k sc))):=by have ho:Only [b] wA (wA.setCell ⟨b,r,none⟩ (.int .u8 s2)).drew:=((Only.refl _ _).setCell (Or.inl (by simp)) _).drew;exact hid ⟨Y.trans (ho.below (fun y hy=>by rw[AF.1 hy];exact L.lo.2.1) Y.size),⟨_,L.set hr hi.2.1 hi.2.2⟩,ho.blk h6 (by simpa using fun e=>k5 e.symm)⟩
     have kf:=hid hlt;clear hI hlt kb Y L h6 hi hs hr k5 k3;go_upto_region 9 with fail;go_region;clear c0 c4 b0 kx d0 d1;go_wp2;go_roundw;case rel=>exact⟨i+1,kf.out,by go_num,HX⟩
     case measure=>simp[intOf];have:=kf.out;omega
    ·obtain rfl:i=k:=by omega
     have i1: ¬(i:Int)< (i:Int):=by omega
     have c0:=L.gb;have HF:Hid (ImPs w x xs l (.returned (.slice (some ⟨b,0,none⟩) n n)) wA):=hid ⟨Y,Or.inr ⟨g,b,n,bs,rfl,L,HN.out⟩⟩;clear hlt kb Y L hI h6;go_wp2;go_ret;exact HF.out
end Go.Proofs.YtibiekfjbibpbaaGreat
