import Derived.Test.YtibiekfjbibpbaaGreatAppM
set_option maxRecDepth 100000
set_option maxHeartbeats 2000000
set_option linter.unusedVariables false
set_option linter.unusedSimpArgs false
namespace Go.Proofs.YtibiekfjbibpbaaGreat
open Go.RowKit
attribute [local go_sem ↓ high] q0v
attribute [local go_sem] q0h
structure q2x (w:World) (N s:Nat) (v:Value) (xs:List Int):Prop where
 blk:Blk w s 159 #[v]
 row:w.ownsRow N 51 1 v xs.length (xs.map (Value.int .u64))
 lo:N<=s
 ne:v.ownBlock≠some s
theorem q2x.nums {w:World} {N s:Nat} {v:Value} {xs:List Int} (h:q2x w N s v xs):q1w .u64 w v xs:=q1w.of_own h.row
theorem q2x.only {w w':World} {N s:Nat} {v:Value} {xs:List Int} {fs:List Nat} (h:q2x w N s v xs) (ho:Only fs w w') (h1:s∉fs) (h2:∀k,v.ownBlock=some k->k∉fs):q2x w' N s v xs:=⟨ho.blk h.blk h1,ho.own h.row h2,h.lo,h.ne⟩
theorem q2x.bel {w w':World} {N s:Nat} {v:Value} {xs:List Int} (h:q2x w N s v xs) (hb:Below w.heap.size w w'):q2x w' N s v xs:=h.only (Only.of_below hb []) (by simp) (by simp)
theorem x2d (N s:Nat) (v:Value) (xs:List Int) (a:Int) (w:World) (h:q2x w N s v xs) (hl:xs.length<=1000000000):
  Calls Tryz.prog 76 #[.pointer (some ⟨s,0,none⟩),.int .u64 a] w fun e w'=>e= .returned (.bool (decide (a∈xs)))/\w=w':=by
 obtain⟨ao,cap,rfl,L⟩:=h.nums;have y0:w.cell? ⟨s,0,none⟩=some (.slice ao xs.length cap):=h.blk.cell 0;obtain⟨n,hn⟩:∃n,n=xs.length:=⟨_,rfl⟩;rw[<- hn] at y0;have HN:=hid hn;have O:=hid L;have n9:n<=1000000000:=by omega
 clear L h hl hn;go_enter Tryz.func76,Tryz.ntmps76;go_wp2;go_loopw [5] (fun vi wr=> ∃i:Nat,vi= .int .i64 (i:Int)/\i<=n/\w=wr/\Hid (a∉xs.take i)) (fun vi _=>n- (intOf vi).toNat);case atStart=>exact⟨0,rfl,Af _,rfl,(by simp:a∉xs.take 0)⟩
 case round=>
  obtain⟨i,rfl,hi,rfl,hm⟩:=hrel;by_cases hlt:i<n
  ·obtain⟨x,hx⟩:∃x,xs[i]?=some x:=⟨_,AD (by rw[<- HN.out];exact hlt)⟩
   obtain⟨b,off,rfl,hbl,hc⟩:∃b off,ao=some ⟨b,off,none⟩/\b<w.heap.size/\ ∀i x,xs[i]?=some x->w.cell? ⟨b,off+i,none⟩=some (.int .u64 x):=by
    rcases O.out with h0|h0;·exfalso;have:=HN.out;rw[h0] at this;simp at this;omega
    ·exact h0
   have y1:=hc i x hx;have i0:(0:Int)<=(i:Int):=by omega
   have i1:(i:Int)< (n:Int):=by omega
   have HX:=hid hx;clear hc hbl hx;by_cases he:x=a
   ·have e1:(x==a)=true:=by simp[he]
    have I:a∈xs:=by rw[<- he];exact AJ HX.out
    have hd:=hid (AT I);clear he I;go_wp2;go_ret;exact⟨by rw[hd.out];rfl,rfl⟩
   ·have e1:(x==a)=false:=by simp[he]
    have M:Hid (a∉xs.take (i+1)):=by
     show a∉xs.take (i+1);rw[Ai,HX.out,An];rintro(h1|h1);·exact hm.out h1
     ·simp at h1;exact he h1.symm
    clear he;go_wp2;go_roundw;case rel=>exact⟨i+1,by go_num,hlt,trivial,M⟩
    case measure=>simp[intOf];omega
  ·obtain rfl:i=n:=by omega
   have i1: ¬(i:Int)< (i:Int):=by omega
   have hd:decide (a∈xs)=false:=by have:=hm.out;rw[HN.out,BH] at this;exact AK this
   clear hi hlt;go_wp2;go_ret;exact⟨rfl,rfl⟩
theorem q2x.newRow {w w3:World} {N s:Nat} {v v3:Value} {xs ys:List Int} (h:q2x w N s v xs) (ho:Only [] w w3) (L:w3.ownsRow N 51 1 v3 ys.length (ys.map (Value.int .u64))) (I:∀k,v3.ownBlock=some k->w.heap.size<=k):
  q2x (w3.setCell ⟨s,0,none⟩ v3) N s v3 ys/\(∀k,v3.ownBlock=some k->v.ownBlock=some k\/w.heap.size<=k)/\Only [s] w (w3.setCell ⟨s,0,none⟩ v3):=by
 have h3:Only [s] w3 (w3.setCell ⟨s,0,none⟩ v3):=(Only.refl _ _).setCell (Or.inl (by simp)) _;have M:=ho.blk h.blk (by simp);have hl:=h.blk.lt;have nb:v3.ownBlock≠some s:=fun e=>by have:=I s e;omega
 refine⟨⟨M.set_ 0 _,h3.own L (fun k hk hm=>nb (by rw[hk,AF.1 hm])),h.lo,nb⟩,?_,(ho.mono (by simp)).trans h3 (fun x hx=>Or.inl hx)⟩;exact fun k hk=>Or.inr (I k hk)
def insA (xs:List Int) (a:Int):List Int:=if a∈xs then xs else xs.takeWhile (fun x=>decide (x<a))++a::xs.dropWhile (fun x=>decide (x<a))
theorem z7n {xs:List Int} {a:Int} {i:Nat} (h:∀j x,j<i->xs[j]?=some x->x<a) (hn:∀x,xs[i]?=some x-> ¬x<a) (hi:i<=xs.length):
  xs.takeWhile (fun x=>decide (x<a))=xs.take i/\xs.dropWhile (fun x=>decide (x<a))=xs.drop i:=by
 induction xs generalizing i with
 | nil=>simp
 | cons y ys ih=>
  cases i with
  | zero=>have:=hn y rfl;simp[this]
  | succ i=>have h0:=h 0 y (by omega) rfl;obtain⟨h1,h2⟩:=ih (i:=i) (fun j x hj hx=>h (j+1) x (by omega) hx) (fun x hx=>hn x hx) (by simpa using hi);simp[h0,h1,h2]
theorem q6w (N:Nat) (W:World) (x:Value) (l news:List Int) (v:Value) (hx:q1b W x news.length (news.map (Value.int .u64))) (hm:l.length+news.length<=2000000) (hN:N<=W.heap.size) (hr:W.ownsRow N 51 1 v l.length (l.map (Value.int .u64))):
  ∃v' w',q0n Tryz.prog #[30,30] 30 #[v,x] W= .ok v' w'/\w'.ownsRow N 51 1 v' (l++news).length ((l++news).map (Value.int .u64))/\W.grownBy w' v.ownBlock/\(v'.ownBlock=v.ownBlock\/v'.ownBlock=some W.heap.size):=by
 obtain⟨i0,O,I,M,L⟩:=info_parts q9s;obtain⟨v',w',h⟩:=q2b (P:=Tryz.prog) W N 30 30 51 i0 (.int .u64 0) 1 8 Tryz.underlying30 O I M L rfl (by decide) v l.length _ hr x news.length _ hx (by simp) (by intro u hu;obtain⟨y,_,rfl⟩:=Aj.1 hu;rfl) (by unfold maxLen;omega) (by omega) hN;refine⟨v',w',h.run,?_,h.grown,h.ob⟩;rw[AI,Ah];exact h.own
theorem q6s {w W w':World} {o:Option Nat} (ho:Only [] w W) (hg:W.grownBy w' o) (hn:∀k,o=some k->w.heap.size<=k):Only [] w w':=by refine ho.trans (Only.of_grown (f:=o.toList) hg (fun k hk=>by simp[hk])) (fun x hx=>Or.inr (hn x (by simpa using hx)))
theorem z0c {w W:World} {v v':Value} (ho:Only [] w W) (h:v'.ownBlock=v.ownBlock\/v'.ownBlock=some W.heap.size) (hn:∀k,v.ownBlock=some k->w.heap.size<=k):∀k,v'.ownBlock=some k->w.heap.size<=k:=by
 intro k hk;rcases h with e|e;·exact hn k (e▸hk)
 ·rw[e] at hk;injection hk with hk;rw[<- hk];exact ho.size
theorem v3n (N:Nat) (w W:World) (hW:Below w.heap.size w W) (hN:N<=w.heap.size) (p1 p3:Value) (l1 l3:List Int) (a:Int) (h1:q1b w p1 l1.length (l1.map (Value.int .u64))) (h3:q1b w p3 l3.length (l3.map (Value.int .u64))) (hm:l1.length+l3.length<=1000000):
  ∃v1 w1 v2 w2 v3 w3,q0n Tryz.prog #[30,30] 30 #[.slice none 0 0,p1] W= .ok v1 w1/\
   q0n Tryz.prog #[30,30] 30 #[v1,.slice (some ⟨w1.heap.size,0,none⟩) 1 1] (w1.alloc (.cells #[.int .u64 a] 51))= .ok v2 w2/\
   q0n Tryz.prog #[30,30] 30 #[v2,p3] w2= .ok v3 w3/\Only [] w w1/\Only [] w w2/\Only [] w w3/\
   w3.ownsRow N 51 1 v3 (l1++a::l3).length ((l1++a::l3).map (Value.int .u64))/\ ∀k,v3.ownBlock=some k->w.heap.size<=k:=by
 have o0:Only [] w W:=Only.of_below hW [];obtain⟨v1,w1,r1,e1,g1,b1⟩:=q6w N W p1 [] l1 (.slice none 0 0) (h1.bel hW) (by simp;omega) (AH hN hW.size) (World.ownsRow_nil _ _ _ _);have n0:∀k,(Value.slice none 0 0).ownBlock=some k->w.heap.size<=k:=fun k hk=>by simp[Value.ownBlock] at hk
 have o1:=q6s o0 g1 n0;have n1:=z0c o0 b1 n0;rw[Bi] at e1;have I:=o1.alloc (.cells #[.int .u64 a] 51)
 obtain⟨v2,w2,r2,e2,g2,b2⟩:=q6w N (w1.alloc (.cells #[.int .u64 a] 51)) (.slice (some ⟨w1.heap.size,0,none⟩) 1 1) l1 [a] v1
  (Or.inr ⟨w1.heap.size,0,1,rfl,fun j u hj=>by rw[(Blk.new w1 51 #[.int .u64 a]).cell (0+j),AQ];simpa using hj⟩) (by simp;omega) (AH hN I.size) (e1.alloc _)
 have o2:=q6s I g2 n1;have n2:=z0c I b2 n1;obtain⟨v3,w3,r3,e3,g3,b3⟩:=q6w N w2 p3 (l1++[a]) l3 v2 (h3.bel (o2.below (by simp) (AG _))) (by simp;omega) (AH hN o2.size) e2;have o3:=q6s o2 g3 n2;have n3:=z0c o2 b3 n2;rw[BB,CC] at e3;exact⟨v1,w1,v2,w2,v3,w3,r1,r2,r3,o1,o2,o3,e3,n3⟩
theorem v3e (N:Nat) (w W:World) (hW:Below w.heap.size w W) (hN:N<=w.heap.size) (x p1 p3:Value) (l1 l3:List Int) (a:Int) (hx:q1b W x 1 [.int .u64 a]) (h1:q1b w p1 l1.length (l1.map (Value.int .u64))) (h3:q1b w p3 l3.length (l3.map (Value.int .u64))) (hm:l1.length+l3.length<=1000000):
  ∃v1 w1 v2 w2 v3 w3,q0n Tryz.prog #[30,30] 30 #[.slice none 0 0,p1] W= .ok v1 w1/\
   q0n Tryz.prog #[30,30] 30 #[v1,x] w1= .ok v2 w2/\
   q0n Tryz.prog #[30,30] 30 #[v2,p3] w2= .ok v3 w3/\Only [] w w1/\Only [] w w2/\Only [] w w3/\
   w3.ownsRow N 51 1 v3 (l1++a::l3).length ((l1++a::l3).map (Value.int .u64))/\ ∀k,v3.ownBlock=some k->w.heap.size<=k:=by
 have o0:Only [] w W:=Only.of_below hW [];obtain⟨v1,w1,r1,e1,g1,b1⟩:=q6w N W p1 [] l1 (.slice none 0 0) (h1.bel hW) (by simp;omega) (AH hN hW.size) (World.ownsRow_nil _ _ _ _);have n0:∀k,(Value.slice none 0 0).ownBlock=some k->w.heap.size<=k:=fun k hk=>by simp[Value.ownBlock] at hk
 have nW:∀k,(Value.slice none 0 0).ownBlock=some k->W.heap.size<=k:=fun k hk=>by simp[Value.ownBlock] at hk
 have o1:=q6s o0 g1 n0;have oW:=q6s (Only.refl [] W) g1 nW;have n1:=z0c o0 b1 n0;rw[Bi] at e1;obtain⟨v2,w2,r2,e2,g2,b2⟩:=q6w N w1 x l1 [a] v1 (hx.bel (oW.below (by simp) (AG _))) (by simp;omega) (AH hN o1.size) e1;have o2:=q6s o1 g2 n1;have n2:=z0c o1 b2 n1;obtain⟨v3,w3,r3,e3,g3,b3⟩:=q6w N w2 p3 (l1++[a]) l3 v2 (h3.bel (o2.below (by simp) (AG _))) (by simp;omega) (AH hN o2.size) e2;have o3:=q6s o2 g3 n2;have n3:=z0c o2 b3 n2;rw[BB,CC] at e3;exact⟨v1,w1,v2,w2,v3,w3,r1,r2,r3,o1,o2,o3,e3,n3⟩
theorem x5x (N s:Nat) (v:Value) (xs:List Int) (a:Int) (w:World) (h:q2x w N s v xs) (hN:N<=w.heap.size) (hl:xs.length<=1000000) (ha:a≠0):
  Calls Tryz.prog 72 #[.pointer (some ⟨s,0,none⟩),.int .u64 a] w fun e w'=>(∃r,e= .returned r)/\(∃v',q2x w' N s v' (insA xs a)/\(∀k,v'.ownBlock=some k->v.ownBlock=some k\/w.heap.size<=k))/\Only [s] w w':=by
 have hH:=hid (x2d N s v xs a w h (by omega));have a0:(a==0)=false:=by simp[ha]
 clear ha;by_cases hin:a∈xs
 ·have hd:=AT hin;rw[hd] at hH;have hi:Hid (insA xs a=xs):=by show insA xs a=xs;unfold insA;rw[if_pos hin]
  have H:=hid h;clear h hin hd;go_enter Tryz.func72,Tryz.ntmps72;go_wp2_with fail;refine(hH.out).mono ?_;rintro e w1 ⟨rfl,rfl⟩;go_wp2;go_ret;exact⟨⟨_,rfl⟩,⟨v,by rw[hi.out];exact H.out,fun k hk=>Or.inl hk⟩,Only.refl _ _⟩
 ·have hd:=AK hin;rw[hd] at hH;rcases h.row.2 with⟨rfl,k0⟩|⟨g,cap,k7,rfl,h2,h3,h4,h5,h6,h7⟩
  ·obtain rfl:xs=[]:=Am.1 k0;have y0:w.cell? ⟨s,0,none⟩=some (.slice none 0 0):=h.blk.cell 0;have H:=hid h;clear h hin hd;go_enter Tryz.func72,Tryz.ntmps72;go_wp2_with fail;refine(hH.out).mono ?_;rintro e w1 ⟨rfl,rfl⟩;go_wp2;go_loopw [5] (fun vi wr=>vi= .int .i64 0/\w=wr) (fun vi _=>0);case atStart=>exact⟨rfl,rfl⟩
   case round=>
    obtain⟨rfl,rfl⟩:=hrel;go_upto_region 8 with fail;obtain⟨i0,hs,kg,ki,kd⟩:=info_parts q9s;have hA:=fun(W:World) (x:Value) (m:Nat) (news:List Value) (v:Value) (xs:List Int) (hx:q1b W x m news) (hl:news.length=m) (h1:∀u∈news,u.oneCell'=true) (hm:xs.length+m<=2000000) (hN:N<=W.heap.size) (hr:W.ownsRow N 51 1 v xs.length (xs.map (Value.int .u64)))=>q2b (P:=Tryz.prog) W N 30 30 51 i0 (.int .u64 0) 1 8 Tryz.underlying30 hs kg ki kd rfl (by decide) v xs.length _ hr x m news hx (by rw[hl,Ca]) h1 (by unfold maxLen;omega) (by omega) hN
    obtain⟨v2,w2,h2⟩:=hA (w.alloc (.cells #[.int .u64 a] 51)).drew (.slice (some ⟨w.heap.size,0,none⟩) 1 1) 1 [.int .u64 a] (.slice none 0 0) []
     (Or.inr ⟨w.heap.size,0,1,rfl,fun j u hj=>by have:(w.alloc (.cells #[.int .u64 a] 51)).drew.cell? ⟨w.heap.size,0+j,none⟩=_:=(Blk.new w 51 #[.int .u64 a]).drew.cell (0+j);rw[this,AQ];simpa using hj⟩) rfl (by simp[Value.oneCell']) (by simp) (by simp;omega) (World.ownsRow_nil _ _ _ _)
    have n1:∀W,q0n Tryz.prog #[30,30] 30 #[.slice none 0 0,.slice none 0 0] W= .ok (.slice none 0 0) W:=fun W=>run_append_owned_none (P:=Tryz.prog) (w:=W) 0 _ _ _ i0 1 Tryz.underlying30 hs _ 0 [] (World.ownsRow_nil _ _ _ _);have n2:=h2.run;have n3:q0n Tryz.prog #[30,30] 30 #[v2,.slice none 0 0] w2= .ok v2 w2:=run_append_owned_none (P:=Tryz.prog) (w:=w2) N _ _ _ i0 1 Tryz.underlying30 hs _ _ _ h2.own;have ho:=hid (show Only [] w w2 from(((Only.refl [] w).alloc (.cells #[.int .u64 a] 51)).drew).trans (Only.of_grown (f:=[]) h2.grown (fun k hk=>by simp[Value.ownBlock] at hk)) (fun x hx=>by simp at hx));have y2:w2.cell? ⟨s,0,none⟩=some (.slice none 0 0):=(ho.out.blk H.out.blk (by simp)).cell 0;have km:=(ho.out.blk H.out.blk (by simp)).frozen 0;have y3:w.drew.cell? ⟨s,0,none⟩=some (.slice none 0 0):=y0;have y4:(w.alloc (.cells #[.int .u64 a] 51)).cell? ⟨s,0,none⟩=some (.slice none 0 0):=(((Only.refl [] w).alloc (.cells #[.int .u64 a] 51)).blk H.out.blk (by simp)).cell 0;have y5: ¬s=w.heap.size:=by have:=H.out.blk.lt;omega
    have I:=h2.own;have hh:=h2.ob;obtain⟨va,vc,rfl⟩:=q0q I;simp only[List.length_nil,Nat.zero_add] at n2 n3
    have HF:=hid (H.out.newRow (w3:=w2) (ys:=[a]) ho.out I (fun k hk=>by
     rcases hh with e|e;·rw[e] at hk;simp[Value.ownBlock] at hk
     ·rw[e] at hk;injection hk with hk;simp at hk;omega))
    clear I hh hA k0 hl h2;go_region;go_wp2;go_ret;exact⟨⟨_,rfl⟩,⟨_,HF.out.1,HF.out.2.1⟩,HF.out.2.2⟩
  ·obtain⟨n,hn⟩:∃n,n=xs.length:=⟨_,rfl⟩;have y0:w.cell? ⟨s,0,none⟩=some (.slice (some ⟨g,0,none⟩) xs.length cap):=h.blk.cell 0;have hg:Blk w g 51 k7:=h3
   have O:∀i x,xs[i]?=some x->w.cell? ⟨g,i,none⟩=some (.int .u64 x):=fun i x hi=>by
    have hl:i<xs.length:=(AE.1 hi).1;rw[hg.cell,<- Ad];have:(k7.toList.take (xs.length*1))[i]?=some (.int .u64 x):=by rw[h7,AM,hi];rfl
    rw[AV,if_pos (by omega)] at this;exact this
   have sg:s≠g:=fun e=>h.ne (by rw[e];rfl);rw[<- hn] at y0 h4;have HN:=hid hn;have HC:=hid O;have HG:=hid hg;have n9:n<=1000000:=by omega
   have H:=hid h;have k1:=hid hin;have kk:=hid sg;have k9:=hid h5;clear h hl hn hin hd O hg h2 h3 h5 h6 h7 sg;go_enter Tryz.func72,Tryz.ntmps72;go_wp2_with fail;refine(hH.out).mono ?_;rintro e w1 ⟨rfl,rfl⟩;go_wp2;go_loopw [5] (fun vi wr=> ∃i:Nat,vi= .int .i64 (i:Int)/\i<=n/\w=wr/\Hid (∀j x,j<i->xs[j]?=some x->x<a)) (fun vi _=>n- (intOf vi).toNat);case atStart=>exact⟨0,rfl,Af _,rfl,(fun j x hj=>by omega:∀j x,j<0->xs[j]?=some x->x<a)⟩
   case round=>
    obtain⟨i,rfl,hi,rfl,hm⟩:=hrel;have HI:=hid hi;have i0:(0:Int)<=(i:Int):=by omega
    by_cases hgo:∃x,xs[i]?=some x/\x<a
    ·obtain⟨x,hx,hp⟩:=hgo;have hlt:i<n:=by rw[HN.out];exact(AE.1 hx).1
     have y1:=HC.out i x hx;have d1:decide ((i:Int)< (n:Int))=true:=AT (by omega);have k4:decide (i<n)=true:=AT hlt;have d2:decide (x<a)=true:=AT hp;have i1:(i:Int)< (n:Int):=by omega
     have k8:Hid (∀j y,j<i+1->xs[j]?=some y->y<a):=fun j y hj hy=>by
      by_cases hji:j=i;·subst hji;rw[hx] at hy;injection hy with hy;omega
      ·exact hm.out j y (by omega) hy
     have k5:=hid hlt;clear hx hlt hp;go_wp2;go_roundw;case rel=>exact⟨i+1,by go_num,k5.out,trivial,k8⟩
     case measure=>simp[intOf];have:=k5.out;omega
    ·have S:Hid (∀x,xs[i]?=some x-> ¬x<a):=fun x hx hp=>hgo ⟨x,hx,hp⟩;clear hgo;have HP:=hid (z7n (i:=i) hm.out S.out (by rw[<- HN.out];exact hi));by_cases hlt:i<n
     ·obtain⟨x,hx⟩:∃x,xs[i]?=some x:=⟨_,AD (by rw[<- HN.out];exact hlt)⟩;have y1:=HC.out i x hx;have d1:decide ((i:Int)< (n:Int))=true:=AT (by omega);have k4:decide (i<n)=true:=AT hlt;have d2:decide (x<a)=false:=AK (S.out x hx);have i1:(i:Int)< (n:Int):=by omega
      clear hx;have kj: ¬cap=i:=by omega
      go_upto_region 8 with fail;have ic:i<=cap:=by omega
      have U:Hid (insA xs a=xs.take i++a::xs.drop i):=by show insA xs a=_;unfold insA;rw[if_neg k1.out,HP.out.1,HP.out.2]
      have M:(xs.take i).length=i:=by rw[AU,<- HN.out];omega
      have L:(xs.drop i).length=n-i:=by rw[At,<- HN.out]
      have h8:q1b w (.slice (some ⟨g,0,none⟩) i cap) (xs.take i).length ((xs.take i).map (Value.int .u64)):=by
       rw[M];refine Or.inr ⟨g,0,cap,rfl,fun j u hj=> ?_⟩;rw[AM] at hj;obtain⟨y,hy,rfl⟩:=BX.1 hj;rw[AV] at hy;split at hy;·rw[AQ];exact HC.out j y hy
       ·cases hy
      have he:∀o,(n=i\/o=i)->q1b w (.slice (some ⟨g,o,none⟩) (n-i) (cap-i)) (xs.drop i).length ((xs.drop i).map (Value.int .u64)):=by
       intro o ho;rw[L];refine Or.inr ⟨g,o,_,rfl,fun j u hj=> ?_⟩;rw[AM] at hj;obtain⟨y,hy,rfl⟩:=BX.1 hj;rw[Ar] at hy;have kf:=(AE.1 hy).1;rcases ho with ho|ho;·exfalso;have:=HN.out;omega
       ·rw[ho];exact HC.out (i+j) y hy
      have hf:q1b (w.alloc (.cells #[.int .u64 a] 51)).drew (.slice (some ⟨w.heap.size,0,none⟩) 1 1) 1 [.int .u64 a]:=Or.inr ⟨w.heap.size,0,1,rfl,fun j u hj=>by have:(w.alloc (.cells #[.int .u64 a] 51)).drew.cell? ⟨w.heap.size,0+j,none⟩=_:=(Blk.new w 51 #[.int .u64 a]).drew.cell (0+j);rw[this,AQ];simpa using hj⟩;have y3:w.drew.cell? ⟨s,0,none⟩=some (.slice (some ⟨g,0,none⟩) n cap):=y0;have y4:(w.alloc (.cells #[.int .u64 a] 51)).cell? ⟨s,0,none⟩=some (.slice (some ⟨g,0,none⟩) n cap):=((((Only.refl [] w).alloc (.cells #[.int .u64 a] 51)).blk H.out.blk (by simp)).cell 0).trans (by rw[<- HN.out];rfl);obtain⟨v1,w1,v2,w2,v3,w3,r1,r2,r3,o1,o2,o3,e3,n3⟩:=v3n N w w.drew (z0z w) hN _ _ (xs.take i) (xs.drop i) a h8 (he i (Or.inr rfl)) (by rw[M,L];omega);obtain⟨u1,x1,u2,x2,u3,x3,q1,q2,q3,m1,m2,m3,f3,k3⟩:=v3e N w (w.alloc (.cells #[.int .u64 a] 51)).drew ((ba (Below.refl _ _) _).drew) hN _ _ _ (xs.take i) (xs.drop i) a hf h8 (he i (Or.inr rfl)) (by rw[M,L];omega);rw[<- U.out] at e3 f3;obtain⟨va,vc,rfl⟩:=q0q e3;obtain⟨ua,uc,rfl⟩:=q0q f3;have h9:=hid (H.out.newRow o3 e3 n3);have Y:=hid (H.out.newRow m3 f3 k3);have z1:w1.cell? ⟨s,0,none⟩=some (.slice (some ⟨g,0,none⟩) n cap):=((o1.blk H.out.blk (by simp)).cell 0).trans (by rw[<- HN.out];rfl);have kh:(w1.alloc (.cells #[.int .u64 a] 51)).cell? ⟨s,0,none⟩=some (.slice (some ⟨g,0,none⟩) n cap):=(((o1.alloc (.cells #[.int .u64 a] 51)).blk H.out.blk (by simp)).cell 0).trans (by rw[<- HN.out];rfl);have z2:w2.cell? ⟨s,0,none⟩=some (.slice (some ⟨g,0,none⟩) n cap):=((o2.blk H.out.blk (by simp)).cell 0).trans (by rw[<- HN.out];rfl);have z3:w3.cell? ⟨s,0,none⟩=some (.slice (some ⟨g,0,none⟩) n cap):=((o3.blk H.out.blk (by simp)).cell 0).trans (by rw[<- HN.out];rfl);have kc:=(o3.blk H.out.blk (by simp)).frozen 0;have t1:x1.cell? ⟨s,0,none⟩=some (.slice (some ⟨g,0,none⟩) n cap):=((m1.blk H.out.blk (by simp)).cell 0).trans (by rw[<- HN.out];rfl);have t2:x2.cell? ⟨s,0,none⟩=some (.slice (some ⟨g,0,none⟩) n cap):=((m2.blk H.out.blk (by simp)).cell 0).trans (by rw[<- HN.out];rfl);have t3:x3.cell? ⟨s,0,none⟩=some (.slice (some ⟨g,0,none⟩) n cap):=((m3.blk H.out.blk (by simp)).cell 0).trans (by rw[<- HN.out];rfl);have kb:=(m3.blk H.out.blk (by simp)).frozen 0;clear h8 he hf o1 o2 o3 e3 n3 m1 m2 m3 f3 k3 M L;go_region;all_goals go_wp2
      all_goals go_ret
      ·exact⟨⟨_,rfl⟩,⟨_,h9.out.1,h9.out.2.1⟩,h9.out.2.2⟩
      ·exact⟨⟨_,rfl⟩,⟨_,Y.out.1,Y.out.2.1⟩,Y.out.2.2⟩
     ·have d1:decide ((i:Int)< (n:Int))=false:=AK (by omega);have k4:decide (i<n)=false:=AK hlt;have hq:=hid (show n=i by omega);have ke:(i:Int)<=(n:Int):=by omega
      clear hlt
      obtain⟨o,ho,ht⟩:∃o,(if cap=i then some (⟨g,0,none⟩:Addr) else some ⟨g,i,none⟩)=some ⟨g,o,none⟩/\(n=i\/o=i):=by
       split;·exact⟨0,rfl,Or.inl hq.out⟩
       ·exact⟨i,rfl,Or.inr rfl⟩
      have hz:=hid ht;clear ht;go_upto_region 8 with fail;have ic:i<=cap:=by omega
      have U:Hid (insA xs a=xs.take i++a::xs.drop i):=by show insA xs a=_;unfold insA;rw[if_neg k1.out,HP.out.1,HP.out.2]
      have M:(xs.take i).length=i:=by rw[AU,<- HN.out];omega
      have L:(xs.drop i).length=n-i:=by rw[At,<- HN.out]
      have h8:q1b w (.slice (some ⟨g,0,none⟩) i cap) (xs.take i).length ((xs.take i).map (Value.int .u64)):=by
       rw[M];refine Or.inr ⟨g,0,cap,rfl,fun j u hj=> ?_⟩;rw[AM] at hj;obtain⟨y,hy,rfl⟩:=BX.1 hj;rw[AV] at hy;split at hy;·rw[AQ];exact HC.out j y hy
       ·cases hy
      have he:∀o,(n=i\/o=i)->q1b w (.slice (some ⟨g,o,none⟩) (n-i) (cap-i)) (xs.drop i).length ((xs.drop i).map (Value.int .u64)):=by
       intro o ho;rw[L];refine Or.inr ⟨g,o,_,rfl,fun j u hj=> ?_⟩;rw[AM] at hj;obtain⟨y,hy,rfl⟩:=BX.1 hj;rw[Ar] at hy;have kf:=(AE.1 hy).1;rcases ho with ho|ho;·exfalso;have:=HN.out;omega
       ·rw[ho];exact HC.out (i+j) y hy
      have hf:q1b (w.alloc (.cells #[.int .u64 a] 51)).drew (.slice (some ⟨w.heap.size,0,none⟩) 1 1) 1 [.int .u64 a]:=Or.inr ⟨w.heap.size,0,1,rfl,fun j u hj=>by have:(w.alloc (.cells #[.int .u64 a] 51)).drew.cell? ⟨w.heap.size,0+j,none⟩=_:=(Blk.new w 51 #[.int .u64 a]).drew.cell (0+j);rw[this,AQ];simpa using hj⟩;have y3:w.drew.cell? ⟨s,0,none⟩=some (.slice (some ⟨g,0,none⟩) n cap):=y0;have y4:(w.alloc (.cells #[.int .u64 a] 51)).cell? ⟨s,0,none⟩=some (.slice (some ⟨g,0,none⟩) n cap):=((((Only.refl [] w).alloc (.cells #[.int .u64 a] 51)).blk H.out.blk (by simp)).cell 0).trans (by rw[<- HN.out];rfl);obtain⟨v1,w1,v2,w2,v3,w3,r1,r2,r3,o1,o2,o3,e3,n3⟩:=v3n N w w.drew (z0z w) hN _ _ (xs.take i) (xs.drop i) a h8 (he o hz.out) (by rw[M,L];omega);obtain⟨u1,x1,u2,x2,u3,x3,q1,q2,q3,m1,m2,m3,f3,k3⟩:=v3e N w (w.alloc (.cells #[.int .u64 a] 51)).drew ((ba (Below.refl _ _) _).drew) hN _ _ _ (xs.take i) (xs.drop i) a hf h8 (he o hz.out) (by rw[M,L];omega);rw[<- U.out] at e3 f3;obtain⟨va,vc,rfl⟩:=q0q e3;obtain⟨ua,uc,rfl⟩:=q0q f3;have h9:=hid (H.out.newRow o3 e3 n3);have Y:=hid (H.out.newRow m3 f3 k3);have z1:w1.cell? ⟨s,0,none⟩=some (.slice (some ⟨g,0,none⟩) n cap):=((o1.blk H.out.blk (by simp)).cell 0).trans (by rw[<- HN.out];rfl);have kh:(w1.alloc (.cells #[.int .u64 a] 51)).cell? ⟨s,0,none⟩=some (.slice (some ⟨g,0,none⟩) n cap):=(((o1.alloc (.cells #[.int .u64 a] 51)).blk H.out.blk (by simp)).cell 0).trans (by rw[<- HN.out];rfl);have z2:w2.cell? ⟨s,0,none⟩=some (.slice (some ⟨g,0,none⟩) n cap):=((o2.blk H.out.blk (by simp)).cell 0).trans (by rw[<- HN.out];rfl);have z3:w3.cell? ⟨s,0,none⟩=some (.slice (some ⟨g,0,none⟩) n cap):=((o3.blk H.out.blk (by simp)).cell 0).trans (by rw[<- HN.out];rfl);have kc:=(o3.blk H.out.blk (by simp)).frozen 0;have t1:x1.cell? ⟨s,0,none⟩=some (.slice (some ⟨g,0,none⟩) n cap):=((m1.blk H.out.blk (by simp)).cell 0).trans (by rw[<- HN.out];rfl);have t2:x2.cell? ⟨s,0,none⟩=some (.slice (some ⟨g,0,none⟩) n cap):=((m2.blk H.out.blk (by simp)).cell 0).trans (by rw[<- HN.out];rfl);have t3:x3.cell? ⟨s,0,none⟩=some (.slice (some ⟨g,0,none⟩) n cap):=((m3.blk H.out.blk (by simp)).cell 0).trans (by rw[<- HN.out];rfl);have kb:=(m3.blk H.out.blk (by simp)).frozen 0;clear h8 he hf o1 o2 o3 e3 n3 m1 m2 m3 f3 k3 M L;go_region;all_goals go_wp2
      all_goals go_ret
      ·exact⟨⟨_,rfl⟩,⟨_,h9.out.1,h9.out.2.1⟩,h9.out.2.2⟩
      ·exact⟨⟨_,rfl⟩,⟨_,Y.out.1,Y.out.2.1⟩,Y.out.2.2⟩
end Go.Proofs.YtibiekfjbibpbaaGreat
