import Derived.Test.YtibiekfjbibpbaaGreatArnJ
set_option maxRecDepth 100000
set_option maxHeartbeats 4000000
set_option linter.unusedVariables false
set_option linter.unusedSimpArgs false
namespace Go.Proofs.YtibiekfjbibpbaaGreat
open Go.RowKit
section
attribute [local go_sem ↓ high] q0v
attribute [local go_sem] q0h
theorem x0o:(Tryz.prog.info? 46).map (fun i=>(i.zero,i.size,i.bytes))=some (some (.int .u64 0),1,8):=by kernel_rfl
theorem q8d (N:Nat) (W:World) (x:Value) (l news:List Int) (v:Value) (hx:q1b W x news.length (news.map (Value.int .u64))) (hm:l.length+news.length<=2000000) (hN:N<=W.heap.size) (hr:W.ownsRow N 46 1 v l.length (l.map (Value.int .u64))):
  ∃v' w',q0n Tryz.prog #[22,22] 22 #[v,x] W= .ok v' w'/\w'.ownsRow N 46 1 v' (l++news).length ((l++news).map (Value.int .u64))/\W.grownBy w' v.ownBlock/\(v'.ownBlock=v.ownBlock\/v'.ownBlock=some W.heap.size):=by
 obtain⟨i0,O,I,M,L⟩:=info_parts x0o;obtain⟨v',w',h⟩:=q2b (P:=Tryz.prog) W N 22 22 46 i0 (.int .u64 0) 1 8 Tryz.underlying22 O I M L rfl (by decide) v l.length _ hr x news.length _ hx (by simp) (by intro u hu;obtain⟨y,_,rfl⟩:=Aj.1 hu;rfl) (by unfold maxLen;omega) (by omega) hN;refine⟨v',w',h.run,?_,h.grown,h.ob⟩;rw[AI,Ah];exact h.own
theorem q4p {w W w':World} {o:Option Nat} (ho:Only [] w W) (hg:W.grownBy w' o) (hn:∀k,o=some k->w.heap.size<=k):Only [] w w':=by refine ho.trans (Only.of_grown (f:=o.toList) hg (fun k hk=>by simp[hk])) (fun x hx=>Or.inr (hn x (by simpa using hx)))
theorem q7u {w W:World} {v v':Value} (ho:Only [] w W) (h:v'.ownBlock=v.ownBlock\/v'.ownBlock=some W.heap.size) (hn:∀k,v.ownBlock=some k->w.heap.size<=k):∀k,v'.ownBlock=some k->w.heap.size<=k:=by
 intro k hk;rcases h with e|e;·exact hn k (e▸hk)
 ·rw[e] at hk;injection hk with hk;rw[<- hk];exact ho.size
theorem x7l (N:Nat) (w W:World) (hW:Below w.heap.size w W) (hN:N<=w.heap.size) (p1 p3:Value) (l1 l3:List Int) (a:Int) (h1:q1b w p1 l1.length (l1.map (Value.int .u64))) (h3:q1b w p3 l3.length (l3.map (Value.int .u64))) (hm:l1.length+l3.length<=1000000):
  ∃v1 w1 v2 w2 v3 w3,q0n Tryz.prog #[22,22] 22 #[.slice none 0 0,p1] W= .ok v1 w1/\
   q0n Tryz.prog #[22,22] 22 #[v1,.slice (some ⟨w1.heap.size,0,none⟩) 1 1] (w1.alloc (.cells #[.int .u64 a] 46))= .ok v2 w2/\
   q0n Tryz.prog #[22,22] 22 #[v2,p3] w2= .ok v3 w3/\Only [] w w1/\Only [] w w2/\Only [] w w3/\
   w3.ownsRow N 46 1 v3 (l1++a::l3).length ((l1++a::l3).map (Value.int .u64))/\ ∀k,v3.ownBlock=some k->w.heap.size<=k:=by
 have o0:Only [] w W:=Only.of_below hW [];obtain⟨v1,w1,r1,e1,g1,b1⟩:=q8d N W p1 [] l1 (.slice none 0 0) (h1.bel hW) (by simp;omega) (AH hN hW.size) (World.ownsRow_nil _ _ _ _);have n0:∀k,(Value.slice none 0 0).ownBlock=some k->w.heap.size<=k:=fun k hk=>by simp[Value.ownBlock] at hk
 have o1:=q4p o0 g1 n0;have n1:=q7u o0 b1 n0;rw[Bi] at e1;have I:=o1.alloc (.cells #[.int .u64 a] 46)
 obtain⟨v2,w2,r2,e2,g2,b2⟩:=q8d N (w1.alloc (.cells #[.int .u64 a] 46)) (.slice (some ⟨w1.heap.size,0,none⟩) 1 1) l1 [a] v1
  (Or.inr ⟨w1.heap.size,0,1,rfl,fun j u hj=>by rw[(Blk.new w1 46 #[.int .u64 a]).cell (0+j),AQ];simpa using hj⟩) (by simp;omega) (AH hN I.size) (e1.alloc _)
 have o2:=q4p I g2 n1;have n2:=q7u I b2 n1;obtain⟨v3,w3,r3,e3,g3,b3⟩:=q8d N w2 p3 (l1++[a]) l3 v2 (h3.bel (o2.below (by simp) (AG _))) (by simp;omega) (AH hN o2.size) e2;have o3:=q4p o2 g3 n2;have n3:=q7u o2 b3 n2;rw[BB,CC] at e3;exact⟨v1,w1,v2,w2,v3,w3,r1,r2,r3,o1,o2,o3,e3,n3⟩
theorem x6l (N:Nat) (w W:World) (hW:Below w.heap.size w W) (hN:N<=w.heap.size) (x p1 p3:Value) (l1 l3:List Int) (a:Int) (hx:q1b W x 1 [.int .u64 a]) (h1:q1b w p1 l1.length (l1.map (Value.int .u64))) (h3:q1b w p3 l3.length (l3.map (Value.int .u64))) (hm:l1.length+l3.length<=1000000):
  ∃v1 w1 v2 w2 v3 w3,q0n Tryz.prog #[22,22] 22 #[.slice none 0 0,p1] W= .ok v1 w1/\
   q0n Tryz.prog #[22,22] 22 #[v1,x] w1= .ok v2 w2/\
   q0n Tryz.prog #[22,22] 22 #[v2,p3] w2= .ok v3 w3/\Only [] w w1/\Only [] w w2/\Only [] w w3/\
   w3.ownsRow N 46 1 v3 (l1++a::l3).length ((l1++a::l3).map (Value.int .u64))/\ ∀k,v3.ownBlock=some k->w.heap.size<=k:=by
 have o0:Only [] w W:=Only.of_below hW [];obtain⟨v1,w1,r1,e1,g1,b1⟩:=q8d N W p1 [] l1 (.slice none 0 0) (h1.bel hW) (by simp;omega) (AH hN hW.size) (World.ownsRow_nil _ _ _ _);have n0:∀k,(Value.slice none 0 0).ownBlock=some k->w.heap.size<=k:=fun k hk=>by simp[Value.ownBlock] at hk
 have nW:∀k,(Value.slice none 0 0).ownBlock=some k->W.heap.size<=k:=fun k hk=>by simp[Value.ownBlock] at hk
 have o1:=q4p o0 g1 n0;have oW:=q4p (Only.refl [] W) g1 nW;have n1:=q7u o0 b1 n0;rw[Bi] at e1;obtain⟨v2,w2,r2,e2,g2,b2⟩:=q8d N w1 x l1 [a] v1 (hx.bel (oW.below (by simp) (AG _))) (by simp;omega) (AH hN o1.size) e1;have o2:=q4p o1 g2 n1;have n2:=q7u o1 b2 n1;obtain⟨v3,w3,r3,e3,g3,b3⟩:=q8d N w2 p3 (l1++[a]) l3 v2 (h3.bel (o2.below (by simp) (AG _))) (by simp;omega) (AH hN o2.size) e2;have o3:=q4p o2 g3 n2;have n3:=q7u o2 b3 n2;rw[BB,CC] at e3;exact⟨v1,w1,v2,w2,v3,w3,r1,r2,r3,o1,o2,o3,e3,n3⟩
def atU (out:List Int) (x:Int):Nat:=(out.takeWhile fun y=>decide (y<x)).length
def insU (out:List Int) (x:Int):List Int:=if out[atU out x]?=some x then out else out.take (atU out x)++x::out.drop (atU out x)
def q4s (xs:List Int):Nat->List Int
 | 0=>[]
 | i+1=>insU (q4s xs i) (xs.getD i 0)
theorem v4j {out:List Int} {x:Int} {a:Nat} (h:∀j y,j<a->out[j]?=some y->y<x) (hn:∀y,out[a]?=some y-> ¬y<x) (ha:a<=out.length):atU out x=a:=by
 unfold atU
 induction out generalizing a with
 | nil=>simp at ha;simp[ha]
 | cons y ys ih=>
  cases a with
  | zero=>have:=hn y rfl;simp[this]
  | succ a=>have h0:=h 0 y (by omega) rfl;have:=ih (a:=a) (fun j z hj hz=>h (j+1) z (by omega) hz) (fun z hz=>hn z hz) (by simpa using ha);simp[h0,this]
theorem z4n (out:List Int) (x:Int):(insU out x).length<=out.length+1:=by
 unfold insU;split;·omega
 ·rw[AI,BE,AU,At];omega
theorem v5r {out:List Int} {x y:Int} (h:y∈insU out x):y∈out\/y=x:=by
 unfold insU at h;split at h;·exact Or.inl h
 ·rcases An.1 h with h|h;·exact Or.inl (Ab h)
  ·rcases AN.1 h with h|h;·exact Or.inr h
   ·exact Or.inl (Ak h)
theorem q9v {xs:List Int}:∀{i:Nat},i<=xs.length-> ∀y∈q4s xs i,y∈xs
 | 0,_,y,h=>by cases h
 | i+1,hi,y,h=>by
  rcases v5r h with h|h;·exact q9v (by omega) y h
  ·rw[h,Ag,AD (by omega)];exact List.getElem_mem _
structure RisI (w:World) (v:Value) (out:List Int) (W:World):Prop where
 row:W.ownsRow w.heap.size 46 1 v out.length (out.map (Value.int .u64))
 bel:Below w.heap.size w W
theorem RisI.bel' {w:World} {v:Value} {out:List Int} {W W':World} (h:RisI w v out W) (hb:Below W.heap.size W W'):RisI w v out W':=⟨(Only.of_below hb []).own h.row (by simp),h.bel.trans (hb.mono h.bel.size)⟩
theorem x1x {w:World} {gb k rc:Nat} {out:List Int} {W:World} (h:RisI w (.slice (some ⟨gb,0,none⟩) k rc) out W) (hk:k=out.length) (a:Nat) (ha:a<=k):
  k<=rc/\(out.take a).length=a/\(out.drop a).length=k-a/\q1b W (.slice (some ⟨gb,0,none⟩) a rc) (out.take a).length ((out.take a).map (Value.int .u64))/\
   ∀o c,(k=a\/o=a)->q1b W (.slice (some ⟨gb,o,none⟩) (k-a) c) (out.drop a).length ((out.drop a).map (Value.int .u64)):=by
 have S:(out.take a).length=a:=by rw[AU,<- hk];omega
 have O:(out.drop a).length=k-a:=by rw[At,<- hk]
 have L:=h.row;subst hk
 have Y:out.length<=rc:=by
  rcases L.2 with⟨h1,_⟩|⟨g',U,h5,h1,h2,h3,h4,_⟩;·cases h1
  ·injection h1 with _ _ hc;omega
 have I:∀j,j<out.length->W.cell? ⟨gb,j,none⟩=(out.map (Value.int .u64))[j]?:=fun j hj=>L.cellAt j (by omega);refine⟨Y,S,O,Or.inr ⟨gb,0,rc,by rw[S],fun j u hj=> ?_⟩,fun o c ho=> ?_⟩;·have M:=(AE.1 hj).1;rw[AO,S] at M;rw[AQ,I j (by omega),<- hj,List.map_take,AV,if_pos M]
 ·rw[O];refine Or.inr ⟨gb,o,c,rfl,fun j u hj=> ?_⟩;have M:=(AE.1 hj).1;rw[AO,O] at M;rcases ho with ho|ho;·omega
  ·rw[ho,I (a+j) (by omega),<- hj,List.map_drop,Ar]
def v6b (w:World) (xs:List Int) (most:Nat) (e:Ending) (w':World):Prop:=Below w.heap.size w w'/\ ∃v j,e= .returned v/\j<=xs.length/\(j=xs.length\/most<=(q4s xs j).length)/\(q4s xs j).length<=most/\w'.ownsRow w.heap.size 46 1 v (q4s xs j).length ((q4s xs j).map (Value.int .u64))
theorem v3q (xs:List Int) (I:Nat) (lv:Value) (hl:xs.length<=1000000) (hm:I<=1000) (w:World) (h:q1w .u64 w lv xs):
  Calls Tryz.prog 18 #[lv,.int .i64 (I:Int)] w fun e w'=>v6b w xs I e w':=by
 obtain⟨ao,cap,rfl,h7⟩:=h;obtain⟨n,hn⟩:∃n,n=xs.length:=⟨_,rfl⟩;rw[<- hn];have HN:=hid (⟨hn,hl,hm⟩:_/\_/\_);have kx:=hid h7;have ki:Hid (RisI w (.slice none 0 0) (q4s xs 0) w):=hid ⟨World.ownsRow_nil _ _ _ _,Below.refl _ _⟩;clear hn hl hm h7;go_enter Tryz.func18,Tryz.ntmps18;go_wp2;go_loopw [5,6] (fun rv iv wr=> ∃(i k:Nat) (ra:Option Addr) (rc:Nat),Hid (i<=n/\k=(q4s xs i).length/\k<=I)/\iv= .int .i64 (i:Int)/\rv= .slice ra k rc/\Hid (RisI w (.slice ra k rc) (q4s xs i) wr)) (fun _ iv _=>n- (intOf iv).toNat);case atStart=>exact⟨0,0,none,0,hid ⟨Af _,rfl,Af _⟩,rfl,rfl,ki⟩
 case round=>
  obtain⟨i,k,ra,rc,hK,rfl,rfl,hI⟩:=hrel;obtain⟨wA,rfl⟩:∃y,y=wr:=⟨_,rfl⟩;clear ki;have k8:k<=1000:=by have:=hK.out;have:=HN.out;omega
  by_cases hgo:i<n/\k<I
  ·have i1:(i:Int)< (n:Int):=by omega
   have i2:(k:Int)< (I:Int):=by omega
   have i0:(0:Int)<=(i:Int):=by omega
   have k9:(i:Int)<=1000000:=by have:=HN.out;omega
   obtain⟨out,h8⟩:∃o,o=q4s xs i:=⟨_,rfl⟩;rw[<- h8] at hI;obtain⟨x,hx⟩:∃x,xs[i]?=some x:=⟨_,AD (by have:=HN.out;omega)⟩
   obtain⟨lb,off,rfl,kd,kf⟩:∃lb off,ao=some ⟨lb,off,none⟩/\lb<w.heap.size/\w.cell? ⟨lb,off+i,none⟩=some (.int .u64 x):=by
    rcases kx.out with h|⟨lb,off,q1,q2,q3⟩;·rw[h] at hx;simp at hx
    ·exact⟨lb,off,q1,q2,q3 i x hx⟩
   have hs:=hid (fun(W:World) (hb:Below w.heap.size w W)=>(hb.cell (p:=⟨lb,off+i,none⟩) kd).trans kf);have kh:k=out.length:=by rw[h8];exact hK.out.2.1
   have kj:q4s xs (i+1)=insU out x:=by show insU (q4s xs i) (xs.getD i 0)=_;rw[<- h8,Ag,hx];rfl
   have HR:=hid (⟨hgo.1,hgo.2,kh,kj⟩:_/\_/\_/\_);have kn:Hid (RisI w (.slice ra k rc) out wA/\ ∀j y,j<0->out[j]?=some y->y<x):=hid ⟨hI.out,fun j y hj=>absurd hj (BP _)⟩;clear hgo h8 hx kd kf kh kj hI hK;go_wp2;go_loopw [7] (fun av wr=> ∃a:Nat,a<=k/\av= .int .i64 (a:Int)/\Hid (RisI w (.slice ra k rc) out wr/\ ∀j y,j<a->out[j]?=some y->y<x)) (fun av _=>k- (intOf av).toNat);case atStart=>exact⟨0,Af _,rfl,kn⟩
   case round=>
    obtain⟨a,k0,rfl,hA⟩:=hrel;obtain⟨wB,rfl⟩:∃y,y=wr:=⟨_,rfl⟩;clear kn;have a0:(0:Int)<=(a:Int):=by omega
    have y0:=hs.out wB hA.out.1.bel;by_cases hlt:a<k
    ·obtain⟨y,hy⟩:∃y,out[a]?=some y:=⟨_,AD (by have:=HR.out.2.2.1;omega)⟩;obtain⟨gb,rfl,yc⟩:∃gb,ra=some ⟨gb,0,none⟩/\wB.cell? ⟨gb,a,none⟩=some (.int .u64 y):=by have k1:=hA.out.1.row;rw[<- HR.out.2.2.1] at k1;obtain⟨gb,cp,q1,q2,q3,q4,q5⟩:=q2e k1 (by omega);injection q1 with q1 _ _;refine⟨gb,q1,?_⟩;have:=q5 a (.int .u64 y) (by rw[AM,hy];rfl);rw[AQ] at this;exact this
     have d1:decide ((a:Int)< (k:Int))=true:=AT (by omega);have kb:decide (a<k)=true:=AT hlt;have d0:(a:Int)< (k:Int):=by omega
     by_cases hyx:y<x
     ·have d2:decide (y<x)=true:=AT hyx
      have kg:Hid (RisI w (.slice (some ⟨gb,0,none⟩) k rc) out wB/\ ∀j z,j<a+1->out[j]?=some z->z<x):=hid ⟨hA.out.1,fun j z hj hz=>by
       rcases(by omega:j<a\/j=a) with h|h;·exact hA.out.2 j z h hz
       ·rw[h,hy] at hz;injection hz with hz;omega⟩
      have kc:=hid hlt;clear hlt hyx hy k0;go_upto_region 6 with fail;go_quiet (fail);go_wp2;go_roundw;case rel=>exact⟨a+1,kc.out,by go_num,hid ⟨kg.out.1.bel' ⟨rfl,rfl,rfl,AG _,fun _ _=>rfl⟩,kg.out.2⟩⟩
      case measure=>simp[intOf];have:=kc.out;omega
     ·have d2:decide (y<x)=false:=AK hyx;have h7:atU out x=a:=v4j hA.out.2 (fun z hz=>by rw[hy] at hz;injection hz with hz;omega) (by have:=HR.out.2.2.1;omega);go_upto_region 6 with fail;go_quiet (fail);go_upto_region 8 with fail;obtain⟨wC,h9⟩:∃x,x=wB.drewN nq:=⟨_,rfl⟩;rw[<- h9];have ht:Below wB.heap.size wB wC:=by rw[h9];exact⟨rfl,rfl,rfl,AG _,fun _ _=>rfl⟩
      have HC:=hid (hA.out.1.bel' ht);have kt:wC.cell? ⟨gb,a,none⟩=some (.int .u64 y):=by rw[h9];exact yc
      have kz:wC.cell? ⟨lb,off+i,none⟩=some (.int .u64 x):=by rw[h9];exact y0
      clear yc y0 h9 ht d2;by_cases he:y=x
      ·have e1:(y==x)=true:=by simp[he]
       have L:insU out x=out:=by unfold insU;rw[h7,hy,he,if_pos rfl]
       have kp:Hid (i+1<=n/\k=(q4s xs (i+1)).length/\k<=I):=hid ⟨HR.out.1,by rw[HR.out.2.2.2,L];exact HR.out.2.2.1,by have:=HR.out;omega⟩;have ky:Hid (RisI w (.slice (some ⟨gb,0,none⟩) k rc) (q4s xs (i+1)) (wC.drewN 1)):=by rw[HR.out.2.2.2,L];exact hid (HC.out.bel' ⟨rfl,rfl,rfl,AG _,fun _ _=>rfl⟩)
       clear hlt hyx hy k0 h7 L he hA;go_quiet (fail);go_wp2;go_roundw;case rel=>exact⟨i+1,k,_,rc,kp,by go_num,rfl,hid (ky.out.bel' ⟨rfl,rfl,rfl,AG _,fun _ _=>rfl⟩)⟩
       case measure=>simp[intOf];have:=kp.out;omega
      ·have e1:(y==x)=false:=by simp[he]
       go_quiet (fail);go_upto_region 9 with fail;obtain⟨wE,hh⟩:∃x,x=wC.drewN nq:=⟨_,rfl⟩;rw[<- hh];have k4:Below wC.heap.size wC wE:=by rw[hh];exact⟨rfl,rfl,rfl,AG _,fun _ _=>rfl⟩
       have HE:=hid (HC.out.bel' k4);clear hh k4 kt kz e1 d1 kb;have L:insU out x=out.take a++x::out.drop a:=by unfold insU;rw[h7,hy,if_neg (fun h=>he (Aw h))]
       obtain⟨k7,hq,hi,hp,U⟩:=x1x HE.out HR.out.2.2.1 a k0;have hg:=U a (rc-a) (Or.inr rfl);have z5: ¬rc=a:=by omega
       have ic:a<=rc:=by omega
       have z3:(a:Int)<=(rc:Int):=by omega
       clear U h7 he hyx hy hA;have M:Below w.heap.size w wE:=HE.out.bel;have O:w.heap.size<=wE.heap.size:=M.size;have yE:wE.drew.cell? ⟨lb,off+i,none⟩=some (.int .u64 x):=hs.out wE.drew M.drew;have hf:q1b (wE.alloc (.cells #[.int .u64 x] 46)).drew (.slice (some ⟨wE.heap.size,0,none⟩) 1 1) 1 [.int .u64 x]:=Or.inr ⟨wE.heap.size,0,1,rfl,fun j u hj=>by have:(wE.alloc (.cells #[.int .u64 x] 46)).drew.cell? ⟨wE.heap.size,0+j,none⟩=_:=(Blk.new wE 46 #[.int .u64 x]).drew.cell (0+j);rw[this,AQ];simpa using hj⟩;obtain⟨v1,w1,v2,w2,v3,w3,r1,r2,r3,o1,o2,o3,e3,n3⟩:=x7l w.heap.size wE wE.drew (z0z wE) O _ _ (out.take a) (out.drop a) x hp hg (by rw[hq,hi];have:=HR.out.2.2.1;omega);obtain⟨u1,x1,u2,x2,u3,x3,q1,q2,q3,m1,m2,m3,f3,k3⟩:=x6l w.heap.size wE (wE.alloc (.cells #[.int .u64 x] 46)).drew ((ba (Below.refl _ _) _).drew) O _ _ _ (out.take a) (out.drop a) x hf hp hg (by rw[hq,hi];have:=HR.out.2.2.1;omega);rw[<- L] at e3 f3;obtain⟨va,vc,rfl⟩:=q0q e3;obtain⟨ua,uc,rfl⟩:=q0q f3;have kr:w1.cell? ⟨lb,off+i,none⟩=some (.int .u64 x):=hs.out w1 (M.trans (o1.below (by simp) O));have ha:Hid (RisI w (.slice va (insU out x).length vc) (insU out x) w3):=hid ⟨e3,M.trans (o3.below (by simp) O)⟩;have hr:Hid (RisI w (.slice ua (insU out x).length uc) (insU out x) x3):=hid ⟨f3,M.trans (m3.below (by simp) O)⟩;obtain⟨K,hK⟩:∃K,K=(insU out x).length:=⟨_,rfl⟩;have S:Hid (i+1<=n/\K=(q4s xs (i+1)).length/\K<=I):=hid ⟨HR.out.1,by rw[HR.out.2.2.2,hK],by have:=z4n out x;have h3:=HR.out.2.1;have h4:=HR.out.2.2.1;omega⟩;rw[<- hK] at r3 q3 ha hr;rw[<- HR.out.2.2.2] at ha hr;have z1:=hid hK;clear hK hp hg hf o1 o2 o3 e3 n3 m1 m2 m3 f3 k3 hq hi L M O;go_region
       ·go_wp2;go_roundw;case rel=>exact⟨i+1,K,_,_,S,by go_num,rfl,ha⟩
        case measure=>simp[intOf];have:=S.out;omega
       ·go_wp2;go_roundw;case rel=>exact⟨i+1,K,_,_,S,by go_num,rfl,hr⟩
        case measure=>simp[intOf];have:=S.out;omega
    ·obtain rfl:a=k:=by omega
     have d1:decide ((a:Int)< (a:Int))=false:=AK (by omega);have kb:decide (a<a)=false:=AK (by omega);have d0: ¬(a:Int)< (a:Int):=by omega
     have h6:out[a]?=none:=Ax (by have:=HR.out.2.2.1;omega);have h7:atU out x=a:=v4j hA.out.2 (fun z hz=>by rw[h6] at hz;cases hz) (by have:=HR.out.2.2.1;omega);have L:insU out x=out.take a++x::out.drop a:=by unfold insU;rw[h7,h6,if_neg (fun h=>by cases h)]
     clear h7 h6 hlt;go_upto_region 6 with fail;go_quiet (fail);go_upto_region 8 with fail;obtain⟨wC,h9⟩:∃x,x=wB.drewN nq:=⟨_,rfl⟩;rw[<- h9];have ht:Below wB.heap.size wB wC:=by rw[h9];exact⟨rfl,rfl,rfl,AG _,fun _ _=>rfl⟩
     have HC:=hid (hA.out.1.bel' ht);clear h9 ht;go_quiet (fail);go_upto_region 9 with fail;obtain⟨wE,hh⟩:∃x,x=wC.drewN nq:=⟨_,rfl⟩;rw[<- hh];have k4:Below wC.heap.size wC wE:=by rw[hh];exact⟨rfl,rfl,rfl,AG _,fun _ _=>rfl⟩
     have HE:=hid (HC.out.bel' k4);clear hh k4 y0 d1 kb hA;have Y:=HE.out.row;rcases Y.2 with⟨h1,h2⟩|⟨gb,kq,z6,h1,_⟩
     ·injection h1 with h1 h1a h1b;subst h1 h1a h1b;have ke:out=[]:=BC h2;have h5:insU out x=[x]:=by rw[L,ke];rfl
      have M:Below w.heap.size w wE:=HE.out.bel;have O:w.heap.size<=wE.heap.size:=M.size;have yE:wE.drew.cell? ⟨lb,off+i,none⟩=some (.int .u64 x):=hs.out wE.drew M.drew;obtain⟨ko,k5,z4,z0,z2⟩:=info_parts x0o;have hf:q1b (wE.alloc (.cells #[.int .u64 x] 46)).drew (.slice (some ⟨wE.heap.size,0,none⟩) 1 1) 1 [.int .u64 x]:=Or.inr ⟨wE.heap.size,0,1,rfl,fun j u hj=>by have:(wE.alloc (.cells #[.int .u64 x] 46)).drew.cell? ⟨wE.heap.size,0+j,none⟩=_:=(Blk.new wE 46 #[.int .u64 x]).drew.cell (0+j);rw[this,AQ];simpa using hj⟩;have oA:Only [] wE (wE.alloc (.cells #[.int .u64 x] 46)).drew:=((Only.refl [] wE).alloc _).drew;obtain⟨v2,w2,r2,e2,g2,b2⟩:=q8d w.heap.size (wE.alloc (.cells #[.int .u64 x] 46)).drew (.slice (some ⟨wE.heap.size,0,none⟩) 1 1) [] [x] (.slice none 0 0) hf (by simp) (AH O oA.size) (World.ownsRow_nil _ _ _ _);have n1:∀W,q0n Tryz.prog #[22,22] 22 #[.slice none 0 0,.slice none 0 0] W= .ok (.slice none 0 0) W:=fun W=>run_append_owned_none (P:=Tryz.prog) (w:=W) 0 _ _ _ ko 1 Tryz.underlying22 k5 _ 0 [] (World.ownsRow_nil _ _ _ _);have n3:q0n Tryz.prog #[22,22] 22 #[v2,.slice none 0 0] w2= .ok v2 w2:=run_append_owned_none (P:=Tryz.prog) (w:=w2) w.heap.size _ _ _ ko 1 Tryz.underlying22 k5 _ _ _ e2;have o2:Only [] wE w2:=q4p oA g2 (fun k hk=>by simp[Value.ownBlock] at hk);obtain⟨va,vc,rfl⟩:=q0q e2;have ha:Hid (RisI w (.slice va 1 vc) (q4s xs (i+1)) w2):=by rw[HR.out.2.2.2,h5];exact hid ⟨e2,M.trans (o2.below (by simp) O)⟩
      have S:Hid (i+1<=n/\1=(q4s xs (i+1)).length/\1<=I):=hid ⟨HR.out.1,by rw[HR.out.2.2.2,h5];rfl,by have:=HR.out.2.1;omega⟩;simp only[List.nil_append,List.length_singleton] at r2 n3;clear Y h2 ke L h5 M O hf oA e2 g2 b2 o2 k5 z4 z0 z2 k0;go_region;go_wp2;go_roundw;case rel=>exact⟨i+1,1,_,_,S,by go_num,rfl,ha⟩
      case measure=>simp[intOf];have:=S.out;omega
     ·injection h1 with h1 h1a h1b;clear h1a h1b;subst h1;obtain⟨k7,hq,hi,hp,U⟩:=x1x HE.out HR.out.2.2.1 a k0
      obtain⟨o,ho,kk⟩:∃o,(if rc=a then some (⟨gb,0,none⟩:Addr) else some ⟨gb,a,none⟩)=some ⟨gb,o,none⟩/\(a=a\/o=a):=by
       split;·exact⟨0,rfl,Or.inl rfl⟩
       ·exact⟨a,rfl,Or.inr rfl⟩
      have hg:=U o (rc-a) kk;rw[Bz] at hg;have ic:a<=rc:=by omega
      have z3:(a:Int)<=(rc:Int):=by omega
      clear U kk Y;have M:Below w.heap.size w wE:=HE.out.bel;have O:w.heap.size<=wE.heap.size:=M.size;have yE:wE.drew.cell? ⟨lb,off+i,none⟩=some (.int .u64 x):=hs.out wE.drew M.drew;have hf:q1b (wE.alloc (.cells #[.int .u64 x] 46)).drew (.slice (some ⟨wE.heap.size,0,none⟩) 1 1) 1 [.int .u64 x]:=Or.inr ⟨wE.heap.size,0,1,rfl,fun j u hj=>by have:(wE.alloc (.cells #[.int .u64 x] 46)).drew.cell? ⟨wE.heap.size,0+j,none⟩=_:=(Blk.new wE 46 #[.int .u64 x]).drew.cell (0+j);rw[this,AQ];simpa using hj⟩;obtain⟨v1,w1,v2,w2,v3,w3,r1,r2,r3,o1,o2,o3,e3,n3⟩:=x7l w.heap.size wE wE.drew (z0z wE) O _ _ (out.take a) (out.drop a) x hp hg (by rw[hq,hi];have:=HR.out.2.2.1;omega);obtain⟨u1,x1,u2,x2,u3,x3,q1,q2,q3,m1,m2,m3,f3,k3⟩:=x6l w.heap.size wE (wE.alloc (.cells #[.int .u64 x] 46)).drew ((ba (Below.refl _ _) _).drew) O _ _ _ (out.take a) (out.drop a) x hf hp hg (by rw[hq,hi];have:=HR.out.2.2.1;omega);rw[<- L] at e3 f3;obtain⟨va,vc,rfl⟩:=q0q e3;obtain⟨ua,uc,rfl⟩:=q0q f3;have kr:w1.cell? ⟨lb,off+i,none⟩=some (.int .u64 x):=hs.out w1 (M.trans (o1.below (by simp) O));have ha:Hid (RisI w (.slice va (insU out x).length vc) (insU out x) w3):=hid ⟨e3,M.trans (o3.below (by simp) O)⟩;have hr:Hid (RisI w (.slice ua (insU out x).length uc) (insU out x) x3):=hid ⟨f3,M.trans (m3.below (by simp) O)⟩;obtain⟨K,hK⟩:∃K,K=(insU out x).length:=⟨_,rfl⟩;have S:Hid (i+1<=n/\K=(q4s xs (i+1)).length/\K<=I):=hid ⟨HR.out.1,by rw[HR.out.2.2.2,hK],by have:=z4n out x;have h3:=HR.out.2.1;have h4:=HR.out.2.2.1;omega⟩;rw[<- hK] at r3 q3 ha hr;rw[<- HR.out.2.2.2] at ha hr;have z1:=hid hK;clear hK hp hg hf o1 o2 o3 e3 n3 m1 m2 m3 f3 k3 hq hi L M O;go_region
      ·go_wp2;go_roundw;case rel=>exact⟨i+1,K,_,_,S,by go_num,rfl,ha⟩
       case measure=>simp[intOf];have:=S.out;omega
      ·go_wp2;go_roundw;case rel=>exact⟨i+1,K,_,_,S,by go_num,rfl,hr⟩
       case measure=>simp[intOf];have:=S.out;omega
  ·have km:=hK.out;by_cases k9:i<n
   ·have i1:(i:Int)< (n:Int):=by omega
    have i2: ¬(k:Int)< (I:Int):=by omega
    have HF:Hid (v6b w xs I (.returned (.slice ra k rc)) wA):=hid ⟨hI.out.bel,_,i,rfl,by have:=HN.out.1;omega,Or.inr (by omega),by omega,hI.out.row⟩;clear hgo k9 hI km;go_wp2;go_ret;exact HF.out
   ·have i1: ¬(i:Int)< (n:Int):=by omega
    have HF:Hid (v6b w xs I (.returned (.slice ra k rc)) wA):=hid ⟨hI.out.bel,_,i,rfl,by have:=HN.out.1;omega,Or.inl (by have:=HN.out.1;omega),by omega,hI.out.row⟩;clear hgo k9 hI km;go_wp2;go_ret;exact HF.out
end
section
attribute [local go_sem ↓ high] x1r z7q
attribute [local go_sem] q1x q1v
structure SpA (W:World) (N g b n:Nat) (R:AR) (lv:Value) (rows:List (List (Nat×NodeA))):Prop where
 ar:ArIs W g b n R lv
 lvs:LvsA W N lv rows
 sl:n=1024*(R.slabs+1)/\1<=R.slabs/\R.slabs<=64
 rne:rows≠[]
 rl:rows.length<=100
 rin:∀r∈rows,r≠[]/\r.length<=1000/\ ∀x∈r,x.1+192<=n
def I64 (x:Int):Prop:= -9223372036854775808<=x/\x<=9223372036854775807
theorem umod (A:Int) (m:Nat) (hm:0<m):∃r:Nat,r<m/\Int.tmod (IntKind.u64.wrap A) (m:Int)=(r:Int):=by
 have h0:0<=IntKind.u64.wrap A:=by rw[IntKind.wrap_u64];omega
 have h1:=Int.tmod_nonneg (m:Int) h0;have h2:=Int.tmod_lt_of_pos (IntKind.u64.wrap A) (show(0:Int)< (m:Int) by omega);exact⟨(Int.tmod (IntKind.u64.wrap A) (m:Int)).toNat,by omega,by omega⟩
end
section
theorem x1b (v:Value):Instr.loadAt 133 v=ldM 133 v:=rfl
attribute [local go_sem ↓ high] x1b
attribute [local go_sem] q1x q1v
end
end Go.Proofs.YtibiekfjbibpbaaGreat
