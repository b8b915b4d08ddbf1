import Derived.Sort.AssemblyPlain
import Derived.BigQuiet
import Derived.Test.YtibiekfjbibpbaaGreatRow
import Derived.Deep.DeepCutAuto
import Derived.Deep.CutBlock
set_option maxRecDepth 100000
set_option maxHeartbeats 8000000
set_option linter.unusedVariables false
set_option linter.unusedSimpArgs false
namespace Go.Proofs.YtibiekfjbibpbaaGreat
open Go.RowKit
section
open Go.Sort (swp insInner insOuter insertionSort ltInt SWO PermIn SortedIn)
theorem z8j (l:List Value) (i:Nat) (v:Value):l.toArray.setIfInBounds i v=(l.set i v).toArray:=by apply DV;simp
def rowC (d:Array Int) (tl:List Value):Array Value:=(d.toList.map (Value.int .u64)++tl).toArray
structure RowS (w:World) (g n:Nat) (d:Array Int) (tl:List Value):Prop where
 blk:Blk w g 51 (rowC d tl)
 size:d.size=n
section
variable {w w':World} {g n:Nat} {d:Array Int} {tl:List Value}
theorem bang {d:Array Int} {i:Nat} (h:i<d.size):d[i]?=some d[i]! :=by rw[AS h,getElem!_pos d i h]
theorem RowS.cell (h:RowS w g n d tl) {i:Nat} (hi:i<n):w.cell? ⟨g,i,none⟩=some (.int .u64 d[i]!):=by
 have I:i<d.size:=by rw[h.size];exact hi
 rw[h.blk.cell];unfold rowC;rw[Az,Aa (by simpa using I),AM,Ad,bang I];rfl
theorem RowS.frozen (h:RowS w g n d tl) (i:Nat):w.frozen? ⟨g,i,none⟩=false:=h.blk.frozen i
theorem RowS.only {f:List Nat} (h:RowS w g n d tl) (ho:Only f w w') (hg:g∉f):RowS w' g n d tl:=⟨ho.blk h.blk hg,h.size⟩
theorem RowS.drew (h:RowS w g n d tl):RowS w.drew g n d tl:=⟨h.blk.drew,h.size⟩
theorem RowS.drewN (h:RowS w g n d tl) (q:Nat):RowS (w.drewN q) g n d tl:=⟨h.blk.drewN q,h.size⟩
theorem RowS.set_ (h:RowS w g n d tl) {i:Nat} (x:Int) (hi:i<n):RowS (w.setCell ⟨g,i,none⟩ (.int .u64 x)) g n (d.setIfInBounds i x) tl:=by
 refine⟨?_,by simpa using h.size⟩;have:=h.blk.set_ i (.int .u64 x);have he:(rowC d tl).setIfInBounds i (.int .u64 x)=rowC (d.setIfInBounds i x) tl:=by unfold rowC;rw[z8j,List.set_append_left _ _ (by simpa[h.size] using hi),CU,List.map_set]
 rw[he] at this;exact this
theorem RowS.swp (h:RowS w g n d tl) {i j:Nat} (hi:i<n) (hj:j<n):RowS ((w.setCell ⟨g,i,none⟩ (.int .u64 d[j]!)).setCell ⟨g,j,none⟩ (.int .u64 d[i]!)) g n (swp d i j) tl:=(h.set_ d[j]! hi).set_ d[i]! hj
theorem RowS.swpV (h:RowS w g n d tl) {i j:Nat} (hi:i<n) (hj:j<n) {x y:Int} (hx:x=d[i]!) (hy:y=d[j]!):RowS ((w.setCell ⟨g,i,none⟩ (.int .u64 y)).setCell ⟨g,j,none⟩ (.int .u64 x)) g n (Go.Sort.swp d i j) tl:=by subst hx hy;exact h.swp hi hj
theorem q2q (w:World) (g i j:Nat) (x y:Value):Only [g] w ((w.setCell ⟨g,i,none⟩ x).setCell ⟨g,j,none⟩ y):=((Only.refl _ _).setCell (Or.inl (by simp)) _).setCell (Or.inl (by simp)) _
end
theorem q2s {q:Nat} (h:q<=2000000000):IntKind.i64.wrap (q:Int)=(q:Int):=by unfold IntKind.wrap;simp[IntKind.signed,IntKind.bits];omega
theorem v3t {q:Nat} (h:q<=2000000000):IntKind.i64.wrap ((q:Int)+1)=(q:Int)+1:=by unfold IntKind.wrap;simp[IntKind.signed,IntKind.bits];omega
theorem x3f {b:Bool} (h:(!b)=true):b=false:=by cases b<;>simp_all
theorem x3u {b:Bool} (h:(!b)=false):b=true:=by cases b<;>simp_all
theorem v4e (x:Int) (w:World):Calls Tryz.prog 260 #[.int .u64 x] w fun e w'=>e= .returned (.bool false)/\w'=w:=by go_enter Tryz.func260,Tryz.ntmps260;go_wp2;go_ret;exact⟨by simp,rfl⟩
theorem q2n (x y:Int) (w:World):Calls Tryz.prog 228 #[.int .u64 x,.int .u64 y] w fun e w'=>e= .returned (.bool (ltInt x y))/\w'=w:=by go_enter Tryz.func228,Tryz.ntmps228;go_wp2_with (go_at_call 260;refine(v4e _ _).mono ?_;rintro e w' ⟨rfl,rfl⟩);go_ret;exact⟨rfl,rfl⟩
section
variable (lt:Int->Int->Bool)
theorem z8a (a k:Nat) (d:Array Int) (hj:a<k+1) (hl:lt d[k+1]! d[k]! =true):insInner lt a (k+1) d=insInner lt a k (swp d (k+1) k):=by rw[insInner];simp[hl,show k+1>a from hj]
theorem z4i (a k:Nat) (d:Array Int) (h:lt d[k+1]! d[k]! =false):insInner lt a (k+1) d=d:=by rw[insInner];simp[h]
theorem z7y (a j:Nat) (d:Array Int) (h:j<=a):insInner lt a j d=d:=by
 cases j with
 | zero=>rw[insInner]
 | succ k=>rw[insInner];simp[show ¬k+1>a by omega]
theorem z2w (a b i:Nat) (d:Array Int) (h:i<b):insOuter lt a b i d=insOuter lt a b (i+1) (insInner lt a i d):=by rw[insOuter,if_pos h]
theorem z5d (a b i:Nat) (d:Array Int) (h: ¬i<b):insOuter lt a b i d=d:=by rw[insOuter,if_neg h]
end
theorem z9z (g n cap:Nat) (d:Array Int) (tl:List Value) (a b:Nat) (h2:a<=b) (hb:b<=n) (hn:n<=1000000000) (w:World) (h:RowS w g n d tl):
  Calls Tryz.prog 222 #[.slice (some ⟨g,0,none⟩) n cap,.int .i64 (a:Int),.int .i64 (b:Int)] w fun e w'=>(∃r,e= .returned r)/\RowS w' g n (insertionSort ltInt d a b) tl/\Only [g] w w':=by
 have H:=hid h;have AB:=hid h2;have BN:=hid hb;have a1:(a:Int)<=1000000000:=by omega
 have HN:=hid hn;clear h h2 hb hn;go_enter Tryz.func222,Tryz.ntmps222;go_wp2
 go_loopw [6] (fun vi wr=> ∃(i:Nat) (dk:Array Int),vi= .int .i64 i/\Hid (a<i/\i<=b+1)/\Hid (RowS wr g n dk tl)/\Hid (Only [g] w wr)/\
   Hid (insOuter ltInt a b i dk=insertionSort ltInt d a b)) (fun vi _=>b+1- (intOf vi).toNat)
 case atStart=>have:=AB.out;exact⟨a+1,d,by go_num,(⟨by omega,by omega⟩:a<a+1/\a+1<=b+1),H,Only.refl _ _,rfl⟩
 case round=>
  obtain⟨i,dk,rfl,U,hR,hO,hI⟩:=hrel;by_cases hib:i<b
  ·have i1:(i:Int)< (b:Int):=by omega
   have i2:(i:Int)<=1000000000:=by have:=BN.out;have:=HN.out;omega
   have I:=hid hib;clear hib;go_wp2
   go_loopw [7] (fun vj h1=> ∃(j:Nat) (dj:Array Int),vj= .int .i64 j/\Hid (a<=j/\j<=i)/\Hid (RowS h1 g n dj tl)/\Hid (Only [g] w h1)/\
     Hid (insInner ltInt a j dj=insInner ltInt a i dk)) (fun vj _=>(intOf vj).toNat)
   case atStart=>exact⟨i,dk,rfl,(⟨by have:=U.out.1;omega,AG _⟩:a<=i/\i<=i),hR,hO,rfl⟩
   case round=>
    obtain⟨j,dj,rfl,O,L,Y,M⟩:=hrel;by_cases hja:a<j
    ·obtain⟨k,rfl⟩:∃k,j=k+1:=⟨j-1,by omega⟩;have h3:k+1<n:=by have:=O.out.2;have:=I.out;have:=BN.out;omega
     have h4:=HN.out;obtain⟨x,hx⟩:∃x,x=dj[k+1]! :=⟨_,rfl⟩;obtain⟨y,hy⟩:∃y,y=dj[k]! :=⟨_,rfl⟩;have c1:wr.cell? ⟨g,k+1,none⟩=some (.int .u64 x):=by rw[hx];exact L.out.cell h3
     have c2:wr.cell? ⟨g,k,none⟩=some (.int .u64 y):=by rw[hy];exact L.out.cell (by omega)
     have f1:=L.out.frozen (k+1);have f2:=L.out.frozen k;have HX:=hid hx;have HY:=hid hy;have hd:decide (((k:Int)+1)>(a:Int))=true:=by simp;omega
     clear hx hy;have S:Hid (ltInt x y=false-> ∀q,∃i' dk',Value.int .i64 ((i:Int)+1)= .int .i64 (i':Nat)/\Hid (a<i'/\i'<=b+1)/\Hid (RowS (wr.drewN q) g n dk' tl)/\Hid (Only [g] w (wr.drewN q))/\Hid (insOuter ltInt a b i' dk'=insertionSort ltInt d a b)):=by intro hl q;refine⟨i+1,dj,by go_num,(⟨by have:=U.out.1;omega,by have:=I.out;omega⟩:a<i+1/\i+1<=b+1),L.out.drewN q,Y.out.drewN q,?_⟩;show insOuter ltInt a b (i+1) dj=_;rw[<- hI.out,z2w _ _ _ _ _ I.out,<- M.out,z4i _ _ _ _ (by rw[<- HX.out,<- HY.out];exact hl)]
     go_wp2;go_quiet (first|(go_at_call 228;exact Calls.quiet_of_same (q2n _ _ _)));go_wp2
     ·have hl:Hid (ltInt x y=true):=by assumption
      go_region;all_goals go_wp2
      go_roundw
      case rel=>
       refine⟨k,swp dj (k+1) k,by congr 1<;>omega,(⟨by omega,by have:=O.out.2;omega⟩:a<=k/\k<=i),?_,?_,?_⟩;·have:=((L.out.drewN nq).drew).swp h3 (show k<n by omega);rw[<- HX.out,<- HY.out] at this;exact this
       ·exact((Y.out.drewN nq).drew).trans (q2q _ g _ _ _ _) (fun x hx=>Or.inl hx)
       ·show insInner ltInt a k _=_;rw[<- M.out,z8a ltInt a k dj hja (by rw[<- HX.out,<- HY.out];exact hl.out)]
      case measure=>first|(simp[intOf];done)|(simp[intOf];omega)
     ·have hl:ltInt x y=false:=by assumption
      go_roundw;case rel=>exact S.out hl nq
      case measure=>first|(simp[intOf];done)|(simp[intOf];omega)
    ·have hd:decide ((j:Int)>(a:Int))=false:=by simp;omega
     have h4:=HN.out;have e:j=a:=by have:=O.out.1;omega
     have S:Hid (∀q,∃i' dk',Value.int .i64 ((i:Int)+1)= .int .i64 (i':Nat)/\Hid (a<i'/\i'<=b+1)/\Hid (RowS (wr.drewN q) g n dk' tl)/\Hid (Only [g] w (wr.drewN q))/\Hid (insOuter ltInt a b i' dk'=insertionSort ltInt d a b)):=by intro q;refine⟨i+1,dj,by go_num,(⟨by have:=U.out.1;omega,by have:=I.out;omega⟩:a<i+1/\i+1<=b+1),L.out.drewN q,Y.out.drewN q,?_⟩;show insOuter ltInt a b (i+1) dj=_;rw[<- hI.out,z2w _ _ _ _ _ I.out,<- M.out,z7y _ _ _ _ (by omega)]
     subst e;go_wp2;go_quiet (first|(go_at_call 228;exact Calls.quiet_of_same (q2n _ _ _)));go_wp2;go_roundw;case rel=>exact S.out nq
     case measure=>first|(simp[intOf];done)|(simp[intOf];omega)
  ·have i1: ¬(i:Int)< (b:Int):=by omega
   have I:=hid hib;clear hib;go_wp2;go_end0;exact⟨⟨_,rfl⟩,by rw[<- hI.out,z5d _ _ _ _ _ I.out];exact hR.out,hO.out⟩
end
section
open Go.Sort (swp insInner insOuter insertionSort ltInt SWO PermIn SortedIn siftDown heapBuild heapPop heapSort reverseLoop reverseRange)
theorem v0r (hi f r:Nat) (d:Array Int) (h: ¬2*r+1<hi):siftDown ltInt hi f r d=d:=by rw[siftDown];simp[show 2*r+1≥hi by omega]
theorem v6u (hi f r q:Nat) (d:Array Int) (h:2*r+1<hi)
  (hq:(2*r+2<hi/\ltInt d[f+(2*r+1)]! d[f+(2*r+1)+1]! =true/\q=2*r+2)\/((2*r+2<hi->ltInt d[f+(2*r+1)]! d[f+(2*r+1)+1]! =false)/\q=2*r+1)):
  siftDown ltInt hi f r d=if ltInt d[f+r]! d[f+q]! then siftDown ltInt hi f q (swp d (f+r) (f+q)) else d:=by
 rw[siftDown,dif_neg (by omega)];rcases hq with⟨h1,h2,rfl⟩|⟨h1,rfl⟩
 ·rw[if_pos (by simp[h2];omega)];cases hl:ltInt d[f+r]! d[f+(2*r+2)]! with
  | true=>simp[h1]
  | false=>simp
 ·rw[if_neg (by simp;intro h3;exact h1 (by omega))];cases hl:ltInt d[f+r]! d[f+(2*r+1)]! with
  | true=>simp
  | false=>simp
theorem v3s (g n cap:Nat) (d:Array Int) (tl:List Value) (lo hi f:Nat) (hf:f+hi<=n) (hn:n<=1000000000) (hg:lo<=1000000000) (w:World) (h:RowS w g n d tl):
  Calls Tryz.prog 255 #[.slice (some ⟨g,0,none⟩) n cap,.int .i64 (lo:Int),.int .i64 (hi:Int),.int .i64 (f:Int)] w fun e w'=>(∃r,e= .returned r)/\RowS w' g n (siftDown ltInt hi f lo d) tl/\Only [g] w w':=by
 have H:=hid h;have FN:=hid hf;have HN:=hid hn;have l1:(lo:Int)<=1000000000:=by omega
 have hr:=hid hg;clear h hf hn hg;go_enter Tryz.func255,Tryz.ntmps255;go_wp2
 go_loopw [8] (fun vi wr=> ∃(r:Nat) (dk:Array Int),vi= .int .i64 r/\Hid (r<=1000000000)/\Hid (RowS wr g n dk tl)/\Hid (Only [g] w wr)/\
   Hid (siftDown ltInt hi f r dk=siftDown ltInt hi f lo d)) (fun vi _=>hi- (intOf vi).toNat)
 case atStart=>exact⟨lo,d,rfl,hr,H,Only.refl _ _,rfl⟩
 case round=>
  obtain⟨r,dk,rfl,hh,hR,hO,hI⟩:=hrel;have r1:(r:Int)<=1000000000:=by have:=hh.out;omega
  have r0:(0:Int)<=(r:Int):=by omega
  have h9:(hi:Int)<=1000000000:=by have:=FN.out;have:=HN.out;omega
  have f9:(f:Int)<=1000000000:=by have:=FN.out;have:=HN.out;omega
  obtain⟨c,hc⟩:∃c,c=2*r+1:=⟨_,rfl⟩;have ec:2*(r:Int)+1=(c:Int):=by omega
  have HC:=hid hc;by_cases hch:c<hi
  ·have d1: ¬(c:Int)≥(hi:Int):=by omega
   obtain⟨q,hq⟩:∃q,(2*r+2<hi/\ltInt dk[f+(2*r+1)]! dk[f+(2*r+1)+1]! =true/\q=2*r+2)\/((2*r+2<hi->ltInt dk[f+(2*r+1)]! dk[f+(2*r+1)+1]! =false)/\q=2*r+1):=by
    by_cases h1:2*r+2<hi
    ·cases hl:ltInt dk[f+(2*r+1)]! dk[f+(2*r+1)+1]! with
     | true=>exact⟨_,Or.inl ⟨h1,rfl,rfl⟩⟩
     | false=>exact⟨_,Or.inr ⟨fun _=>rfl,rfl⟩⟩
    ·exact⟨_,Or.inr ⟨fun h=>absurd h h1,rfl⟩⟩
   have HS:=hid (v6u hi f r q dk (by omega) hq);have O:Hid (r<q/\q<hi):=by show r<q/\q<hi;rcases hq with⟨a,b,e⟩|⟨a,e⟩<;>omega
   have q0:(0:Int)<=(q:Int):=by omega
   have q9:(q:Int)<=1000000000:=by have:=O.out;omega
   obtain⟨p0,h7⟩:∃p0,p0=f+r:=⟨_,rfl⟩;obtain⟨pq,h8⟩:∃pq,pq=f+q:=⟨_,rfl⟩;have e0:(f:Int)+(r:Int)=(p0:Int):=by omega
   have k8:(f:Int)+(q:Int)=(pq:Int):=by omega
   have b0:p0<n:=by have:=O.out;have:=FN.out;omega
   have bq:pq<n:=by have:=O.out;have:=FN.out;omega
   obtain⟨x0,h4⟩:∃x,x=dk[p0]! :=⟨_,rfl⟩;obtain⟨xq,h5⟩:∃x,x=dk[pq]! :=⟨_,rfl⟩;have c0:wr.cell? ⟨g,p0,none⟩=some (.int .u64 x0):=by rw[h4];exact hR.out.cell b0
   have cq:wr.cell? ⟨g,pq,none⟩=some (.int .u64 xq):=by rw[h5];exact hR.out.cell bq
   have f0:=hR.out.frozen p0;have fq:=hR.out.frozen pq;have S:=hid h4;have U:=hid h5;have k9:=hid h7;have k7:=hid h8;have B0:=hid b0;have BQ:=hid bq;rw[<- h7,<- h8,<- h4,<- h5] at HS;clear h4 h5 h7 h8;have hz:(0:Int)<=(p0:Int):=by omega
   have hs:(p0:Int)< (n:Int):=by omega
   have k0:(0:Int)<=(pq:Int):=by omega
   have k3:(pq:Int)< (n:Int):=by omega
   have k1:=HN.out;have wq:=q2s (q:=q) (by omega);have w0:=q2s (q:=p0) (by omega);have hy:=q2s (q:=pq) (by omega);have wc:=v3t (q:=c) (by omega);have L:Hid (ltInt x0 xq=true-> ∀w2,RowS w2 g n (swp dk p0 pq) tl->Only [g] w w2-> ∃r' dk',Value.int .i64 (q:Int)= .int .i64 (r':Nat)/\Hid (r'<=1000000000)/\Hid (RowS w2 g n dk' tl)/\Hid (Only [g] w w2)/\Hid (siftDown ltInt hi f r' dk'=siftDown ltInt hi f lo d)):=by intro hl w2 h1 h2;refine⟨q,_,rfl,(by omega:q<=1000000000),h1,h2,?_⟩;show siftDown ltInt hi f q (swp dk p0 pq)=_;rw[<- hI.out,HS.out,if_pos hl]
   have M:Hid (ltInt x0 xq=false->dk=siftDown ltInt hi f lo d):=by intro hl;rw[<- hI.out,HS.out,if_neg (by rw[hl];simp)]
   by_cases hc1:c+1<hi
   ·have d2:decide ((c:Int)+1< (hi:Int))=true:=by simp;omega
    obtain⟨p1,he⟩:∃p1,p1=f+c:=⟨_,rfl⟩;have e1:(f:Int)+(c:Int)=(p1:Int):=by omega
    obtain⟨x1,ha⟩:∃x,x=dk[p1]! :=⟨_,rfl⟩;obtain⟨x2,h6⟩:∃x,x=dk[p1+1]! :=⟨_,rfl⟩;have b1:p1+1<n:=by have:=FN.out;omega
    have c1:wr.cell? ⟨g,p1,none⟩=some (.int .u64 x1):=by rw[ha];exact hR.out.cell (by omega)
    have c2:wr.cell? ⟨g,p1+1,none⟩=some (.int .u64 x2):=by rw[h6];exact hR.out.cell b1
    have k5:(0:Int)<=(p1:Int):=by omega
    have ht:(p1:Int)+1< (n:Int):=by omega
    have hj:(ltInt x1 x2=true/\q=c+1)\/(ltInt x1 x2=false/\q=c):=by
     rw[ha,h6,he,hc];rcases hq with⟨h1,h2,h3⟩|⟨h1,h2⟩;·exact Or.inl ⟨h2,by omega⟩
     ·exact Or.inr ⟨h1 (by omega),h2⟩
    have B1:=hid b1;have wp:=q2s (q:=p1) (by omega);have k4:=v3t (q:=p1) (by omega);clear ha h6 he hq b1 hc hc1;rcases hj with⟨ho,Y⟩|⟨ho,Y⟩
    ·have e9:(c:Int)+1=(q:Int):=by omega
     rw[e9] at d2 wc;have hm:=O.out.2;clear Y hch;go_wp2;go_quiet (first|(go_at_call 228;exact Calls.quiet_of_same (q2n _ _ _)));go_wp2;revert nq;intro I;clear c1 c2;have R2:Hid (RowS (wr.drewN I) g n dk tl):=hR.out.drewN I;have O2:Hid (Only [g] w (wr.drewN I)):=hO.out.drewN I;clear c0 cq f0 fq hR hO;generalize wr.drewN I=wr2 at R2 O2 ⊢;have c0:wr2.cell? ⟨g,p0,none⟩=some (.int .u64 x0):=by rw[S.out];exact R2.out.cell B0.out
     have cq:wr2.cell? ⟨g,pq,none⟩=some (.int .u64 xq):=by rw[U.out];exact R2.out.cell BQ.out
     have f0:=R2.out.frozen p0;have fq:=R2.out.frozen pq;go_quiet (first|(go_at_call 228;exact Calls.quiet_of_same (q2n _ _ _)));go_wp2
     ·have hl:ltInt x0 xq=false:=x3f (by assumption)
      (try simp only[Exit.inBlock,Exit.then])
      refine bodyPost_ret (results_none rfl _ _ _) rfl ?_;refine⟨⟨_,rfl⟩,?_,?_⟩;·rw[<- M.out hl];exact R2.out.drewN _
      ·exact O2.out.drewN _
     ·have hl:Hid (ltInt x0 xq=true):=x3u (by assumption);go_region;all_goals go_wp2
      go_roundw
      case rel=>
       refine L.out hl.out _ ?_ ?_;·exact RowS.swpV ((R2.out.drewN _).drew) B0.out BQ.out S.out U.out
       ·exact((O2.out.drewN _).drew).trans (q2q _ g _ _ _ _) (fun x hx=>Or.inl hx)
      case measure=>have:=O.out;first|(simp[intOf];done)|(simp[intOf];omega)
    ·subst Y;have hp:p1=pq:=by omega
     subst hp;clear hch e1;go_wp2;go_quiet (first|(go_at_call 228;exact Calls.quiet_of_same (q2n _ _ _)));go_wp2;revert nq;intro I;clear c1 c2;have R2:Hid (RowS (wr.drewN I) g n dk tl):=hR.out.drewN I;have O2:Hid (Only [g] w (wr.drewN I)):=hO.out.drewN I;clear c0 cq f0 fq hR hO;generalize wr.drewN I=wr2 at R2 O2 ⊢;have c0:wr2.cell? ⟨g,p0,none⟩=some (.int .u64 x0):=by rw[S.out];exact R2.out.cell B0.out
     have cq:wr2.cell? ⟨g,p1,none⟩=some (.int .u64 xq):=by rw[U.out];exact R2.out.cell BQ.out
     have f0:=R2.out.frozen p0;have fq:=R2.out.frozen p1;go_quiet (first|(go_at_call 228;exact Calls.quiet_of_same (q2n _ _ _)));go_wp2
     ·have hl:ltInt x0 xq=false:=x3f (by assumption)
      (try simp only[Exit.inBlock,Exit.then])
      refine bodyPost_ret (results_none rfl _ _ _) rfl ?_;refine⟨⟨_,rfl⟩,?_,?_⟩;·rw[<- M.out hl];exact R2.out.drewN _
      ·exact O2.out.drewN _
     ·have hl:Hid (ltInt x0 xq=true):=x3u (by assumption);go_region;all_goals go_wp2
      go_roundw
      case rel=>
       refine L.out hl.out _ ?_ ?_;·exact RowS.swpV ((R2.out.drewN _).drew) B0.out BQ.out S.out U.out
       ·exact((O2.out.drewN _).drew).trans (q2q _ g _ _ _ _) (fun x hx=>Or.inl hx)
      case measure=>have:=O.out;first|(simp[intOf];done)|(simp[intOf];omega)
   ·have d2:decide ((c:Int)+1< (hi:Int))=false:=by simp;omega
    have Y:q=c:=by rcases hq with⟨h1,h2,h3⟩|⟨h1,h2⟩<;>omega
    clear hq hc hc1;subst Y;clear hch;go_wp2;go_quiet (first|(go_at_call 228;exact Calls.quiet_of_same (q2n _ _ _)));go_wp2;revert nq;intro I;have R2:Hid (RowS (wr.drewN I) g n dk tl):=hR.out.drewN I;have O2:Hid (Only [g] w (wr.drewN I)):=hO.out.drewN I;clear c0 cq f0 fq hR hO;generalize wr.drewN I=wr2 at R2 O2 ⊢;have c0:wr2.cell? ⟨g,p0,none⟩=some (.int .u64 x0):=by rw[S.out];exact R2.out.cell B0.out
    have cq:wr2.cell? ⟨g,pq,none⟩=some (.int .u64 xq):=by rw[U.out];exact R2.out.cell BQ.out
    have f0:=R2.out.frozen p0;have fq:=R2.out.frozen pq;go_quiet (first|(go_at_call 228;exact Calls.quiet_of_same (q2n _ _ _)));go_wp2
    ·have hl:ltInt x0 xq=false:=x3f (by assumption)
     (try simp only[Exit.inBlock,Exit.then])
     refine bodyPost_ret (results_none rfl _ _ _) rfl ?_;refine⟨⟨_,rfl⟩,?_,?_⟩;·rw[<- M.out hl];exact R2.out.drewN _
     ·exact O2.out.drewN _
    ·have hl:Hid (ltInt x0 xq=true):=x3u (by assumption);go_region;all_goals go_wp2
     go_roundw
     case rel=>
      refine L.out hl.out _ ?_ ?_;·exact RowS.swpV ((R2.out.drewN _).drew) B0.out BQ.out S.out U.out
      ·exact((O2.out.drewN _).drew).trans (q2q _ g _ _ _ _) (fun x hx=>Or.inl hx)
     case measure=>have:=O.out;first|(simp[intOf];done)|(simp[intOf];omega)
  ·have d1:(c:Int)≥(hi:Int):=by omega
   have hk:=hid hch;clear hc hch;go_wp2;go_end0;refine⟨⟨_,rfl⟩,?_,hO.out⟩;have:=HC.out;have h3:=hk.out;rw[<- hI.out,v0r _ _ _ _ (by omega)];exact hR.out
end
section
open Go.Sort (swp insInner insOuter insertionSort ltInt SWO PermIn SortedIn siftDown heapBuild heapPop heapSort reverseLoop reverseRange)
theorem v8y (f k:Nat) (d:Array Int):heapPop ltInt f (k+1) d=heapPop ltInt f k (siftDown ltInt k f 0 (swp d f (f+k))):=rfl
theorem x4c (g n cap:Nat) (d:Array Int) (tl:List Value) (a b:Nat) (Y:a<=b) (hb:b<=n) (hn:n<=1000000000) (w:World) (h:RowS w g n d tl):
  Calls Tryz.prog 223 #[.slice (some ⟨g,0,none⟩) n cap,.int .i64 (a:Int),.int .i64 (b:Int)] w fun e w'=>(∃r,e= .returned r)/\RowS w' g n (heapSort ltInt d a b) tl/\Only [g] w w':=by
 obtain⟨m,hm⟩:∃m,m=b-a:=⟨_,rfl⟩;have e1:(b:Int)- (a:Int)=(m:Int):=by omega
 have a9:(a:Int)<=1000000000:=by omega
 have b9:(b:Int)<=1000000000:=by omega
 have m9:(m:Int)<=1000000000:=by omega
 have m0:(0:Int)<=(m:Int):=by omega
 have e2:((m:Int)-1).tdiv 2=(((m-1)/2:Nat):Int):=by
  cases m with
  | zero=>rfl
  | succ k=>rw[show((k+1:Nat):Int)-1=(k:Int) by simp,Bg (by omega)];simp
 obtain⟨k0,O⟩:∃k,k=(m-1)/2:=⟨_,rfl⟩;rw[<- O] at e2;have h4:(k0:Int)<=1000000000:=by omega
 have I:Hid (heapSort ltInt d a b=heapPop ltInt a m (heapBuild ltInt m a (k0+1) d)):=by show heapSort ltInt d a b=_;unfold heapSort;rw[<- hm,O]
 have H:=hid h;have AB:=hid Y;have BN:=hid hb;have HN:=hid hn;have HM:=hid hm;have HK:=hid O;clear h Y hb hn hm O;go_enter Tryz.func223,Tryz.ntmps223;go_wp2
 go_loopw [9] (fun vi wr=> ∃(z:Int) (k:Nat) (dk:Array Int),vi= .int .i64 z/\Hid (z+1=k)/\Hid (k<=k0+1)/\Hid (RowS wr g n dk tl)/\Hid (Only [g] w wr)/\
   Hid (heapPop ltInt a m (heapBuild ltInt m a k dk)=heapSort ltInt d a b)) (fun vi _=>(intOf vi+1).toNat)
 case atStart=>exact⟨k0,k0+1,d,rfl,(by omega:(k0:Int)+1=((k0+1:Nat):Int)),AG _,H,Only.refl _ _,I.out.symm⟩
 case round=>
  obtain⟨z,k,dk,rfl,hz,hk,hR,hO,hI⟩:=hrel;cases k with
  | succ k=>
   obtain rfl:z=(k:Int):=by have:=hz.out;omega
   have k9:(k:Int)<=1000000000:=by have:=hk.out;omega
   have h2:(0:Int)<=(k:Int):=by omega
   go_wp2_with fail;refine(v3s g n cap dk tl k m a (by have:=HM.out;have:=BN.out;have:=AB.out;omega) HN.out (by omega) _ hR.out).mono ?_;rintro e w2 ⟨⟨v,rfl⟩,L,M⟩;have R2:=hid L;have O2:=hid (hO.out.trans M (fun x hx=>Or.inl hx));clear L M;go_wp2;go_roundw;case rel=>exact⟨(k:Int)-1,k,_,rfl,(by omega:(k:Int)-1+1=(k:Int)),(by have:=hk.out;omega:k<=k0+1),R2,O2,hI⟩
   case measure=>first|(simp[intOf];done)|(simp[intOf];omega)
  | zero=>
   obtain rfl:z= -1:=by have:=hz.out;omega
   have HI:Hid (heapPop ltInt a m dk=heapSort ltInt d a b):=hI;go_wp2
   go_loopw [10] (fun vi wr=> ∃(z:Int) (k:Nat) (dk:Array Int),vi= .int .i64 z/\Hid (z+1=k)/\Hid (k<=m)/\Hid (RowS wr g n dk tl)/\Hid (Only [g] w wr)/\
     Hid (heapPop ltInt a k dk=heapSort ltInt d a b)) (fun vi _=>(intOf vi+1).toNat)
   case atStart=>exact⟨(m:Int)-1,m,dk,rfl,(by omega:(m:Int)-1+1=(m:Int)),AG _,hR,hO,HI⟩
   case round=>
    obtain⟨z,k,dk,rfl,hz,hk,hR,hO,hI⟩:=hrel;cases k with
    | succ k=>
     obtain rfl:z=(k:Int):=by have:=hz.out;omega
     have k9:(k:Int)<=1000000000:=by have:=hk.out;omega
     have h2:(0:Int)<=(k:Int):=by omega
     obtain⟨q,hq⟩:∃q,q=a+k:=⟨_,rfl⟩;have h7:(a:Int)+(k:Int)=(q:Int):=by omega
     have bq:q<n:=by have:=hk.out;have:=HM.out;have:=BN.out;omega
     have ba:a<n:=by omega
     have h5:=HN.out;have wq:=q2s (q:=q) (by omega);have qp:(0:Int)<=(q:Int):=by omega
     have qn:(q:Int)< (n:Int):=by omega
     have ap:(0:Int)<=(a:Int):=by omega
     have an:(a:Int)< (n:Int):=by omega
     obtain⟨x0,S⟩:∃x,x=dk[a]! :=⟨_,rfl⟩;obtain⟨xq,U⟩:∃x,x=dk[q]! :=⟨_,rfl⟩;have c0:wr.cell? ⟨g,a,none⟩=some (.int .u64 x0):=by rw[S];exact hR.out.cell ba
     have cq:wr.cell? ⟨g,q,none⟩=some (.int .u64 xq):=by rw[U];exact hR.out.cell bq
     have f0:=hR.out.frozen a;have fq:=hR.out.frozen q;obtain⟨yq,h6⟩:∃y,(wr.setCell ⟨g,a,none⟩ (.int .u64 xq)).cell? ⟨g,q,none⟩=some (.int .u64 y):=⟨_,(hR.out.set_ xq ba).cell bq⟩;have h8:=(hR.out.set_ xq ba).frozen q;have h1:=hid S;have h3:=hid U;have HQ:=hid hq;have B0:=hid ba;have BQ:=hid bq;clear S U hq ba bq;go_wp2;go_region;all_goals go_wp2_with fail
     have R1:=hid (RowS.swpV hR.out.drew B0.out BQ.out h1.out h3.out);have O1:=hid (hO.out.drew.trans (q2q _ g a q (Value.int .u64 xq) (Value.int .u64 x0)) (fun x hx=>Or.inl hx));refine(v3s g n cap (swp dk a q) tl 0 k a (by have:=BQ.out;have:=HQ.out;omega) HN.out (by omega) _ R1.out).mono ?_;rintro e w2 ⟨⟨v,rfl⟩,L,M⟩;have R2:=hid L;have O2:=hid (O1.out.trans M (fun x hx=>Or.inl hx));clear L M;go_wp2;go_roundw;case rel=>refine⟨(k:Int)-1,k,_,rfl,(by omega:(k:Int)-1+1=(k:Int)),(by have:=hk.out;omega:k<=m),R2,O2,?_⟩;show heapPop ltInt a k _=_;rw[<- hI.out,v8y,<- HQ.out]
     case measure=>first|(simp[intOf];done)|(simp[intOf];omega)
    | zero=>
     obtain rfl:z= -1:=by have:=hz.out;omega
     have HI:Hid (dk=heapSort ltInt d a b):=hI;go_wp2;go_end0;refine⟨⟨_,rfl⟩,?_,hO.out⟩;rw[<- HI.out];exact hR.out
theorem x6z (g n cap:Nat) (d:Array Int) (tl:List Value) (a b:Nat) (O:a<=b) (hb:b<=n) (hn:n<=1000000000) (w:World) (h:RowS w g n d tl):
  Calls Tryz.prog 226 #[.slice (some ⟨g,0,none⟩) n cap,.int .i64 (a:Int),.int .i64 (b:Int)] w fun e w'=>(∃r,e= .returned r)/\RowS w' g n (reverseRange d a b) tl/\Only [g] w w':=by
 have a9:(a:Int)<=1000000000:=by omega
 have b9:(b:Int)<=1000000000:=by omega
 have H:=hid h;have AB:=hid O;have BN:=hid hb;have HN:=hid hn;clear h O hb hn;go_enter Tryz.func226,Tryz.ntmps226;go_wp2
 go_loopw [6,7] (fun vi vj wr=> ∃(i j:Nat) (z:Int) (dk:Array Int),vi= .int .i64 i/\vj= .int .i64 z/\Hid (i<=n/\j<n+1)/\Hid (z=(j:Int)\/(z= -1/\j=0))/\Hid (j<b\/j=0)/\Hid (RowS wr g n dk tl)/\Hid (Only [g] w wr)/\
   Hid (reverseLoop i j dk=reverseRange d a b)) (fun vi vj _=>(intOf vj-intOf vi).toNat)
 case atStart=>have:=AB.out;have:=BN.out;refine⟨a,b-1,(b:Int)-1,d,rfl,rfl,(⟨by omega,by omega⟩:a<=n/\b-1<n+1),(by omega:(b:Int)-1=((b-1:Nat):Int)\/((b:Int)-1= -1/\b-1=0)),(by omega:b-1<b\/b-1=0),H,Only.refl _ _,rfl⟩
 case round=>
  obtain⟨i,j,z,dk,rfl,rfl,h3,hz,S,hR,hO,hI⟩:=hrel;have h1:=HN.out;by_cases hlt:i<j
  ·obtain rfl:z=(j:Int):=by have:=hz.out;omega
   have d1:(i:Int)< (j:Int):=by omega
   have bj:j<n:=by have:=S.out;have:=BN.out;omega
   have bi:i<n:=by omega
   have ip:(0:Int)<=(i:Int):=by omega
   have i9:(i:Int)<=1000000000:=by omega
   have h2:(i:Int)< (n:Int):=by omega
   have jp:(0:Int)<=(j:Int):=by omega
   have j9:(j:Int)<=1000000000:=by omega
   have jn:(j:Int)< (n:Int):=by omega
   obtain⟨x0,L⟩:∃x,x=dk[i]! :=⟨_,rfl⟩;obtain⟨xq,M⟩:∃x,x=dk[j]! :=⟨_,rfl⟩;have c0:wr.cell? ⟨g,i,none⟩=some (.int .u64 x0):=by rw[L];exact hR.out.cell bi
   have cq:wr.cell? ⟨g,j,none⟩=some (.int .u64 xq):=by rw[M];exact hR.out.cell bj
   have f0:=hR.out.frozen i;have fq:=hR.out.frozen j;have U:=hid L;have Y:=hid M;have B0:=hid bi;have BQ:=hid bj;have I:=hid hlt;clear L M bi bj hlt;go_wp2;go_region;all_goals go_wp2
   go_roundw
   case rel=>
    refine⟨i+1,j-1,(j:Int)-1,swp dk i j,by go_num,rfl,(⟨by have:=B0.out;omega,by have:=BQ.out;omega⟩:i+1<=n/\j-1<n+1),(by have:=I.out;omega:(j:Int)-1=((j-1:Nat):Int)\/((j:Int)-1= -1/\j-1=0)),(by have:=S.out;omega:j-1<b\/j-1=0),?_,?_,?_⟩;·exact RowS.swpV hR.out.drew B0.out BQ.out U.out Y.out
    ·exact hO.out.drew.trans (q2q _ g _ _ _ _) (fun x hx=>Or.inl hx)
    ·show reverseLoop (i+1) (j-1) (swp dk i j)=_;rw[<- hI.out,reverseLoop.eq_1 i,if_pos I.out]
   case measure=>first|(simp[intOf];done)|(simp[intOf];omega)
  ·have d1: ¬(i:Int)<z:=by have:=hz.out;omega
   have I:=hid hlt;clear hlt;go_wp2;go_end0;refine⟨⟨_,rfl⟩,?_,hO.out⟩;rw[<- hI.out,reverseLoop,if_neg I.out];exact hR.out
end
section
open Go.Sort (swp ltInt scanUp scanDown partEqLoop partitionEqual partLoop partition)
theorem v6x (p:Int->Bool) (d:Array Int) (j i:Nat) (h:i<=j) (hp:p d[i]! =true):scanUp p d j i=scanUp p d j (i+1):=by rw[scanUp,if_pos (by simp[h,hp])]
theorem z0x (p:Int->Bool) (d:Array Int) (j i:Nat) (h:i<=j->p d[i]! =false):scanUp p d j i=i:=by rw[scanUp,if_neg];intro hc;simp at hc;rw[h hc.1] at hc;simp at hc
theorem x0d (p:Int->Bool) (d:Array Int) (i j:Nat) (h:i<=j+1) (hp:p d[j+1]! =true):scanDown p d i (j+1)=scanDown p d i j:=by rw[scanDown,if_pos (by simp[h,hp])]
theorem q5a (p:Int->Bool) (d:Array Int) (i j:Nat) (h0:0<i) (h:i<=j->p d[j]! =false):scanDown p d i j=j:=by
 cases j with
 | zero=>rfl
 | succ j=>rw[scanDown,if_neg];intro hc;simp at hc;rw[h hc.1] at hc;simp at hc
theorem v3p (g n cap:Nat) (d:Array Int) (tl:List Value) (a b p:Nat) (hj:a<=p) (ho:p<b) (hb:b<=n) (hn:n<=1000000000) (w:World) (h:RowS w g n d tl):
  Calls Tryz.prog 229 #[.slice (some ⟨g,0,none⟩) n cap,.int .i64 (a:Int),.int .i64 (b:Int),.int .i64 (p:Int)] w fun e w'=>e= .returned (.int .i64 ((partitionEqual ltInt d a b p).1:Int))/\RowS w' g n (partitionEqual ltInt d a b p).2 tl/\Only [g] w w':=by
 have a9:(a:Int)<=1000000000:=by omega
 have b9:(b:Int)<=1000000000:=by omega
 have a0:(0:Int)<=(a:Int):=by omega
 have p0:(0:Int)<=(p:Int):=by omega
 have an:(a:Int)< (n:Int):=by omega
 have pn:(p:Int)< (n:Int):=by omega
 have b1:(b:Int)-1=((b-1:Nat):Int):=by omega
 obtain⟨b',ha⟩:∃b',b'=b-1:=⟨_,rfl⟩;rw[<- ha] at b1;obtain⟨x0,I⟩:∃x,x=d[a]! :=⟨_,rfl⟩;obtain⟨xq,h7⟩:∃x,x=d[p]! :=⟨_,rfl⟩;have hA:a<n:=by omega
 have hP:p<n:=by omega
 have c0:w.cell? ⟨g,a,none⟩=some (.int .u64 x0):=by rw[I];exact h.cell hA
 have cq:w.cell? ⟨g,p,none⟩=some (.int .u64 xq):=by rw[h7];exact h.cell hP
 have f0:=h.frozen a;have fq:=h.frozen p;obtain⟨yq,hr⟩:∃y,(w.setCell ⟨g,a,none⟩ (.int .u64 xq)).cell? ⟨g,p,none⟩=some (.int .u64 y):=⟨_,(h.set_ xq hA).cell hP⟩;have hs:=(h.set_ xq hA).frozen p;have H:=hid h;have O:=hid I;have hh:=hid h7;have AP:=hid hj;have PB:=hid ho;have BN:=hid hb;have HN:=hid hn;have HA:=hid hA;have HP:=hid hP;have hz:=hid ha;have k0:Hid (partitionEqual ltInt d a b p=partEqLoop ltInt a (a+1) b' (swp d a p)):=by show partitionEqual ltInt d a b p=_;rw[ha];rfl
 clear h I h7 hj ho hb hn hA hP ha;go_enter Tryz.func229,Tryz.ntmps229;go_wp2;go_region;all_goals go_wp2
 go_loopw [9,10] (fun vi vj wr=> ∃(i j:Nat) (dk:Array Int),vi= .int .i64 i/\vj= .int .i64 j/\Hid (a<i/\i<=j+1/\j<b)/\Hid (RowS wr g n dk tl)/\Hid (Only [g] w wr)/\
   Hid (partEqLoop ltInt a i j dk=partitionEqual ltInt d a b p)) (fun vi vj _=>(intOf vj+1-intOf vi).toNat)
 case atStart=>
  refine⟨a+1,b',swp d a p,by go_num,rfl,(by have:=AP.out;have:=PB.out;have:=hz.out;omega:a<a+1/\a+1<=b'+1/\b'<b),?_,?_,k0.out.symm⟩;·exact RowS.swpV H.out.drew HA.out HP.out O.out hh.out
  ·exact(Only.refl _ _).drew.trans (q2q _ g _ _ _ _) (fun x hx=>Or.inl hx)
 case round=>
  obtain⟨i,j,dk,rfl,rfl,Y,hR,hO,hI⟩:=hrel;clear c0 cq f0 fq hr hs;go_upto_block 2 with fail;go_cut [9] (fun s9 wc=> ∃i2:Nat,s9= .int .i64 i2/\Hid (i2=scanUp (fun x=> !ltInt dk[a]! x) dk j i)/\Hid (RowS wc g n dk tl)/\Hid (Only [g] w wc))
  case first=>
   go_wp2_with fail;go_loopw [9] (fun vi wx=> ∃(t:Nat),vi= .int .i64 t/\Hid (i<=t/\t<=j+1)/\Hid (RowS wx g n dk tl)/\Hid (Only [g] w wx)/\Hid (scanUp (fun x=> !ltInt dk[a]! x) dk j t=scanUp (fun x=> !ltInt dk[a]! x) dk j i)) (fun vi _=>(j+1:Nat)- (intOf vi).toNat);case atStart=>exact⟨i,rfl,(⟨AG _,Y.out.2.1⟩:i<=i/\i<=j+1),hR,hO,rfl⟩
   case round=>
    obtain⟨t,rfl,ht,M,h6,hT⟩:=hrel;obtain⟨x0,I⟩:∃x,x=dk[a]! :=⟨_,rfl⟩;have hk:=HN.out;have bj:j<n:=by have:=Y.out.2.2;have:=BN.out;omega
    have t9:(t:Int)<=1000000000:=by have:=ht.out.2;omega
    have t0:(0:Int)<=(t:Int):=by omega
    have j9:(j:Int)<=1000000000:=by omega
    have jn:(j:Int)< (n:Int):=by omega
    have c0:wr.cell? ⟨g,a,none⟩=some (.int .u64 x0):=by rw[I];exact M.out.cell HA.out
    have O:=hid I;by_cases htj:t<=j
    ·have d1:decide ((t:Int)<=(j:Int))=true:=by simp;omega
     have d2:(t:Int)<=(j:Int):=by omega
     have tn:(t:Int)< (n:Int):=by omega
     obtain⟨xt,h8⟩:∃x,x=dk[t]! :=⟨_,rfl⟩;have ct:wr.cell? ⟨g,t,none⟩=some (.int .u64 xt):=by rw[h8];exact M.out.cell (by omega)
     have h9:=hid h8;have U:=hid htj;clear I h8 htj bj;go_wp2_with fail;go_quiet (first|(go_at_call 228;exact Calls.quiet_of_same (q2n _ _ _)));go_wp2
     ·have hl:(!ltInt x0 xt)=true:=by assumption
      go_roundw;case rel=>refine⟨t+1,by go_num,(by have:=ht.out;have:=U.out;omega:i<=t+1/\t+1<=j+1),M.out.drewN _,h6.out.drewN _,?_⟩;show scanUp _ dk j (t+1)=_;rw[<- hT.out,<- v6x _ dk j t U.out (by rw[<- O.out,<- h9.out];exact hl)]
      case measure=>first|(simp[intOf];done)|(simp[intOf];omega)
     ·have hl:(!ltInt x0 xt)=false:=by assumption
      go_meet;case rel=>refine⟨t,rfl,?_,M.out.drewN _,h6.out.drewN _⟩;show t=_;rw[<- hT.out,z0x _ dk j t (fun _=>by rw[<- O.out,<- h9.out];exact hl)]
    ·have d1:decide ((t:Int)<=(j:Int))=false:=by simp;omega
     have d2:decide (t<=j)=false:=by simp;omega
     have U:=hid htj;clear I htj bj;go_wp2_with fail;go_quiet (first|(go_at_call 228;exact Calls.quiet_of_same (q2n _ _ _)));go_wp2;go_meet;case rel=>refine⟨t,rfl,?_,M.out.drewN _,h6.out.drewN _⟩;show t=_;rw[<- hT.out,z0x _ dk j t (fun h=>absurd h U.out)]
  case rest=>
   obtain⟨i2,rfl,hg,k4,k5⟩:=hcut;have L:Hid (i<=i2/\i2<=j+1):=by have:=Go.Sort.scanUp_spec (fun x=> !ltInt dk[a]! x) dk j _ i rfl;rw[<- hg.out] at this;exact⟨this.1,this.2.1 Y.out.2.1⟩
   go_upto_block 4 with fail;go_cut [10] (fun k1 wc=> ∃j2:Nat,k1= .int .i64 j2/\Hid (j2=scanDown (fun x=>ltInt dk[a]! x) dk i2 j)/\Hid (RowS wc g n dk tl)/\Hid (Only [g] w wc))
   case first=>
    go_wp2_with fail;go_loopw [10] (fun vi wx=> ∃(t:Nat),vi= .int .i64 t/\Hid (t<=j/\i2<=t+1)/\Hid (RowS wx g n dk tl)/\Hid (Only [g] w wx)/\Hid (scanDown (fun x=>ltInt dk[a]! x) dk i2 t=scanDown (fun x=>ltInt dk[a]! x) dk i2 j)) (fun vi _=>(intOf vi).toNat);case atStart=>exact⟨j,rfl,(⟨AG _,L.out.2⟩:j<=j/\i2<=j+1),k4,k5,rfl⟩
    case round=>
     obtain⟨t,rfl,ht,M,h6,hT⟩:=hrel;obtain⟨x0,I⟩:∃x,x=dk[a]! :=⟨_,rfl⟩;have hk:=HN.out;have bj:j<n:=by have:=Y.out.2.2;have:=BN.out;omega
     have i0:0<i2:=by have:=L.out.1;have:=Y.out.1;omega
     have t9:(t:Int)<=1000000000:=by have:=ht.out.1;omega
     have t0:(0:Int)<=(t:Int):=by omega
     have c0:wr.cell? ⟨g,a,none⟩=some (.int .u64 x0):=by rw[I];exact M.out.cell HA.out
     have O:=hid I;have hp:=hid i0;by_cases htj:i2<=t
     ·obtain⟨q,hq⟩:∃q,t=q+1:=⟨t-1,by omega⟩;have d1:decide ((i2:Int)<=(t:Int))=true:=by simp;omega
      have d2:(i2:Int)<=(t:Int):=by omega
      have t1:(1:Int)<=(t:Int):=by omega
      have tn:(t:Int)< (n:Int):=by have:=ht.out.1;omega
      obtain⟨xt,h8⟩:∃x,x=dk[t]! :=⟨_,rfl⟩;have ct:wr.cell? ⟨g,t,none⟩=some (.int .u64 xt):=by rw[h8];exact M.out.cell (by omega)
      have h9:=hid h8;have U:=hid htj;have HQ:=hid hq;clear I h8 htj bj i0 hq;go_wp2_with fail;go_quiet (first|(go_at_call 228;exact Calls.quiet_of_same (q2n _ _ _)));go_wp2
      ·have hl:ltInt x0 xt=true:=by assumption
       go_roundw;case rel=>have:=HQ.out;refine⟨q,by congr 1;omega,(by have:=ht.out;have:=U.out;omega:q<=j/\i2<=q+1),M.out.drewN _,h6.out.drewN _,?_⟩;show scanDown _ dk i2 q=_;have h1:=U.out;have h2:=h9.out;rw[HQ.out] at h1 h2;rw[<- hT.out,HQ.out,<- x0d _ dk i2 q h1 (by rw[<- O.out,<- h2];exact hl)]
       case measure=>first|(simp[intOf];done)|(simp[intOf];omega)
      ·have hl:ltInt x0 xt=false:=by assumption
       go_meet;case rel=>refine⟨t,rfl,?_,M.out.drewN _,h6.out.drewN _⟩;show t=_;rw[<- hT.out,q5a _ dk i2 t hp.out (fun _=>by rw[<- O.out,<- h9.out];exact hl)]
     ·have d1:decide ((i2:Int)<=(t:Int))=false:=by simp;omega
      have d2:decide (i2<=t)=false:=by simp;omega
      have U:=hid htj;clear I htj bj i0;go_wp2_with fail;go_quiet (first|(go_at_call 228;exact Calls.quiet_of_same (q2n _ _ _)));go_wp2;go_meet;case rel=>refine⟨t,rfl,?_,M.out.drewN _,h6.out.drewN _⟩;show t=_;rw[<- hT.out,q5a _ dk i2 t hp.out (fun h=>absurd h U.out)]
   case rest=>
    obtain⟨j2,rfl,hf,h5,hm⟩:=hcut;have S:Hid (j2<=j/\i2<=j2+1):=by have:=Go.Sort.scanDown_spec (fun x=>ltInt dk[a]! x) dk i2 j;rw[<- hf.out] at this;exact⟨this.1,this.2.1 L.out.2⟩
    have hi:Hid (partEqLoop ltInt a i j dk=if i2>j2 then(i2,dk) else partEqLoop ltInt a (i2+1) (j2-1) (swp dk i2 j2)):=by show partEqLoop ltInt a i j dk=_;rw[Go.Sort.partEqLoop_eq,<- hg.out,<- hf.out]
    by_cases hgt:i2>j2
    ·have d1:(i2:Int)>(j2:Int):=by omega
     have he:=hid hgt;clear hgt;go_wp2;go_ret;have e:=hi.out;rw[if_pos he.out] at e;rw[hI.out] at e;rw[e];exact⟨rfl,h5.out,hm.out⟩
    ·have d1: ¬(i2:Int)>(j2:Int):=by omega
     have hk:=HN.out;have bj:j2<n:=by have:=S.out.1;have:=Y.out.2.2;have:=BN.out;omega
     have bi:i2<n:=by omega
     have k9:(0:Int)<=(i2:Int):=by omega
     have k8:(i2:Int)< (n:Int):=by omega
     have k7:(0:Int)<=(j2:Int):=by omega
     have kc:(j2:Int)< (n:Int):=by omega
     have kb:(i2:Int)<=1000000000:=by omega
     have kd:(j2:Int)<=1000000000:=by omega
     obtain⟨x0,I⟩:∃x,x=dk[i2]! :=⟨_,rfl⟩;obtain⟨xq,h7⟩:∃x,x=dk[j2]! :=⟨_,rfl⟩;have c0:wc.cell? ⟨g,i2,none⟩=some (.int .u64 x0):=by rw[I];exact h5.out.cell bi
     have cq:wc.cell? ⟨g,j2,none⟩=some (.int .u64 xq):=by rw[h7];exact h5.out.cell bj
     have f0:=h5.out.frozen i2;have fq:=h5.out.frozen j2;obtain⟨yq,hr⟩:∃y,(wc.setCell ⟨g,i2,none⟩ (.int .u64 xq)).cell? ⟨g,j2,none⟩=some (.int .u64 y):=⟨_,(h5.out.set_ xq bi).cell bj⟩;have hs:=(h5.out.set_ xq bi).frozen j2;have O:=hid I;have hh:=hid h7;have BI:=hid bi;have BJ:=hid bj;have hy:i2≠j2:=by intro e;have h1:=(Go.Sort.scanUp_spec (fun x=> !ltInt dk[a]! x) dk j _ i rfl).2.2.2;rw[<- hg.out] at h1;have h2:=(Go.Sort.scanDown_spec (fun x=>ltInt dk[a]! x) dk i2 j).2.2.2;rw[<- hf.out] at h2;have h3:=h1 (by have:=S.out.1;omega);have h4:=h2 (by omega) (by have:=Y.out.1;have:=L.out.1;omega);rw[e] at h3;simp[h4] at h3
     have k3:Hid (i2<j2):=by show i2<j2;omega
     have he:=hid hgt;have J1:Hid (1<=j2):=by have:=Y.out.1;have:=L.out.1;show 1<=j2;omega
     clear I h7 bi bj hgt hy;go_wp2;go_region;all_goals go_wp2
     go_roundw
     case rel=>
      refine⟨i2+1,j2-1,swp dk i2 j2,by go_num,by have:=J1.out;go_num,(by have:=Y.out;have:=L.out;have:=S.out;have:=J1.out;have:=k3.out;omega:a<i2+1/\i2+1<=j2-1+1/\j2-1<b),?_,?_,?_⟩;·exact RowS.swpV h5.out.drew BI.out BJ.out O.out hh.out
      ·exact hm.out.drew.trans (q2q _ g _ _ _ _) (fun x hx=>Or.inl hx)
      ·show partEqLoop ltInt a (i2+1) (j2-1) (swp dk i2 j2)=_;have e:=hi.out;rw[if_neg he.out] at e;rw[<- e];exact hI.out
     case measure=>have:=L.out;have:=S.out;first|(simp[intOf];done)|(simp[intOf];omega)
end
section
open Go.Sort (swp ltInt scanUp scanDown partLoop partition)
theorem v8f (g n cap:Nat) (d:Array Int) (tl:List Value) (a b p:Nat) (kh:a<=p) (ki:p<b) (hb:b<=n) (hn:n<=1000000000) (w:World) (h:RowS w g n d tl):
  Calls Tryz.prog 230 #[.slice (some ⟨g,0,none⟩) n cap,.int .i64 (a:Int),.int .i64 (b:Int),.int .i64 (p:Int)] w fun e w'=>e= .returned (.tuple #[.int .i64 ((partition ltInt d a b p).1:Int),.bool (partition ltInt d a b p).2.1])/\RowS w' g n (partition ltInt d a b p).2.2 tl/\Only [g] w w':=by
 have a9:(a:Int)<=1000000000:=by omega
 have b9:(b:Int)<=1000000000:=by omega
 have a0:(0:Int)<=(a:Int):=by omega
 have p0:(0:Int)<=(p:Int):=by omega
 have an:(a:Int)< (n:Int):=by omega
 have pn:(p:Int)< (n:Int):=by omega
 have b1:(b:Int)-1=((b-1:Nat):Int):=by omega
 obtain⟨j,k3⟩:∃j,j=b-1:=⟨_,rfl⟩;rw[<- k3] at b1;obtain⟨x0,I⟩:∃x,x=d[a]! :=⟨_,rfl⟩;obtain⟨xq,h6⟩:∃x,x=d[p]! :=⟨_,rfl⟩;have hA:a<n:=by omega
 have hP:p<n:=by omega
 have c0:w.cell? ⟨g,a,none⟩=some (.int .u64 x0):=by rw[I];exact h.cell hA
 have cq:w.cell? ⟨g,p,none⟩=some (.int .u64 xq):=by rw[h6];exact h.cell hP
 have f0:=h.frozen a;have fq:=h.frozen p;obtain⟨yq,hj⟩:∃y,(w.setCell ⟨g,a,none⟩ (.int .u64 xq)).cell? ⟨g,p,none⟩=some (.int .u64 y):=⟨_,(h.set_ xq hA).cell hP⟩;have hk:=(h.set_ xq hA).frozen p;have H:=hid h;have U:=hid I;have ha:=hid h6;have BN:=hid hb;have HN:=hid hn;have HA:=hid hA;have HP:=hid hP;have Y:Hid (a<a+1/\a+1<=j+1/\j<b):=by show a<a+1/\a+1<=j+1/\j<b;omega
 obtain⟨dk,hy⟩:∃dk,dk=swp d a p:=⟨_,rfl⟩
 have hm:Hid (partition ltInt d a b p=if scanUp (fun x=>ltInt x dk[a]!) dk j (a+1)>scanDown (fun x=> !ltInt x dk[a]!) dk (scanUp (fun x=>ltInt x dk[a]!) dk j (a+1)) j then(scanDown (fun x=> !ltInt x dk[a]!) dk (scanUp (fun x=>ltInt x dk[a]!) dk j (a+1)) j,true,swp dk (scanDown (fun x=> !ltInt x dk[a]!) dk (scanUp (fun x=>ltInt x dk[a]!) dk j (a+1)) j) a) else
   ((partLoop ltInt a (scanUp (fun x=>ltInt x dk[a]!) dk j (a+1)+1) (scanDown (fun x=> !ltInt x dk[a]!) dk (scanUp (fun x=>ltInt x dk[a]!) dk j (a+1)) j-1) (swp dk (scanUp (fun x=>ltInt x dk[a]!) dk j (a+1)) (scanDown (fun x=> !ltInt x dk[a]!) dk (scanUp (fun x=>ltInt x dk[a]!) dk j (a+1)) j))).1,false,
    swp (partLoop ltInt a (scanUp (fun x=>ltInt x dk[a]!) dk j (a+1)+1) (scanDown (fun x=> !ltInt x dk[a]!) dk (scanUp (fun x=>ltInt x dk[a]!) dk j (a+1)) j-1) (swp dk (scanUp (fun x=>ltInt x dk[a]!) dk j (a+1)) (scanDown (fun x=> !ltInt x dk[a]!) dk (scanUp (fun x=>ltInt x dk[a]!) dk j (a+1)) j))).2
     (partLoop ltInt a (scanUp (fun x=>ltInt x dk[a]!) dk j (a+1)+1) (scanDown (fun x=> !ltInt x dk[a]!) dk (scanUp (fun x=>ltInt x dk[a]!) dk j (a+1)) j-1) (swp dk (scanUp (fun x=>ltInt x dk[a]!) dk j (a+1)) (scanDown (fun x=> !ltInt x dk[a]!) dk (scanUp (fun x=>ltInt x dk[a]!) dk j (a+1)) j))).1 a)):=by
  show partition ltInt d a b p=_;rw[k3,hy];rfl
 have kg:=hid hy;clear h I h6 kh ki hb hn hA hP k3 hy;go_enter Tryz.func230,Tryz.ntmps230;go_wp2;go_region;have hR:Hid (RowS ((w.setCell ⟨g,a,none⟩ (.int .u64 xq)).setCell ⟨g,p,none⟩ (.int .u64 x0)).drew g n dk tl):=by rw[kg.out];exact(RowS.swpV H.out HA.out HP.out U.out ha.out).drew
 have hO:Hid (Only [g] w ((w.setCell ⟨g,a,none⟩ (.int .u64 xq)).setCell ⟨g,p,none⟩ (.int .u64 x0)).drew):=(q2q w g a p (Value.int .u64 xq) (Value.int .u64 x0)).drew;clear c0 cq f0 fq hj hk;go_upto_block 0 with fail;go_cut [10] (fun s9 wc=> ∃i2:Nat,s9= .int .i64 i2/\Hid (i2=scanUp (fun x=>ltInt x dk[a]!) dk j (a+1))/\Hid (RowS wc g n dk tl)/\Hid (Only [g] w wc))
 case first=>
  go_wp2_with fail;go_loopw [10] (fun vi wx=> ∃(t:Nat),vi= .int .i64 t/\Hid ((a+1)<=t/\t<=j+1)/\Hid (RowS wx g n dk tl)/\Hid (Only [g] w wx)/\Hid (scanUp (fun x=>ltInt x dk[a]!) dk j t=scanUp (fun x=>ltInt x dk[a]!) dk j (a+1))) (fun vi _=>(j+1:Nat)- (intOf vi).toNat);case atStart=>exact⟨(a+1),by first|rfl|go_num,(⟨AG _,Y.out.2.1⟩:(a+1)<=(a+1)/\(a+1)<=j+1),hR,hO,rfl⟩
  case round=>
   obtain⟨t,rfl,ht,S,h7,hT⟩:=hrel;obtain⟨x0,I⟩:∃x,x=dk[a]! :=⟨_,rfl⟩;have hg:=HN.out;have bj:j<n:=by have:=Y.out.2.2;have:=BN.out;omega
   have t9:(t:Int)<=1000000000:=by have:=ht.out.2;omega
   have t0:(0:Int)<=(t:Int):=by omega
   have j9:(j:Int)<=1000000000:=by omega
   have jn:(j:Int)< (n:Int):=by omega
   have c0:wr.cell? ⟨g,a,none⟩=some (.int .u64 x0):=by rw[I];exact S.out.cell HA.out
   have U:=hid I;by_cases htj:t<=j
   ·have d1:decide ((t:Int)<=(j:Int))=true:=by simp;omega
    have d2:(t:Int)<=(j:Int):=by omega
    have tn:(t:Int)< (n:Int):=by omega
    obtain⟨xt,h8⟩:∃x,x=dk[t]! :=⟨_,rfl⟩;have ct:wr.cell? ⟨g,t,none⟩=some (.int .u64 xt):=by rw[h8];exact S.out.cell (by omega)
    have h9:=hid h8;have h5:=hid htj;clear I h8 htj bj;go_wp2_with fail;go_quiet (first|(go_at_call 228;exact Calls.quiet_of_same (q2n _ _ _)));go_wp2
    ·have hl:ltInt xt x0=true:=by assumption
     go_roundw;case rel=>refine⟨t+1,by go_num,(by have:=ht.out;have:=h5.out;omega:(a+1)<=t+1/\t+1<=j+1),S.out.drewN _,h7.out.drewN _,?_⟩;show scanUp _ dk j (t+1)=_;rw[<- hT.out,<- v6x _ dk j t h5.out (by rw[<- U.out,<- h9.out];exact hl)]
     case measure=>first|(simp[intOf];done)|(simp[intOf];omega)
    ·have hl:ltInt xt x0=false:=by assumption
     go_meet;case rel=>refine⟨t,rfl,?_,S.out.drewN _,h7.out.drewN _⟩;show t=_;rw[<- hT.out,z0x _ dk j t (fun _=>by rw[<- U.out,<- h9.out];exact hl)]
   ·have d1:decide ((t:Int)<=(j:Int))=false:=by simp;omega
    have d2:decide (t<=j)=false:=by simp;omega
    have h5:=hid htj;clear I htj bj;go_wp2_with fail;go_quiet (first|(go_at_call 228;exact Calls.quiet_of_same (q2n _ _ _)));go_wp2;go_meet;case rel=>refine⟨t,rfl,?_,S.out.drewN _,h7.out.drewN _⟩;show t=_;rw[<- hT.out,z0x _ dk j t (fun h=>absurd h h5.out)]
 case rest=>
  obtain⟨i2,rfl,hf,hp,hr⟩:=hcut;have O:Hid ((a+1)<=i2/\i2<=j+1):=by have:=Go.Sort.scanUp_spec (fun x=>ltInt x dk[a]!) dk j _ ((a+1)) rfl;rw[<- hf.out] at this;exact⟨this.1,this.2.1 Y.out.2.1⟩
  go_upto_block 2 with fail;go_cut [11] (fun k5 wc=> ∃j2:Nat,k5= .int .i64 j2/\Hid (j2=scanDown (fun x=> !ltInt x dk[a]!) dk i2 j)/\Hid (RowS wc g n dk tl)/\Hid (Only [g] w wc))
  case first=>
   go_wp2_with fail;go_loopw [11] (fun vi wx=> ∃(t:Nat),vi= .int .i64 t/\Hid (t<=j/\i2<=t+1)/\Hid (RowS wx g n dk tl)/\Hid (Only [g] w wx)/\Hid (scanDown (fun x=> !ltInt x dk[a]!) dk i2 t=scanDown (fun x=> !ltInt x dk[a]!) dk i2 j)) (fun vi _=>(intOf vi).toNat);case atStart=>exact⟨j,rfl,(⟨AG _,O.out.2⟩:j<=j/\i2<=j+1),hp,hr,rfl⟩
   case round=>
    obtain⟨t,rfl,ht,S,h7,hT⟩:=hrel;obtain⟨x0,I⟩:∃x,x=dk[a]! :=⟨_,rfl⟩;have hg:=HN.out;have bj:j<n:=by have:=Y.out.2.2;have:=BN.out;omega
    have i0:0<i2:=by have:=O.out.1;have:=Y.out.1;omega
    have t9:(t:Int)<=1000000000:=by have:=ht.out.1;omega
    have t0:(0:Int)<=(t:Int):=by omega
    have c0:wr.cell? ⟨g,a,none⟩=some (.int .u64 x0):=by rw[I];exact S.out.cell HA.out
    have U:=hid I;have ho:=hid i0;by_cases htj:i2<=t
    ·obtain⟨q,hq⟩:∃q,t=q+1:=⟨t-1,by omega⟩;have d1:decide ((i2:Int)<=(t:Int))=true:=by simp;omega
     have d2:(i2:Int)<=(t:Int):=by omega
     have t1:(1:Int)<=(t:Int):=by omega
     have tn:(t:Int)< (n:Int):=by have:=ht.out.1;omega
     obtain⟨xt,h8⟩:∃x,x=dk[t]! :=⟨_,rfl⟩;have ct:wr.cell? ⟨g,t,none⟩=some (.int .u64 xt):=by rw[h8];exact S.out.cell (by omega)
     have h9:=hid h8;have h5:=hid htj;have HQ:=hid hq;clear I h8 htj bj i0 hq;go_wp2_with fail;go_quiet (first|(go_at_call 228;exact Calls.quiet_of_same (q2n _ _ _)));go_wp2
     ·have hl:(!ltInt xt x0)=true:=by assumption
      go_roundw;case rel=>have:=HQ.out;refine⟨q,by congr 1;omega,(by have:=ht.out;have:=h5.out;omega:q<=j/\i2<=q+1),S.out.drewN _,h7.out.drewN _,?_⟩;show scanDown _ dk i2 q=_;have h1:=h5.out;have h2:=h9.out;rw[HQ.out] at h1 h2;rw[<- hT.out,HQ.out,<- x0d _ dk i2 q h1 (by rw[<- U.out,<- h2];exact hl)]
      case measure=>first|(simp[intOf];done)|(simp[intOf];omega)
     ·have hl:(!ltInt xt x0)=false:=by assumption
      go_meet;case rel=>refine⟨t,rfl,?_,S.out.drewN _,h7.out.drewN _⟩;show t=_;rw[<- hT.out,q5a _ dk i2 t ho.out (fun _=>by rw[<- U.out,<- h9.out];exact hl)]
    ·have d1:decide ((i2:Int)<=(t:Int))=false:=by simp;omega
     have d2:decide (i2<=t)=false:=by simp;omega
     have h5:=hid htj;clear I htj bj i0;go_wp2_with fail;go_quiet (first|(go_at_call 228;exact Calls.quiet_of_same (q2n _ _ _)));go_wp2;go_meet;case rel=>refine⟨t,rfl,?_,S.out.drewN _,h7.out.drewN _⟩;show t=_;rw[<- hT.out,q5a _ dk i2 t ho.out (fun h=>absurd h h5.out)]
  case rest=>
   obtain⟨j2,rfl,he,L,hi⟩:=hcut;have M:Hid (j2<=j/\i2<=j2+1):=by have:=Go.Sort.scanDown_spec (fun x=> !ltInt x dk[a]!) dk i2 j;rw[<- he.out] at this;exact⟨this.1,this.2.1 O.out.2⟩
   rw[<- hf.out,<- he.out] at hm;by_cases hgt:i2>j2
   ·have d1:(i2:Int)>(j2:Int):=by omega
    have e:=hid (show partition ltInt d a b p=(j2,true,swp dk j2 a) from hm.out.trans (if_pos hgt));clear hgt hm;have hg:=HN.out;have bi:j2<n:=by have:=M.out.1;have:=Y.out.2.2;have:=BN.out;omega
    have bj:a<n:=HA.out;have k8:(0:Int)<=(j2:Int):=by omega
    have k4:(j2:Int)< (n:Int):=by omega
    have hz:(0:Int)<=(a:Int):=by omega
    have kb:(a:Int)< (n:Int):=by omega
    have k9:(j2:Int)<=1000000000:=by omega
    have kc:(a:Int)<=1000000000:=by omega
    obtain⟨x0,I⟩:∃x,x=dk[j2]! :=⟨_,rfl⟩;obtain⟨xq,h6⟩:∃x,x=dk[a]! :=⟨_,rfl⟩;have c0:wc.cell? ⟨g,j2,none⟩=some (.int .u64 x0):=by rw[I];exact L.out.cell bi
    have cq:wc.cell? ⟨g,a,none⟩=some (.int .u64 xq):=by rw[h6];exact L.out.cell bj
    have f0:=L.out.frozen j2;have fq:=L.out.frozen a;obtain⟨yq,hj⟩:∃y,(wc.setCell ⟨g,j2,none⟩ (.int .u64 xq)).cell? ⟨g,a,none⟩=some (.int .u64 y):=⟨_,(L.out.set_ xq bi).cell bj⟩;have hk:=(L.out.set_ xq bi).frozen a;have U:=hid I;have ha:=hid h6;have BI:=hid bi;have BJ:=hid bj;clear I h6 bi bj;go_wp2;go_region;all_goals go_wp2
    go_ret2;rw[e.out];exact⟨rfl,RowS.swpV L.out.drew BI.out BJ.out U.out ha.out,hi.out.drew.trans (q2q _ g _ _ _ _) (fun x hx=>Or.inl hx)⟩
   ·have d1: ¬(i2:Int)>(j2:Int):=by omega
    have hs:i2≠j2:=by intro e;have h1:=(Go.Sort.scanUp_spec (fun x=>ltInt x dk[a]!) dk j _ (a+1) rfl).2.2.2;rw[<- hf.out] at h1;have h2:=(Go.Sort.scanDown_spec (fun x=> !ltInt x dk[a]!) dk i2 j).2.2.2;rw[<- he.out] at h2;have h3:=h1 (by have:=M.out.1;omega);have h4:=h2 (by omega) (by have:=Y.out.1;have:=O.out.1;omega);rw[e] at h3;simp[h3] at h4
    have hh:Hid (i2<j2):=by show i2<j2;omega
    have J1:Hid (1<=j2):=by have:=hh.out;show 1<=j2;omega
    have k0:=hid hgt;clear hgt hs;have e:=hid (hm.out.trans (if_neg k0.out));clear hm;have hg:=HN.out;have bi:i2<n:=by have:=hh.out;have:=M.out.1;have:=Y.out.2.2;have:=BN.out;omega
    have bj:j2<n:=by have:=M.out.1;have:=Y.out.2.2;have:=BN.out;omega
    have k8:(0:Int)<=(i2:Int):=by omega
    have k4:(i2:Int)< (n:Int):=by omega
    have hz:(0:Int)<=(j2:Int):=by omega
    have kb:(j2:Int)< (n:Int):=by omega
    have k9:(i2:Int)<=1000000000:=by omega
    have kc:(j2:Int)<=1000000000:=by omega
    obtain⟨x0,I⟩:∃x,x=dk[i2]! :=⟨_,rfl⟩;obtain⟨xq,h6⟩:∃x,x=dk[j2]! :=⟨_,rfl⟩;have c0:wc.cell? ⟨g,i2,none⟩=some (.int .u64 x0):=by rw[I];exact L.out.cell bi
    have cq:wc.cell? ⟨g,j2,none⟩=some (.int .u64 xq):=by rw[h6];exact L.out.cell bj
    have f0:=L.out.frozen i2;have fq:=L.out.frozen j2;obtain⟨yq,hj⟩:∃y,(wc.setCell ⟨g,i2,none⟩ (.int .u64 xq)).cell? ⟨g,j2,none⟩=some (.int .u64 y):=⟨_,(L.out.set_ xq bi).cell bj⟩;have hk:=(L.out.set_ xq bi).frozen j2;have U:=hid I;have ha:=hid h6;have BI:=hid bi;have BJ:=hid bj;clear I h6 bi bj;go_wp2;go_region;have R4:=hid (RowS.swpV L.out.drew BI.out BJ.out U.out ha.out);have O4:=hid (hi.out.drew.trans (q2q _ g i2 j2 (Value.int .u64 xq) (Value.int .u64 x0)) (fun x hx=>Or.inl hx));obtain⟨I0,ke⟩:∃I0,I0=i2+1:=⟨_,rfl⟩;obtain⟨J0,kd⟩:∃J0,J0=j2-1:=⟨_,rfl⟩;have eI:(i2:Int)+1=(I0:Int):=by omega
    have eJ:(j2:Int)-1=(J0:Int):=by have:=J1.out;omega
    obtain⟨dm,k7⟩:∃dm,dm=swp dk i2 j2:=⟨_,rfl⟩;rw[<- k7] at R4;have e2:Hid (partition ltInt d a b p=((partLoop ltInt a I0 J0 dm).1,false,swp (partLoop ltInt a I0 J0 dm).2 (partLoop ltInt a I0 J0 dm).1 a)):=by show partition ltInt d a b p=_;rw[ke,kd,k7];exact e.out
    have kf:Hid (a<I0/\I0<=J0+1/\J0<b):=by show a<I0/\I0<=J0+1/\J0<b;have:=hh.out;have:=O.out;have:=M.out;have:=Y.out;omega
    have wI:=q2s (q:=I0) (by omega);have wJ:=q2s (q:=J0) (by omega);clear e ke kd k7 c0 cq f0 fq hj hk U ha Y hf he O M;go_wp2
    go_loopw [10,11] (fun vi vj wr=> ∃(i j:Nat) (dk:Array Int),vi= .int .i64 i/\vj= .int .i64 j/\Hid (a<i/\i<=j+1/\j<b)/\Hid (RowS wr g n dk tl)/\Hid (Only [g] w wr)/\
      Hid (partLoop ltInt a i j dk=partLoop ltInt a I0 J0 dm)) (fun vi vj _=>(intOf vj+1-intOf vi).toNat)
    case atStart=>exact⟨I0,J0,dm,rfl,rfl,kf,R4,O4,rfl⟩
    case round=>
     clear kf R4 O4 hR hO hp hr L hi;obtain⟨i,j,dk,rfl,rfl,Y,hR,hO,hI⟩:=hrel;go_upto_block 6 with fail;go_cut [10] (fun s9 wc=> ∃i2:Nat,s9= .int .i64 i2/\Hid (i2=scanUp (fun x=>ltInt x dk[a]!) dk j i)/\Hid (RowS wc g n dk tl)/\Hid (Only [g] w wc))
     case first=>
      go_wp2_with fail;go_loopw [10] (fun vi wx=> ∃(t:Nat),vi= .int .i64 t/\Hid (i<=t/\t<=j+1)/\Hid (RowS wx g n dk tl)/\Hid (Only [g] w wx)/\Hid (scanUp (fun x=>ltInt x dk[a]!) dk j t=scanUp (fun x=>ltInt x dk[a]!) dk j i)) (fun vi _=>(j+1:Nat)- (intOf vi).toNat);case atStart=>exact⟨i,by first|rfl|go_num,(⟨AG _,Y.out.2.1⟩:i<=i/\i<=j+1),hR,hO,rfl⟩
      case round=>
       obtain⟨t,rfl,ht,S,h7,hT⟩:=hrel;obtain⟨x0,I⟩:∃x,x=dk[a]! :=⟨_,rfl⟩;have hg:=HN.out;have bj:j<n:=by have:=Y.out.2.2;have:=BN.out;omega
       have t9:(t:Int)<=1000000000:=by have:=ht.out.2;omega
       have t0:(0:Int)<=(t:Int):=by omega
       have j9:(j:Int)<=1000000000:=by omega
       have jn:(j:Int)< (n:Int):=by omega
       have c0:wr.cell? ⟨g,a,none⟩=some (.int .u64 x0):=by rw[I];exact S.out.cell HA.out
       have U:=hid I;by_cases htj:t<=j
       ·have d1:decide ((t:Int)<=(j:Int))=true:=by simp;omega
        have d2:(t:Int)<=(j:Int):=by omega
        have tn:(t:Int)< (n:Int):=by omega
        obtain⟨xt,h8⟩:∃x,x=dk[t]! :=⟨_,rfl⟩;have ct:wr.cell? ⟨g,t,none⟩=some (.int .u64 xt):=by rw[h8];exact S.out.cell (by omega)
        have h9:=hid h8;have h5:=hid htj;clear I h8 htj bj;go_wp2_with fail;go_quiet (first|(go_at_call 228;exact Calls.quiet_of_same (q2n _ _ _)));go_wp2
        ·have hl:ltInt xt x0=true:=by assumption
         go_roundw;case rel=>refine⟨t+1,by go_num,(by have:=ht.out;have:=h5.out;omega:i<=t+1/\t+1<=j+1),S.out.drewN _,h7.out.drewN _,?_⟩;show scanUp _ dk j (t+1)=_;rw[<- hT.out,<- v6x _ dk j t h5.out (by rw[<- U.out,<- h9.out];exact hl)]
         case measure=>first|(simp[intOf];done)|(simp[intOf];omega)
        ·have hl:ltInt xt x0=false:=by assumption
         go_meet;case rel=>refine⟨t,rfl,?_,S.out.drewN _,h7.out.drewN _⟩;show t=_;rw[<- hT.out,z0x _ dk j t (fun _=>by rw[<- U.out,<- h9.out];exact hl)]
       ·have d1:decide ((t:Int)<=(j:Int))=false:=by simp;omega
        have d2:decide (t<=j)=false:=by simp;omega
        have h5:=hid htj;clear I htj bj;go_wp2_with fail;go_quiet (first|(go_at_call 228;exact Calls.quiet_of_same (q2n _ _ _)));go_wp2;go_meet;case rel=>refine⟨t,rfl,?_,S.out.drewN _,h7.out.drewN _⟩;show t=_;rw[<- hT.out,z0x _ dk j t (fun h=>absurd h h5.out)]
     case rest=>
      obtain⟨i2,rfl,hf,hp,hr⟩:=hcut;have O:Hid (i<=i2/\i2<=j+1):=by have:=Go.Sort.scanUp_spec (fun x=>ltInt x dk[a]!) dk j _ (i) rfl;rw[<- hf.out] at this;exact⟨this.1,this.2.1 Y.out.2.1⟩
      go_upto_block 8 with fail;go_cut [11] (fun k5 wc=> ∃j2:Nat,k5= .int .i64 j2/\Hid (j2=scanDown (fun x=> !ltInt x dk[a]!) dk i2 j)/\Hid (RowS wc g n dk tl)/\Hid (Only [g] w wc))
      case first=>
       go_wp2_with fail;go_loopw [11] (fun vi wx=> ∃(t:Nat),vi= .int .i64 t/\Hid (t<=j/\i2<=t+1)/\Hid (RowS wx g n dk tl)/\Hid (Only [g] w wx)/\Hid (scanDown (fun x=> !ltInt x dk[a]!) dk i2 t=scanDown (fun x=> !ltInt x dk[a]!) dk i2 j)) (fun vi _=>(intOf vi).toNat);case atStart=>exact⟨j,rfl,(⟨AG _,O.out.2⟩:j<=j/\i2<=j+1),hp,hr,rfl⟩
       case round=>
        obtain⟨t,rfl,ht,S,h7,hT⟩:=hrel;obtain⟨x0,I⟩:∃x,x=dk[a]! :=⟨_,rfl⟩;have hg:=HN.out;have bj:j<n:=by have:=Y.out.2.2;have:=BN.out;omega
        have i0:0<i2:=by have:=O.out.1;have:=Y.out.1;omega
        have t9:(t:Int)<=1000000000:=by have:=ht.out.1;omega
        have t0:(0:Int)<=(t:Int):=by omega
        have c0:wr.cell? ⟨g,a,none⟩=some (.int .u64 x0):=by rw[I];exact S.out.cell HA.out
        have U:=hid I;have ho:=hid i0;by_cases htj:i2<=t
        ·obtain⟨q,hq⟩:∃q,t=q+1:=⟨t-1,by omega⟩;have d1:decide ((i2:Int)<=(t:Int))=true:=by simp;omega
         have d2:(i2:Int)<=(t:Int):=by omega
         have t1:(1:Int)<=(t:Int):=by omega
         have tn:(t:Int)< (n:Int):=by have:=ht.out.1;omega
         obtain⟨xt,h8⟩:∃x,x=dk[t]! :=⟨_,rfl⟩;have ct:wr.cell? ⟨g,t,none⟩=some (.int .u64 xt):=by rw[h8];exact S.out.cell (by omega)
         have h9:=hid h8;have h5:=hid htj;have HQ:=hid hq;clear I h8 htj bj i0 hq;go_wp2_with fail;go_quiet (first|(go_at_call 228;exact Calls.quiet_of_same (q2n _ _ _)));go_wp2
         ·have hl:(!ltInt xt x0)=true:=by assumption
          go_roundw;case rel=>have:=HQ.out;refine⟨q,by congr 1;omega,(by have:=ht.out;have:=h5.out;omega:q<=j/\i2<=q+1),S.out.drewN _,h7.out.drewN _,?_⟩;show scanDown _ dk i2 q=_;have h1:=h5.out;have h2:=h9.out;rw[HQ.out] at h1 h2;rw[<- hT.out,HQ.out,<- x0d _ dk i2 q h1 (by rw[<- U.out,<- h2];exact hl)]
          case measure=>first|(simp[intOf];done)|(simp[intOf];omega)
         ·have hl:(!ltInt xt x0)=false:=by assumption
          go_meet;case rel=>refine⟨t,rfl,?_,S.out.drewN _,h7.out.drewN _⟩;show t=_;rw[<- hT.out,q5a _ dk i2 t ho.out (fun _=>by rw[<- U.out,<- h9.out];exact hl)]
        ·have d1:decide ((i2:Int)<=(t:Int))=false:=by simp;omega
         have d2:decide (i2<=t)=false:=by simp;omega
         have h5:=hid htj;clear I htj bj i0;go_wp2_with fail;go_quiet (first|(go_at_call 228;exact Calls.quiet_of_same (q2n _ _ _)));go_wp2;go_meet;case rel=>refine⟨t,rfl,?_,S.out.drewN _,h7.out.drewN _⟩;show t=_;rw[<- hT.out,q5a _ dk i2 t ho.out (fun h=>absurd h h5.out)]
      case rest=>
       obtain⟨j2,rfl,he,L,hi⟩:=hcut;have M:Hid (j2<=j/\i2<=j2+1):=by have:=Go.Sort.scanDown_spec (fun x=> !ltInt x dk[a]!) dk i2 j;rw[<- he.out] at this;exact⟨this.1,this.2.1 O.out.2⟩
       have k1:Hid (partLoop ltInt a i j dk=if i2>j2 then(j2,dk) else partLoop ltInt a (i2+1) (j2-1) (swp dk i2 j2)):=by show partLoop ltInt a i j dk=_;rw[Go.Sort.partLoop_eq,<- hf.out,<- he.out]
       by_cases hgt:i2>j2
       ·have d1:(i2:Int)>(j2:Int):=by omega
        have e:=hid (k1.out.trans (if_pos hgt));clear hgt;have hg:=HN.out;have bi:j2<n:=by have:=M.out.1;have:=Y.out.2.2;have:=BN.out;omega
        have bj:a<n:=HA.out;have k8:(0:Int)<=(j2:Int):=by omega
        have k4:(j2:Int)< (n:Int):=by omega
        have hz:(0:Int)<=(a:Int):=by omega
        have kb:(a:Int)< (n:Int):=by omega
        have k9:(j2:Int)<=1000000000:=by omega
        have kc:(a:Int)<=1000000000:=by omega
        obtain⟨x0,I⟩:∃x,x=dk[j2]! :=⟨_,rfl⟩;obtain⟨xq,h6⟩:∃x,x=dk[a]! :=⟨_,rfl⟩;have c0:wc.cell? ⟨g,j2,none⟩=some (.int .u64 x0):=by rw[I];exact L.out.cell bi
        have cq:wc.cell? ⟨g,a,none⟩=some (.int .u64 xq):=by rw[h6];exact L.out.cell bj
        have f0:=L.out.frozen j2;have fq:=L.out.frozen a;obtain⟨yq,hj⟩:∃y,(wc.setCell ⟨g,j2,none⟩ (.int .u64 xq)).cell? ⟨g,a,none⟩=some (.int .u64 y):=⟨_,(L.out.set_ xq bi).cell bj⟩;have hk:=(L.out.set_ xq bi).frozen a;have U:=hid I;have ha:=hid h6;have BI:=hid bi;have BJ:=hid bj;clear I h6 bi bj;go_wp2;go_region;all_goals go_wp2
        go_ret2;rw[e2.out,<- hI.out,e.out];exact⟨rfl,RowS.swpV L.out.drew BI.out BJ.out U.out ha.out,hi.out.drew.trans (q2q _ g _ _ _ _) (fun x hx=>Or.inl hx)⟩
       ·have d1: ¬(i2:Int)>(j2:Int):=by omega
        have hs:i2≠j2:=by intro e;have h1:=(Go.Sort.scanUp_spec (fun x=>ltInt x dk[a]!) dk j _ (i) rfl).2.2.2;rw[<- hf.out] at h1;have h2:=(Go.Sort.scanDown_spec (fun x=> !ltInt x dk[a]!) dk i2 j).2.2.2;rw[<- he.out] at h2;have h3:=h1 (by have:=M.out.1;omega);have h4:=h2 (by omega) (by have:=Y.out.1;have:=O.out.1;omega);rw[e] at h3;simp[h3] at h4
        have hh:Hid (i2<j2):=by show i2<j2;omega
        have J1:Hid (1<=j2):=by have:=hh.out;show 1<=j2;omega
        have k0:=hid hgt;clear hgt hs;have e:=hid (k1.out.trans (if_neg k0.out));clear k1;have hg:=HN.out;have bi:i2<n:=by have:=hh.out;have:=M.out.1;have:=Y.out.2.2;have:=BN.out;omega
        have bj:j2<n:=by have:=M.out.1;have:=Y.out.2.2;have:=BN.out;omega
        have k8:(0:Int)<=(i2:Int):=by omega
        have k4:(i2:Int)< (n:Int):=by omega
        have hz:(0:Int)<=(j2:Int):=by omega
        have kb:(j2:Int)< (n:Int):=by omega
        have k9:(i2:Int)<=1000000000:=by omega
        have kc:(j2:Int)<=1000000000:=by omega
        obtain⟨x0,I⟩:∃x,x=dk[i2]! :=⟨_,rfl⟩;obtain⟨xq,h6⟩:∃x,x=dk[j2]! :=⟨_,rfl⟩;have c0:wc.cell? ⟨g,i2,none⟩=some (.int .u64 x0):=by rw[I];exact L.out.cell bi
        have cq:wc.cell? ⟨g,j2,none⟩=some (.int .u64 xq):=by rw[h6];exact L.out.cell bj
        have f0:=L.out.frozen i2;have fq:=L.out.frozen j2;obtain⟨yq,hj⟩:∃y,(wc.setCell ⟨g,i2,none⟩ (.int .u64 xq)).cell? ⟨g,j2,none⟩=some (.int .u64 y):=⟨_,(L.out.set_ xq bi).cell bj⟩;have hk:=(L.out.set_ xq bi).frozen j2;have U:=hid I;have ha:=hid h6;have BI:=hid bi;have BJ:=hid bj;clear I h6 bi bj;go_wp2;go_region;all_goals go_wp2
        go_roundw
        case rel=>
         refine⟨i2+1,j2-1,swp dk i2 j2,by go_num,by have:=J1.out;go_num,(by have:=Y.out;have:=O.out;have:=M.out;have:=J1.out;have:=hh.out;omega:a<i2+1/\i2+1<=j2-1+1/\j2-1<b),?_,?_,?_⟩;·exact RowS.swpV L.out.drew BI.out BJ.out U.out ha.out
         ·exact hi.out.drew.trans (q2q _ g _ _ _ _) (fun x hx=>Or.inl hx)
         ·show partLoop ltInt a (i2+1) (j2-1) (swp dk i2 j2)=_;rw[<- e.out];exact hI.out
        case measure=>have:=O.out;have:=M.out;first|(simp[intOf];done)|(simp[intOf];omega)
end
end Go.Proofs.YtibiekfjbibpbaaGreat
