/- A row of addresses sorted: how it lies in memory; less; insertion. -/
import Derived.Sort.AssemblyPlain
import Derived.BigQuiet
import Derived.WalkMore
import Derived.Test.YtibiekfjbibpbaaGreatRow
import Derived.Deep.DeepCutAuto
import Derived.Deep.CutBlock
set_option maxRecDepth 100000
set_option maxHeartbeats 8000000
set_option linter.unusedVariables false
set_option linter.unusedSimpArgs false
namespace Go.Proofs.YtibiekfjbibpbaaGreat
open Go.RowKit
section
open Go.Sort (swp insInner insOuter insertionSort ltInt SWO PermIn SortedIn)
theorem setI_toArray (l:List Value) (i:Nat) (v:Value):l.toArray.setIfInBounds i v=(l.set i v).toArray:=by
 apply Array.ext'
 simp
def rowC (d:Array Int) (tl:List Value):Array Value:=(d.toList.map (Value.int .u64)++tl).toArray
structure RowS (w:World) (g n:Nat) (d:Array Int) (tl:List Value):Prop where
 blk:Blk w g 51 (rowC d tl)
 size:d.size=n
section
variable {w w':World} {g n:Nat} {d:Array Int} {tl:List Value}
theorem bang {d:Array Int} {i:Nat} (h:i<d.size):d[i]?=some d[i]! :=by
 rw[Array.getElem?_eq_getElem h,getElem!_pos d i h]
theorem RowS.cell (h:RowS w g n d tl) {i:Nat} (hi:i<n):w.cell? ⟨g,i,none⟩=some (.int .u64 d[i]!):=by
 have hi':i<d.size:=by rw[h.size];exact hi
 rw[h.blk.cell]
 unfold rowC
 rw[List.getElem?_toArray,List.getElem?_append_left (by simpa using hi'),List.getElem?_map,Array.getElem?_toList,bang hi']
 rfl
theorem RowS.frozen (h:RowS w g n d tl) (i:Nat):w.frozen? ⟨g,i,none⟩=false:=h.blk.frozen i
theorem RowS.only {f:List Nat} (h:RowS w g n d tl) (ho:Only f w w') (hg:g∉f):RowS w' g n d tl:=⟨ho.blk h.blk hg,h.size⟩
theorem RowS.drew (h:RowS w g n d tl):RowS w.drew g n d tl:=⟨h.blk.drew,h.size⟩
theorem RowS.drewN (h:RowS w g n d tl) (q:Nat):RowS (w.drewN q) g n d tl:=⟨h.blk.drewN q,h.size⟩
theorem RowS.set_ (h:RowS w g n d tl) {i:Nat} (x:Int) (hi:i<n):RowS (w.setCell ⟨g,i,none⟩ (.int .u64 x)) g n (d.setIfInBounds i x) tl:=by
 refine⟨?_,by simpa using h.size⟩
 have:=h.blk.set_ i (.int .u64 x)
 have he:(rowC d tl).setIfInBounds i (.int .u64 x)=rowC (d.setIfInBounds i x) tl:=by
  unfold rowC
  rw[setI_toArray,List.set_append_left _ _ (by simpa[h.size] using hi),Array.toList_setIfInBounds,List.map_set]
 rw[he] at this
 exact this
theorem RowS.swp (h:RowS w g n d tl) {i j:Nat} (hi:i<n) (hj:j<n):RowS ((w.setCell ⟨g,i,none⟩ (.int .u64 d[j]!)).setCell ⟨g,j,none⟩ (.int .u64 d[i]!)) g n (swp d i j) tl:=(h.set_ d[j]! hi).set_ d[i]! hj
theorem RowS.swpV (h:RowS w g n d tl) {i j:Nat} (hi:i<n) (hj:j<n) {x y:Int} (hx:x=d[i]!) (hy:y=d[j]!):RowS ((w.setCell ⟨g,i,none⟩ (.int .u64 y)).setCell ⟨g,j,none⟩ (.int .u64 x)) g n (Go.Sort.swp d i j) tl:=by
 subst hx hy;exact h.swp hi hj
theorem only_two (w:World) (g i j:Nat) (x y:Value):Only [g] w ((w.setCell ⟨g,i,none⟩ x).setCell ⟨g,j,none⟩ y):=((Only.refl _ _).setCell (Or.inl (by simp)) _).setCell (Or.inl (by simp)) _
end
theorem wrapN {q:Nat} (h:q≤2000000000):IntKind.i64.wrap (q:Int)=(q:Int):=by
 unfold IntKind.wrap
 simp[IntKind.signed,IntKind.bits]
 omega
theorem wrapN1 {q:Nat} (h:q≤2000000000):IntKind.i64.wrap ((q:Int)+1)=(q:Int)+1:=by
 unfold IntKind.wrap
 simp[IntKind.signed,IntKind.bits]
 omega
theorem not_t {b:Bool} (h:(!b)=true):b=false:=by cases b<;>simp_all
theorem not_f {b:Bool} (h:(!b)=false):b=true:=by cases b<;>simp_all
theorem isNaN_s (x:Int) (w:World):Calls Tryz.prog 260 #[.int .u64 x] w fun e w'=>e= .returned (.bool false)∧w'=w:=by
 go_enter Tryz.func260,Tryz.ntmps260
 go_wp2
 go_ret
 exact⟨by simp,rfl⟩
theorem Less_s (x y:Int) (w:World):Calls Tryz.prog 228 #[.int .u64 x,.int .u64 y] w fun e w'=>e= .returned (.bool (ltInt x y))∧w'=w:=by
 go_enter Tryz.func228,Tryz.ntmps228
 go_wp2_with (go_at_call 260;refine(isNaN_s _ _).mono ?_;rintro e w' ⟨rfl,rfl⟩)
 go_ret
 exact⟨rfl,rfl⟩
section
variable (lt:Int→Int→Bool)
theorem insInner_go (a k:Nat) (d:Array Int) (hj:a<k+1) (hl:lt d[k+1]! d[k]! =true):insInner lt a (k+1) d=insInner lt a k (swp d (k+1) k):=by
 rw[insInner]
 simp[hl,show k+1>a from hj]
theorem insInner_stop (a k:Nat) (d:Array Int) (h:lt d[k+1]! d[k]! =false):insInner lt a (k+1) d=d:=by
 rw[insInner]
 simp[h]
theorem insInner_end (a j:Nat) (d:Array Int) (h:j≤a):insInner lt a j d=d:=by
 cases j with
 | zero=>rw[insInner]
 | succ k=>rw[insInner];simp[show ¬k+1>a by omega]
theorem insOuter_go (a b i:Nat) (d:Array Int) (h:i<b):insOuter lt a b i d=insOuter lt a b (i+1) (insInner lt a i d):=by rw[insOuter,if_pos h]
theorem insOuter_stop (a b i:Nat) (d:Array Int) (h: ¬i<b):insOuter lt a b i d=d:=by rw[insOuter,if_neg h]
end
theorem insertion_s (g n cap:Nat) (d:Array Int) (tl:List Value) (a b:Nat) (hab:a≤b) (hb:b≤n) (hn:n≤1000000000) (w:World) (h:RowS w g n d tl):
  Calls Tryz.prog 222 #[.slice (some ⟨g,0,none⟩) n cap,.int .i64 (a:Int),.int .i64 (b:Int)] w fun e w'=>
   (∃r,e= .returned r)∧RowS w' g n (insertionSort ltInt d a b) tl∧Only [g] w w':=by
 have H:=hid h
 have AB:=hid hab
 have BN:=hid hb
 have a1:(a:Int)≤1000000000:=by omega
 have HN:=hid hn
 clear h hab hb hn
 go_enter Tryz.func222,Tryz.ntmps222
 go_wp2
 go_loopw [6] (fun vi wr=> ∃(i:Nat) (dk:Array Int),vi= .int .i64 i∧Hid (a<i∧i≤b+1)∧Hid (RowS wr g n dk tl)∧Hid (Only [g] w wr)∧
   Hid (insOuter ltInt a b i dk=insertionSort ltInt d a b)) (fun vi _=>b+1- (intOf vi).toNat)
 case atStart=>
  have:=AB.out
  exact⟨a+1,d,by go_num,(⟨by omega,by omega⟩:a<a+1∧a+1≤b+1),H,Only.refl _ _,rfl⟩
 case round=>
  obtain⟨i,dk,rfl,hai,hR,hO,hI⟩:=hrel
  by_cases hib:i<b
  ·have i1:(i:Int)< (b:Int):=by omega
   have i2:(i:Int)≤1000000000:=by have:=BN.out;have:=HN.out;omega
   have HIB:=hid hib
   clear hib
   go_wp2
   go_loopw [7] (fun vj wr2=> ∃(j:Nat) (dj:Array Int),vj= .int .i64 j∧Hid (a≤j∧j≤i)∧Hid (RowS wr2 g n dj tl)∧Hid (Only [g] w wr2)∧
     Hid (insInner ltInt a j dj=insInner ltInt a i dk)) (fun vj _=>(intOf vj).toNat)
   case atStart=>exact⟨i,dk,rfl,(⟨by have:=hai.out.1;omega,Nat.le_refl _⟩:a≤i∧i≤i),hR,hO,rfl⟩
   case round=>
    obtain⟨j,dj,rfl,haj,hR2,hO2,hI2⟩:=hrel
    by_cases hja:a<j
    ·obtain⟨k,rfl⟩: ∃k,j=k+1:=⟨j-1,by omega⟩
     have hkn:k+1<n:=by have:=haj.out.2;have:=HIB.out;have:=BN.out;omega
     have hnl:=HN.out
     obtain⟨x,hx⟩: ∃x,x=dj[k+1]! :=⟨_,rfl⟩
     obtain⟨y,hy⟩: ∃y,y=dj[k]! :=⟨_,rfl⟩
     have c1:wr.cell? ⟨g,k+1,none⟩=some (.int .u64 x):=by rw[hx];exact hR2.out.cell hkn
     have c2:wr.cell? ⟨g,k,none⟩=some (.int .u64 y):=by rw[hy];exact hR2.out.cell (by omega)
     have f1:=hR2.out.frozen (k+1)
     have f2:=hR2.out.frozen k
     have HX:=hid hx
     have HY:=hid hy
     have hd:decide (((k:Int)+1)>(a:Int))=true:=by simp;omega
     clear hx hy
     have OUT:Hid (ltInt x y=false→ ∀q,∃i' dk',Value.int .i64 ((i:Int)+1)= .int .i64 (i':Nat)∧Hid (a<i'∧i'≤b+1)∧Hid (RowS (wr.drewN q) g n dk' tl)∧Hid (Only [g] w (wr.drewN q))∧Hid (insOuter ltInt a b i' dk'=insertionSort ltInt d a b)):=by
      intro hl q
      refine⟨i+1,dj,by go_num,(⟨by have:=hai.out.1;omega,by have:=HIB.out;omega⟩:a<i+1∧i+1≤b+1),hR2.out.drewN q,hO2.out.drewN q,?_⟩
      show insOuter ltInt a b (i+1) dj=_
      rw[←hI.out,insOuter_go _ _ _ _ _ HIB.out,←hI2.out,insInner_stop _ _ _ _ (by rw[←HX.out,←HY.out];exact hl)]
     go_wp2
     go_quiet (first | (go_at_call 228;exact Calls.quiet_of_same (Less_s _ _ _)))
     go_wp2
     ·have hl:Hid (ltInt x y=true):=by assumption
      go_region
      all_goals go_wp2
      go_roundw
      case rel=>
       refine⟨k,swp dj (k+1) k,by congr 1<;>omega,(⟨by omega,by have:=haj.out.2;omega⟩:a≤k∧k≤i),?_,?_,?_⟩
       ·have:=((hR2.out.drewN nq).drew).swp hkn (show k<n by omega)
        rw[←HX.out,←HY.out] at this
        exact this
       ·exact((hO2.out.drewN nq).drew).trans (only_two _ g _ _ _ _) (fun x hx=>Or.inl hx)
       ·show insInner ltInt a k _=_
        rw[←hI2.out,insInner_go ltInt a k dj hja (by rw[←HX.out,←HY.out];exact hl.out)]
      case measure=>first | (simp[intOf];done) | (simp[intOf];omega)
     ·have hl:ltInt x y=false:=by assumption
      go_roundw
      case rel=>exact OUT.out hl nq
      case measure=>first | (simp[intOf];done) | (simp[intOf];omega)
    ·have hd:decide ((j:Int)>(a:Int))=false:=by simp;omega
     have hnl:=HN.out
     have e:j=a:=by have:=haj.out.1;omega
     have OUT:Hid (∀q,∃i' dk',Value.int .i64 ((i:Int)+1)= .int .i64 (i':Nat)∧Hid (a<i'∧i'≤b+1)∧Hid (RowS (wr.drewN q) g n dk' tl)∧Hid (Only [g] w (wr.drewN q))∧Hid (insOuter ltInt a b i' dk'=insertionSort ltInt d a b)):=by
      intro q
      refine⟨i+1,dj,by go_num,(⟨by have:=hai.out.1;omega,by have:=HIB.out;omega⟩:a<i+1∧i+1≤b+1),hR2.out.drewN q,hO2.out.drewN q,?_⟩
      show insOuter ltInt a b (i+1) dj=_
      rw[←hI.out,insOuter_go _ _ _ _ _ HIB.out,←hI2.out,insInner_end _ _ _ _ (by omega)]
     subst e
     go_wp2
     go_quiet (first | (go_at_call 228;exact Calls.quiet_of_same (Less_s _ _ _)))
     go_wp2
     go_roundw
     case rel=>exact OUT.out nq
     case measure=>first | (simp[intOf];done) | (simp[intOf];omega)
  ·have i1: ¬(i:Int)< (b:Int):=by omega
   have HIB:=hid hib
   clear hib
   go_wp2
   go_end0
   exact⟨⟨_,rfl⟩,by rw[←hI.out,insOuter_stop _ _ _ _ _ HIB.out];exact hR.out,hO.out⟩
end
section
open Go.Sort (swp insInner insOuter insertionSort ltInt SWO PermIn SortedIn siftDown heapBuild heapPop heapSort reverseLoop reverseRange)
theorem sift_end (hi f r:Nat) (d:Array Int) (h: ¬2*r+1<hi):siftDown ltInt hi f r d=d:=by
 rw[siftDown];simp[show 2*r+1≥hi by omega]
theorem sift_go (hi f r q:Nat) (d:Array Int) (h:2*r+1<hi)
  (hq:(2*r+2<hi∧ltInt d[f+(2*r+1)]! d[f+(2*r+1)+1]! =true∧q=2*r+2)∨((2*r+2<hi→ltInt d[f+(2*r+1)]! d[f+(2*r+1)+1]! =false)∧q=2*r+1)):
  siftDown ltInt hi f r d=if ltInt d[f+r]! d[f+q]! then siftDown ltInt hi f q (swp d (f+r) (f+q)) else d:=by
 rw[siftDown,dif_neg (by omega)]
 rcases hq with⟨h1,h2,rfl⟩ | ⟨h1,rfl⟩
 ·rw[if_pos (by simp[h2];omega)]
  cases hl:ltInt d[f+r]! d[f+(2*r+2)]! with
  | true=>simp[h1]
  | false=>simp
 ·rw[if_neg (by simp;intro h3;exact h1 (by omega))]
  cases hl:ltInt d[f+r]! d[f+(2*r+1)]! with
  | true=>simp
  | false=>simp
theorem sift_s (g n cap:Nat) (d:Array Int) (tl:List Value) (lo hi f:Nat) (hf:f+hi≤n) (hn:n≤1000000000) (hlo:lo≤1000000000) (w:World) (h:RowS w g n d tl):
  Calls Tryz.prog 255 #[.slice (some ⟨g,0,none⟩) n cap,.int .i64 (lo:Int),.int .i64 (hi:Int),.int .i64 (f:Int)] w fun e w'=>
   (∃r,e= .returned r)∧RowS w' g n (siftDown ltInt hi f lo d) tl∧Only [g] w w':=by
 have H:=hid h
 have FN:=hid hf
 have HN:=hid hn
 have l1:(lo:Int)≤1000000000:=by omega
 have HLO:=hid hlo
 clear h hf hn hlo
 go_enter Tryz.func255,Tryz.ntmps255
 go_wp2
 go_loopw [8] (fun vi wr=> ∃(r:Nat) (dk:Array Int),vi= .int .i64 r∧Hid (r≤1000000000)∧Hid (RowS wr g n dk tl)∧Hid (Only [g] w wr)∧
   Hid (siftDown ltInt hi f r dk=siftDown ltInt hi f lo d)) (fun vi _=>hi- (intOf vi).toNat)
 case atStart=>exact⟨lo,d,rfl,HLO,H,Only.refl _ _,rfl⟩
 case round=>
  obtain⟨r,dk,rfl,hr9,hR,hO,hI⟩:=hrel
  have r1:(r:Int)≤1000000000:=by have:=hr9.out;omega
  have r0:(0:Int)≤(r:Int):=by omega
  have h9:(hi:Int)≤1000000000:=by have:=FN.out;have:=HN.out;omega
  have f9:(f:Int)≤1000000000:=by have:=FN.out;have:=HN.out;omega
  obtain⟨c,hc⟩: ∃c,c=2*r+1:=⟨_,rfl⟩
  have ec:2*(r:Int)+1=(c:Int):=by omega
  have HC:=hid hc
  by_cases hch:c<hi
  ·have d1: ¬(c:Int)≥(hi:Int):=by omega
   obtain⟨q,hq⟩: ∃q,(2*r+2<hi∧ltInt dk[f+(2*r+1)]! dk[f+(2*r+1)+1]! =true∧q=2*r+2)∨((2*r+2<hi→ltInt dk[f+(2*r+1)]! dk[f+(2*r+1)+1]! =false)∧q=2*r+1):=by
    by_cases h1:2*r+2<hi
    ·cases hl:ltInt dk[f+(2*r+1)]! dk[f+(2*r+1)+1]! with
     | true=>exact⟨_,Or.inl ⟨h1,rfl,rfl⟩⟩
     | false=>exact⟨_,Or.inr ⟨fun _=>rfl,rfl⟩⟩
    ·exact⟨_,Or.inr ⟨fun h=>absurd h h1,rfl⟩⟩
   have HS:=hid (sift_go hi f r q dk (by omega) hq)
   have hqb:Hid (r<q∧q<hi):=by show r<q∧q<hi;rcases hq with⟨a,b,e⟩ | ⟨a,e⟩<;>omega
   have q0:(0:Int)≤(q:Int):=by omega
   have q9:(q:Int)≤1000000000:=by have:=hqb.out;omega
   obtain⟨p0,hp0⟩: ∃p0,p0=f+r:=⟨_,rfl⟩
   obtain⟨pq,hpq⟩: ∃pq,pq=f+q:=⟨_,rfl⟩
   have e0:(f:Int)+(r:Int)=(p0:Int):=by omega
   have eq_:(f:Int)+(q:Int)=(pq:Int):=by omega
   have b0:p0<n:=by have:=hqb.out;have:=FN.out;omega
   have bq:pq<n:=by have:=hqb.out;have:=FN.out;omega
   obtain⟨x0,hx0⟩: ∃x,x=dk[p0]! :=⟨_,rfl⟩
   obtain⟨xq,hxq⟩: ∃x,x=dk[pq]! :=⟨_,rfl⟩
   have c0:wr.cell? ⟨g,p0,none⟩=some (.int .u64 x0):=by rw[hx0];exact hR.out.cell b0
   have cq:wr.cell? ⟨g,pq,none⟩=some (.int .u64 xq):=by rw[hxq];exact hR.out.cell bq
   have f0:=hR.out.frozen p0
   have fq:=hR.out.frozen pq
   have HX0:=hid hx0
   have HXQ:=hid hxq
   have HP0:=hid hp0
   have HPQ:=hid hpq
   have B0:=hid b0
   have BQ:=hid bq
   rw[←hp0,←hpq,←hx0,←hxq] at HS
   clear hx0 hxq hp0 hpq
   have p0p:(0:Int)≤(p0:Int):=by omega
   have p0n:(p0:Int)< (n:Int):=by omega
   have pqp:(0:Int)≤(pq:Int):=by omega
   have pqn:(pq:Int)< (n:Int):=by omega
   have hnl:=HN.out
   have wq:=wrapN (q:=q) (by omega)
   have w0:=wrapN (q:=p0) (by omega)
   have wpq:=wrapN (q:=pq) (by omega)
   have wc:=wrapN1 (q:=c) (by omega)
   have tailT:Hid (ltInt x0 xq=true→ ∀w2,RowS w2 g n (swp dk p0 pq) tl→Only [g] w w2→ ∃r' dk',Value.int .i64 (q:Int)= .int .i64 (r':Nat)∧Hid (r'≤1000000000)∧Hid (RowS w2 g n dk' tl)∧Hid (Only [g] w w2)∧Hid (siftDown ltInt hi f r' dk'=siftDown ltInt hi f lo d)):=by
    intro hl w2 h1 h2
    refine⟨q,_,rfl,(by omega:q≤1000000000),h1,h2,?_⟩
    show siftDown ltInt hi f q (swp dk p0 pq)=_
    rw[←hI.out,HS.out,if_pos hl]
   have tailF:Hid (ltInt x0 xq=false→dk=siftDown ltInt hi f lo d):=by
    intro hl
    rw[←hI.out,HS.out,if_neg (by rw[hl];simp)]
   by_cases hc1:c+1<hi
   ·have d2:decide ((c:Int)+1< (hi:Int))=true:=by simp;omega
    obtain⟨p1,hp1⟩: ∃p1,p1=f+c:=⟨_,rfl⟩
    have e1:(f:Int)+(c:Int)=(p1:Int):=by omega
    obtain⟨x1,hx1⟩: ∃x,x=dk[p1]! :=⟨_,rfl⟩
    obtain⟨x2,hx2⟩: ∃x,x=dk[p1+1]! :=⟨_,rfl⟩
    have b1:p1+1<n:=by have:=FN.out;omega
    have c1:wr.cell? ⟨g,p1,none⟩=some (.int .u64 x1):=by rw[hx1];exact hR.out.cell (by omega)
    have c2:wr.cell? ⟨g,p1+1,none⟩=some (.int .u64 x2):=by rw[hx2];exact hR.out.cell b1
    have p1p:(0:Int)≤(p1:Int):=by omega
    have p1n:(p1:Int)+1< (n:Int):=by omega
    have hq':(ltInt x1 x2=true∧q=c+1)∨(ltInt x1 x2=false∧q=c):=by
     rw[hx1,hx2,hp1,hc]
     rcases hq with⟨h1,h2,h3⟩ | ⟨h1,h2⟩
     ·exact Or.inl ⟨h2,by omega⟩
     ·exact Or.inr ⟨h1 (by omega),h2⟩
    have B1:=hid b1
    have wp:=wrapN (q:=p1) (by omega)
    have wp1:=wrapN1 (q:=p1) (by omega)
    clear hx1 hx2 hp1 hq b1 hc hc1
    rcases hq' with⟨hl1,hq1⟩ | ⟨hl1,hq1⟩
    ·have e9:(c:Int)+1=(q:Int):=by omega
     rw[e9] at d2 wc
     have hqhi:=hqb.out.2
     clear hq1 hch
     go_wp2
     go_quiet (first | (go_at_call 228;exact Calls.quiet_of_same (Less_s _ _ _)))
     go_wp2
     revert nq
     intro nq1
     clear c1 c2
     have R2:Hid (RowS (wr.drewN nq1) g n dk tl):=hR.out.drewN nq1
     have O2:Hid (Only [g] w (wr.drewN nq1)):=hO.out.drewN nq1
     clear c0 cq f0 fq hR hO
     generalize wr.drewN nq1=wr2 at R2 O2 ⊢
     have c0:wr2.cell? ⟨g,p0,none⟩=some (.int .u64 x0):=by rw[HX0.out];exact R2.out.cell B0.out
     have cq:wr2.cell? ⟨g,pq,none⟩=some (.int .u64 xq):=by rw[HXQ.out];exact R2.out.cell BQ.out
     have f0:=R2.out.frozen p0
     have fq:=R2.out.frozen pq
     go_quiet (first | (go_at_call 228;exact Calls.quiet_of_same (Less_s _ _ _)))
     go_wp2
     ·have hl:ltInt x0 xq=false:=not_t (by assumption)
      (try simp only[Exit.inBlock,Exit.then])
      refine bodyPost_ret (results_none rfl _ _ _) rfl ?_
      refine⟨⟨_,rfl⟩,?_,?_⟩
      ·rw[←tailF.out hl]
       exact R2.out.drewN _
      ·exact O2.out.drewN _
     ·have hl:Hid (ltInt x0 xq=true):=not_f (by assumption)
      go_region
      all_goals go_wp2
      go_roundw
      case rel=>
       refine tailT.out hl.out _ ?_ ?_
       ·exact RowS.swpV ((R2.out.drewN _).drew) B0.out BQ.out HX0.out HXQ.out
       ·exact((O2.out.drewN _).drew).trans (only_two _ g _ _ _ _) (fun x hx=>Or.inl hx)
      case measure=>have:=hqb.out;first | (simp[intOf];done) | (simp[intOf];omega)
    ·subst hq1
     have epq:p1=pq:=by omega
     subst epq
     clear hch e1
     go_wp2
     go_quiet (first | (go_at_call 228;exact Calls.quiet_of_same (Less_s _ _ _)))
     go_wp2
     revert nq
     intro nq1
     clear c1 c2
     have R2:Hid (RowS (wr.drewN nq1) g n dk tl):=hR.out.drewN nq1
     have O2:Hid (Only [g] w (wr.drewN nq1)):=hO.out.drewN nq1
     clear c0 cq f0 fq hR hO
     generalize wr.drewN nq1=wr2 at R2 O2 ⊢
     have c0:wr2.cell? ⟨g,p0,none⟩=some (.int .u64 x0):=by rw[HX0.out];exact R2.out.cell B0.out
     have cq:wr2.cell? ⟨g,p1,none⟩=some (.int .u64 xq):=by rw[HXQ.out];exact R2.out.cell BQ.out
     have f0:=R2.out.frozen p0
     have fq:=R2.out.frozen p1
     go_quiet (first | (go_at_call 228;exact Calls.quiet_of_same (Less_s _ _ _)))
     go_wp2
     ·have hl:ltInt x0 xq=false:=not_t (by assumption)
      (try simp only[Exit.inBlock,Exit.then])
      refine bodyPost_ret (results_none rfl _ _ _) rfl ?_
      refine⟨⟨_,rfl⟩,?_,?_⟩
      ·rw[←tailF.out hl]
       exact R2.out.drewN _
      ·exact O2.out.drewN _
     ·have hl:Hid (ltInt x0 xq=true):=not_f (by assumption)
      go_region
      all_goals go_wp2
      go_roundw
      case rel=>
       refine tailT.out hl.out _ ?_ ?_
       ·exact RowS.swpV ((R2.out.drewN _).drew) B0.out BQ.out HX0.out HXQ.out
       ·exact((O2.out.drewN _).drew).trans (only_two _ g _ _ _ _) (fun x hx=>Or.inl hx)
      case measure=>have:=hqb.out;first | (simp[intOf];done) | (simp[intOf];omega)
   ·have d2:decide ((c:Int)+1< (hi:Int))=false:=by simp;omega
    have hq1:q=c:=by rcases hq with⟨h1,h2,h3⟩ | ⟨h1,h2⟩<;>omega
    clear hq hc hc1
    subst hq1
    clear hch
    go_wp2
    go_quiet (first | (go_at_call 228;exact Calls.quiet_of_same (Less_s _ _ _)))
    go_wp2
    revert nq
    intro nq1
    have R2:Hid (RowS (wr.drewN nq1) g n dk tl):=hR.out.drewN nq1
    have O2:Hid (Only [g] w (wr.drewN nq1)):=hO.out.drewN nq1
    clear c0 cq f0 fq hR hO
    generalize wr.drewN nq1=wr2 at R2 O2 ⊢
    have c0:wr2.cell? ⟨g,p0,none⟩=some (.int .u64 x0):=by rw[HX0.out];exact R2.out.cell B0.out
    have cq:wr2.cell? ⟨g,pq,none⟩=some (.int .u64 xq):=by rw[HXQ.out];exact R2.out.cell BQ.out
    have f0:=R2.out.frozen p0
    have fq:=R2.out.frozen pq
    go_quiet (first | (go_at_call 228;exact Calls.quiet_of_same (Less_s _ _ _)))
    go_wp2
    ·have hl:ltInt x0 xq=false:=not_t (by assumption)
     (try simp only[Exit.inBlock,Exit.then])
     refine bodyPost_ret (results_none rfl _ _ _) rfl ?_
     refine⟨⟨_,rfl⟩,?_,?_⟩
     ·rw[←tailF.out hl]
      exact R2.out.drewN _
     ·exact O2.out.drewN _
    ·have hl:Hid (ltInt x0 xq=true):=not_f (by assumption)
     go_region
     all_goals go_wp2
     go_roundw
     case rel=>
      refine tailT.out hl.out _ ?_ ?_
      ·exact RowS.swpV ((R2.out.drewN _).drew) B0.out BQ.out HX0.out HXQ.out
      ·exact((O2.out.drewN _).drew).trans (only_two _ g _ _ _ _) (fun x hx=>Or.inl hx)
     case measure=>have:=hqb.out;first | (simp[intOf];done) | (simp[intOf];omega)
  ·have d1:(c:Int)≥(hi:Int):=by omega
   have HCH:=hid hch
   clear hc hch
   go_wp2
   go_end0
   refine⟨⟨_,rfl⟩,?_,hO.out⟩
   have:=HC.out;have h3:=HCH.out
   rw[←hI.out,sift_end _ _ _ _ (by omega)]
   exact hR.out
end
section
open Go.Sort (swp insInner insOuter insertionSort ltInt SWO PermIn SortedIn siftDown heapBuild heapPop heapSort reverseLoop reverseRange)
theorem build_go (hi f k:Nat) (d:Array Int):heapBuild ltInt hi f (k+1) d=heapBuild ltInt hi f k (siftDown ltInt hi f k d):=rfl
theorem pop_go (f k:Nat) (d:Array Int):heapPop ltInt f (k+1) d=heapPop ltInt f k (siftDown ltInt k f 0 (swp d f (f+k))):=rfl
theorem wrapM1 {q:Nat} (h:q≤2000000000):IntKind.i64.wrap ((q:Int)-1)=(q:Int)-1:=by
 unfold IntKind.wrap
 simp[IntKind.signed,IntKind.bits]
 omega
theorem heapSort_s (g n cap:Nat) (d:Array Int) (tl:List Value) (a b:Nat) (hab:a≤b) (hb:b≤n) (hn:n≤1000000000) (w:World) (h:RowS w g n d tl):
  Calls Tryz.prog 223 #[.slice (some ⟨g,0,none⟩) n cap,.int .i64 (a:Int),.int .i64 (b:Int)] w fun e w'=>
   (∃r,e= .returned r)∧RowS w' g n (heapSort ltInt d a b) tl∧Only [g] w w':=by
 obtain⟨m,hm⟩: ∃m,m=b-a:=⟨_,rfl⟩
 have e1:(b:Int)- (a:Int)=(m:Int):=by omega
 have a9:(a:Int)≤1000000000:=by omega
 have b9:(b:Int)≤1000000000:=by omega
 have m9:(m:Int)≤1000000000:=by omega
 have m0:(0:Int)≤(m:Int):=by omega
 have e2:((m:Int)-1).tdiv 2=(((m-1)/2:Nat):Int):=by
  cases m with
  | zero=>rfl
  | succ k=>rw[show((k+1:Nat):Int)-1=(k:Int) by simp,Int.tdiv_eq_ediv_of_nonneg (by omega)];simp
 obtain⟨k0,hk0⟩: ∃k,k=(m-1)/2:=⟨_,rfl⟩
 rw[←hk0] at e2
 have k09:(k0:Int)≤1000000000:=by omega
 have hheap:Hid (heapSort ltInt d a b=heapPop ltInt a m (heapBuild ltInt m a (k0+1) d)):=by
  show heapSort ltInt d a b=_
  unfold heapSort
  rw[←hm,hk0]
 have H:=hid h
 have AB:=hid hab
 have BN:=hid hb
 have HN:=hid hn
 have HM:=hid hm
 have HK:=hid hk0
 clear h hab hb hn hm hk0
 go_enter Tryz.func223,Tryz.ntmps223
 go_wp2
 go_loopw [9] (fun vi wr=> ∃(z:Int) (k:Nat) (dk:Array Int),vi= .int .i64 z∧Hid (z+1=k)∧Hid (k≤k0+1)∧Hid (RowS wr g n dk tl)∧Hid (Only [g] w wr)∧
   Hid (heapPop ltInt a m (heapBuild ltInt m a k dk)=heapSort ltInt d a b)) (fun vi _=>(intOf vi+1).toNat)
 case atStart=>exact⟨k0,k0+1,d,rfl,(by omega:(k0:Int)+1=((k0+1:Nat):Int)),Nat.le_refl _,H,Only.refl _ _,hheap.out.symm⟩
 case round=>
  obtain⟨z,k,dk,rfl,hz,hk,hR,hO,hI⟩:=hrel
  cases k with
  | succ k=>
   obtain rfl:z=(k:Int):=by have:=hz.out;omega
   have k9:(k:Int)≤1000000000:=by have:=hk.out;omega
   have k0p:(0:Int)≤(k:Int):=by omega
   go_wp2_with fail
   refine(sift_s g n cap dk tl k m a (by have:=HM.out;have:=BN.out;have:=AB.out;omega) HN.out (by omega) _ hR.out).mono ?_
   rintro e w2 ⟨⟨v,rfl⟩,hR2,hO2⟩
   have R2:=hid hR2
   have O2:=hid (hO.out.trans hO2 (fun x hx=>Or.inl hx))
   clear hR2 hO2
   go_wp2
   go_roundw
   case rel=>exact⟨(k:Int)-1,k,_,rfl,(by omega:(k:Int)-1+1=(k:Int)),(by have:=hk.out;omega:k≤k0+1),R2,O2,hI⟩
   case measure=>first | (simp[intOf];done) | (simp[intOf];omega)
  | zero=>
   obtain rfl:z= -1:=by have:=hz.out;omega
   have HI:Hid (heapPop ltInt a m dk=heapSort ltInt d a b):=hI
   go_wp2
   go_loopw [10] (fun vi wr=> ∃(z:Int) (k:Nat) (dk:Array Int),vi= .int .i64 z∧Hid (z+1=k)∧Hid (k≤m)∧Hid (RowS wr g n dk tl)∧Hid (Only [g] w wr)∧
     Hid (heapPop ltInt a k dk=heapSort ltInt d a b)) (fun vi _=>(intOf vi+1).toNat)
   case atStart=>exact⟨(m:Int)-1,m,dk,rfl,(by omega:(m:Int)-1+1=(m:Int)),Nat.le_refl _,hR,hO,HI⟩
   case round=>
    obtain⟨z,k,dk,rfl,hz,hk,hR,hO,hI⟩:=hrel
    cases k with
    | succ k=>
     obtain rfl:z=(k:Int):=by have:=hz.out;omega
     have k9:(k:Int)≤1000000000:=by have:=hk.out;omega
     have k0p:(0:Int)≤(k:Int):=by omega
     obtain⟨q,hq⟩: ∃q,q=a+k:=⟨_,rfl⟩
     have eq_:(a:Int)+(k:Int)=(q:Int):=by omega
     have bq:q<n:=by have:=hk.out;have:=HM.out;have:=BN.out;omega
     have ba:a<n:=by omega
     have hnl:=HN.out
     have wq:=wrapN (q:=q) (by omega)
     have qp:(0:Int)≤(q:Int):=by omega
     have qn:(q:Int)< (n:Int):=by omega
     have ap:(0:Int)≤(a:Int):=by omega
     have an:(a:Int)< (n:Int):=by omega
     obtain⟨x0,hx0⟩: ∃x,x=dk[a]! :=⟨_,rfl⟩
     obtain⟨xq,hxq⟩: ∃x,x=dk[q]! :=⟨_,rfl⟩
     have c0:wr.cell? ⟨g,a,none⟩=some (.int .u64 x0):=by rw[hx0];exact hR.out.cell ba
     have cq:wr.cell? ⟨g,q,none⟩=some (.int .u64 xq):=by rw[hxq];exact hR.out.cell bq
     have f0:=hR.out.frozen a
     have fq:=hR.out.frozen q
     obtain⟨yq,hyq⟩: ∃y,(wr.setCell ⟨g,a,none⟩ (.int .u64 xq)).cell? ⟨g,q,none⟩=some (.int .u64 y):=⟨_,(hR.out.set_ xq ba).cell bq⟩
     have fq2:=(hR.out.set_ xq ba).frozen q
     have HX0:=hid hx0
     have HXQ:=hid hxq
     have HQ:=hid hq
     have B0:=hid ba
     have BQ:=hid bq
     clear hx0 hxq hq ba bq
     go_wp2
     go_region
     all_goals go_wp2_with fail
     have R1:=hid (RowS.swpV hR.out.drew B0.out BQ.out HX0.out HXQ.out)
     have O1:=hid (hO.out.drew.trans (only_two _ g a q (Value.int .u64 xq) (Value.int .u64 x0)) (fun x hx=>Or.inl hx))
     refine(sift_s g n cap (swp dk a q) tl 0 k a (by have:=BQ.out;have:=HQ.out;omega) HN.out (by omega) _ R1.out).mono ?_
     rintro e w2 ⟨⟨v,rfl⟩,hR2,hO2⟩
     have R2:=hid hR2
     have O2:=hid (O1.out.trans hO2 (fun x hx=>Or.inl hx))
     clear hR2 hO2
     go_wp2
     go_roundw
     case rel=>
      refine⟨(k:Int)-1,k,_,rfl,(by omega:(k:Int)-1+1=(k:Int)),(by have:=hk.out;omega:k≤m),R2,O2,?_⟩
      show heapPop ltInt a k _=_
      rw[←hI.out,pop_go,←HQ.out]
     case measure=>first | (simp[intOf];done) | (simp[intOf];omega)
    | zero=>
     obtain rfl:z= -1:=by have:=hz.out;omega
     have HI:Hid (dk=heapSort ltInt d a b):=hI
     go_wp2
     go_end0
     refine⟨⟨_,rfl⟩,?_,hO.out⟩
     rw[←HI.out];exact hR.out
theorem reverse_s (g n cap:Nat) (d:Array Int) (tl:List Value) (a b:Nat) (hab:a≤b) (hb:b≤n) (hn:n≤1000000000) (w:World) (h:RowS w g n d tl):
  Calls Tryz.prog 226 #[.slice (some ⟨g,0,none⟩) n cap,.int .i64 (a:Int),.int .i64 (b:Int)] w fun e w'=>
   (∃r,e= .returned r)∧RowS w' g n (reverseRange d a b) tl∧Only [g] w w':=by
 have a9:(a:Int)≤1000000000:=by omega
 have b9:(b:Int)≤1000000000:=by omega
 have H:=hid h
 have AB:=hid hab
 have BN:=hid hb
 have HN:=hid hn
 clear h hab hb hn
 go_enter Tryz.func226,Tryz.ntmps226
 go_wp2
 go_loopw [6,7] (fun vi vj wr=> ∃(i j:Nat) (z:Int) (dk:Array Int),vi= .int .i64 i∧vj= .int .i64 z∧Hid (i≤n∧j<n+1)∧Hid (z=(j:Int)∨(z= -1∧j=0))∧Hid (j<b∨j=0)∧Hid (RowS wr g n dk tl)∧Hid (Only [g] w wr)∧
   Hid (reverseLoop i j dk=reverseRange d a b)) (fun vi vj _=>(intOf vj-intOf vi).toNat)
 case atStart=>
  have:=AB.out
  have:=BN.out
  refine⟨a,b-1,(b:Int)-1,d,rfl,rfl,(⟨by omega,by omega⟩:a≤n∧b-1<n+1),(by omega:(b:Int)-1=((b-1:Nat):Int)∨((b:Int)-1= -1∧b-1=0)),(by omega:b-1<b∨b-1=0),H,Only.refl _ _,rfl⟩
 case round=>
  obtain⟨i,j,z,dk,rfl,rfl,hij,hz,hjb,hR,hO,hI⟩:=hrel
  have hnl:=HN.out
  by_cases hlt:i<j
  ·obtain rfl:z=(j:Int):=by have:=hz.out;omega
   have d1:(i:Int)< (j:Int):=by omega
   have bj:j<n:=by have:=hjb.out;have:=BN.out;omega
   have bi:i<n:=by omega
   have ip:(0:Int)≤(i:Int):=by omega
   have i9:(i:Int)≤1000000000:=by omega
   have inn:(i:Int)< (n:Int):=by omega
   have jp:(0:Int)≤(j:Int):=by omega
   have j9:(j:Int)≤1000000000:=by omega
   have jn:(j:Int)< (n:Int):=by omega
   obtain⟨x0,hx0⟩: ∃x,x=dk[i]! :=⟨_,rfl⟩
   obtain⟨xq,hxq⟩: ∃x,x=dk[j]! :=⟨_,rfl⟩
   have c0:wr.cell? ⟨g,i,none⟩=some (.int .u64 x0):=by rw[hx0];exact hR.out.cell bi
   have cq:wr.cell? ⟨g,j,none⟩=some (.int .u64 xq):=by rw[hxq];exact hR.out.cell bj
   have f0:=hR.out.frozen i
   have fq:=hR.out.frozen j
   have HX0:=hid hx0
   have HXQ:=hid hxq
   have B0:=hid bi
   have BQ:=hid bj
   have HLT:=hid hlt
   clear hx0 hxq bi bj hlt
   go_wp2
   go_region
   all_goals go_wp2
   go_roundw
   case rel=>
    refine⟨i+1,j-1,(j:Int)-1,swp dk i j,by go_num,rfl,(⟨by have:=B0.out;omega,by have:=BQ.out;omega⟩:i+1≤n∧j-1<n+1),(by have:=HLT.out;omega:(j:Int)-1=((j-1:Nat):Int)∨((j:Int)-1= -1∧j-1=0)),(by have:=hjb.out;omega:j-1<b∨j-1=0),?_,?_,?_⟩
    ·exact RowS.swpV hR.out.drew B0.out BQ.out HX0.out HXQ.out
    ·exact hO.out.drew.trans (only_two _ g _ _ _ _) (fun x hx=>Or.inl hx)
    ·show reverseLoop (i+1) (j-1) (swp dk i j)=_
     rw[←hI.out,reverseLoop.eq_1 i,if_pos HLT.out]
   case measure=>first | (simp[intOf];done) | (simp[intOf];omega)
  ·have d1: ¬(i:Int)<z:=by have:=hz.out;omega
   have HLT:=hid hlt
   clear hlt
   go_wp2
   go_end0
   refine⟨⟨_,rfl⟩,?_,hO.out⟩
   rw[←hI.out,reverseLoop,if_neg HLT.out];exact hR.out
end
section
open Go.Sort (swp ltInt scanUp scanDown partEqLoop partitionEqual partLoop partition)
theorem up_go (p:Int→Bool) (d:Array Int) (j i:Nat) (h:i≤j) (hp:p d[i]! =true):scanUp p d j i=scanUp p d j (i+1):=by rw[scanUp,if_pos (by simp[h,hp])]
theorem up_stop (p:Int→Bool) (d:Array Int) (j i:Nat) (h:i≤j→p d[i]! =false):scanUp p d j i=i:=by
 rw[scanUp,if_neg];intro hc;simp at hc;rw[h hc.1] at hc;simp at hc
theorem down_go (p:Int→Bool) (d:Array Int) (i j:Nat) (h:i≤j+1) (hp:p d[j+1]! =true):scanDown p d i (j+1)=scanDown p d i j:=by rw[scanDown,if_pos (by simp[h,hp])]
theorem down_stop (p:Int→Bool) (d:Array Int) (i j:Nat) (h0:0<i) (h:i≤j→p d[j]! =false):scanDown p d i j=j:=by
 cases j with
 | zero=>rfl
 | succ j=>rw[scanDown,if_neg];intro hc;simp at hc;rw[h hc.1] at hc;simp at hc
theorem partEq_s (g n cap:Nat) (d:Array Int) (tl:List Value) (a b p:Nat) (hap:a≤p) (hpb:p<b) (hb:b≤n) (hn:n≤1000000000) (w:World) (h:RowS w g n d tl):
  Calls Tryz.prog 229 #[.slice (some ⟨g,0,none⟩) n cap,.int .i64 (a:Int),.int .i64 (b:Int),.int .i64 (p:Int)] w fun e w'=>
   e= .returned (.int .i64 ((partitionEqual ltInt d a b p).1:Int))∧RowS w' g n (partitionEqual ltInt d a b p).2 tl∧Only [g] w w':=by
 have a9:(a:Int)≤1000000000:=by omega
 have b9:(b:Int)≤1000000000:=by omega
 have a0:(0:Int)≤(a:Int):=by omega
 have p0:(0:Int)≤(p:Int):=by omega
 have an:(a:Int)< (n:Int):=by omega
 have pn:(p:Int)< (n:Int):=by omega
 have b1:(b:Int)-1=((b-1:Nat):Int):=by omega
 obtain⟨b',hb'⟩: ∃b',b'=b-1:=⟨_,rfl⟩
 rw[←hb'] at b1
 obtain⟨x0,hx0⟩: ∃x,x=d[a]! :=⟨_,rfl⟩
 obtain⟨xq,hxq⟩: ∃x,x=d[p]! :=⟨_,rfl⟩
 have hA:a<n:=by omega
 have hP:p<n:=by omega
 have c0:w.cell? ⟨g,a,none⟩=some (.int .u64 x0):=by rw[hx0];exact h.cell hA
 have cq:w.cell? ⟨g,p,none⟩=some (.int .u64 xq):=by rw[hxq];exact h.cell hP
 have f0:=h.frozen a
 have fq:=h.frozen p
 obtain⟨yq,hyq⟩: ∃y,(w.setCell ⟨g,a,none⟩ (.int .u64 xq)).cell? ⟨g,p,none⟩=some (.int .u64 y):=⟨_,(h.set_ xq hA).cell hP⟩
 have fq2:=(h.set_ xq hA).frozen p
 have H:=hid h
 have HX0:=hid hx0
 have HXQ:=hid hxq
 have AP:=hid hap
 have PB:=hid hpb
 have BN:=hid hb
 have HN:=hid hn
 have HA:=hid hA
 have HP:=hid hP
 have HB':=hid hb'
 have hpe:Hid (partitionEqual ltInt d a b p=partEqLoop ltInt a (a+1) b' (swp d a p)):=by
  show partitionEqual ltInt d a b p=_
  rw[hb'];rfl
 clear h hx0 hxq hap hpb hb hn hA hP hb'
 go_enter Tryz.func229,Tryz.ntmps229
 go_wp2
 go_region
 all_goals go_wp2
 go_loopw [9,10] (fun vi vj wr=> ∃(i j:Nat) (dk:Array Int),vi= .int .i64 i∧vj= .int .i64 j∧Hid (a<i∧i≤j+1∧j<b)∧Hid (RowS wr g n dk tl)∧Hid (Only [g] w wr)∧
   Hid (partEqLoop ltInt a i j dk=partitionEqual ltInt d a b p)) (fun vi vj _=>(intOf vj+1-intOf vi).toNat)
 case atStart=>
  refine⟨a+1,b',swp d a p,by go_num,rfl,(by have:=AP.out;have:=PB.out;have:=HB'.out;omega:a<a+1∧a+1≤b'+1∧b'<b),?_,?_,hpe.out.symm⟩
  ·exact RowS.swpV H.out.drew HA.out HP.out HX0.out HXQ.out
  ·exact(Only.refl _ _).drew.trans (only_two _ g _ _ _ _) (fun x hx=>Or.inl hx)
 case round=>
  obtain⟨i,j,dk,rfl,rfl,hij,hR,hO,hI⟩:=hrel
  clear c0 cq f0 fq hyq fq2
  go_upto_block 2 with fail
  go_cut [9] (fun s9 wc=> ∃i2:Nat,s9= .int .i64 i2∧Hid (i2=scanUp (fun x=> !ltInt dk[a]! x) dk j i)∧Hid (RowS wc g n dk tl)∧Hid (Only [g] w wc))
  case first=>
   go_wp2_with fail
   go_loopw [9] (fun vi wx=> ∃(t:Nat),vi= .int .i64 t∧Hid (i≤t∧t≤j+1)∧Hid (RowS wx g n dk tl)∧Hid (Only [g] w wx)∧Hid (scanUp (fun x=> !ltInt dk[a]! x) dk j t=scanUp (fun x=> !ltInt dk[a]! x) dk j i)) (fun vi _=>(j+1:Nat)- (intOf vi).toNat)
   case atStart=>exact⟨i,rfl,(⟨Nat.le_refl _,hij.out.2.1⟩:i≤i∧i≤j+1),hR,hO,rfl⟩
   case round=>
    obtain⟨t,rfl,ht,hR1,hO1,hT⟩:=hrel
    obtain⟨x0,hx0⟩: ∃x,x=dk[a]! :=⟨_,rfl⟩
    have hnl:=HN.out
    have bj:j<n:=by have:=hij.out.2.2;have:=BN.out;omega
    have t9:(t:Int)≤1000000000:=by have:=ht.out.2;omega
    have t0:(0:Int)≤(t:Int):=by omega
    have j9:(j:Int)≤1000000000:=by omega
    have jn:(j:Int)< (n:Int):=by omega
    have c0:wr.cell? ⟨g,a,none⟩=some (.int .u64 x0):=by rw[hx0];exact hR1.out.cell HA.out
    have HX0:=hid hx0
    by_cases htj:t≤j
    ·have d1:decide ((t:Int)≤(j:Int))=true:=by simp;omega
     have d2:(t:Int)≤(j:Int):=by omega
     have tn:(t:Int)< (n:Int):=by omega
     obtain⟨xt,hxt⟩: ∃x,x=dk[t]! :=⟨_,rfl⟩
     have ct:wr.cell? ⟨g,t,none⟩=some (.int .u64 xt):=by rw[hxt];exact hR1.out.cell (by omega)
     have HXT:=hid hxt
     have HTJ:=hid htj
     clear hx0 hxt htj bj
     go_wp2_with fail
     go_quiet (first | (go_at_call 228;exact Calls.quiet_of_same (Less_s _ _ _)))
     go_wp2
     ·have hl:(!ltInt x0 xt)=true:=by assumption
      go_roundw
      case rel=>
       refine⟨t+1,by go_num,(by have:=ht.out;have:=HTJ.out;omega:i≤t+1∧t+1≤j+1),hR1.out.drewN _,hO1.out.drewN _,?_⟩
       show scanUp _ dk j (t+1)=_
       rw[←hT.out,←up_go _ dk j t HTJ.out (by rw[←HX0.out,←HXT.out];exact hl)]
      case measure=>first | (simp[intOf];done) | (simp[intOf];omega)
     ·have hl:(!ltInt x0 xt)=false:=by assumption
      go_meet
      case rel=>
       refine⟨t,rfl,?_,hR1.out.drewN _,hO1.out.drewN _⟩
       show t=_
       rw[←hT.out,up_stop _ dk j t (fun _=>by rw[←HX0.out,←HXT.out];exact hl)]
    ·have d1:decide ((t:Int)≤(j:Int))=false:=by simp;omega
     have d2:decide (t≤j)=false:=by simp;omega
     have HTJ:=hid htj
     clear hx0 htj bj
     go_wp2_with fail
     go_quiet (first | (go_at_call 228;exact Calls.quiet_of_same (Less_s _ _ _)))
     go_wp2
     go_meet
     case rel=>
      refine⟨t,rfl,?_,hR1.out.drewN _,hO1.out.drewN _⟩
      show t=_
      rw[←hT.out,up_stop _ dk j t (fun h=>absurd h HTJ.out)]
  case rest=>
   obtain⟨i2,rfl,hi2,hR2,hO2⟩:=hcut
   have hi2b:Hid (i≤i2∧i2≤j+1):=by
    have:=Go.Sort.scanUp_spec (fun x=> !ltInt dk[a]! x) dk j _ i rfl
    rw[←hi2.out] at this
    exact⟨this.1,this.2.1 hij.out.2.1⟩
   go_upto_block 4 with fail
   go_cut [10] (fun s10 wc=> ∃j2:Nat,s10= .int .i64 j2∧Hid (j2=scanDown (fun x=>ltInt dk[a]! x) dk i2 j)∧Hid (RowS wc g n dk tl)∧Hid (Only [g] w wc))
   case first=>
    go_wp2_with fail
    go_loopw [10] (fun vi wx=> ∃(t:Nat),vi= .int .i64 t∧Hid (t≤j∧i2≤t+1)∧Hid (RowS wx g n dk tl)∧Hid (Only [g] w wx)∧Hid (scanDown (fun x=>ltInt dk[a]! x) dk i2 t=scanDown (fun x=>ltInt dk[a]! x) dk i2 j)) (fun vi _=>(intOf vi).toNat)
    case atStart=>exact⟨j,rfl,(⟨Nat.le_refl _,hi2b.out.2⟩:j≤j∧i2≤j+1),hR2,hO2,rfl⟩
    case round=>
     obtain⟨t,rfl,ht,hR1,hO1,hT⟩:=hrel
     obtain⟨x0,hx0⟩: ∃x,x=dk[a]! :=⟨_,rfl⟩
     have hnl:=HN.out
     have bj:j<n:=by have:=hij.out.2.2;have:=BN.out;omega
     have i0:0<i2:=by have:=hi2b.out.1;have:=hij.out.1;omega
     have t9:(t:Int)≤1000000000:=by have:=ht.out.1;omega
     have t0:(0:Int)≤(t:Int):=by omega
     have c0:wr.cell? ⟨g,a,none⟩=some (.int .u64 x0):=by rw[hx0];exact hR1.out.cell HA.out
     have HX0:=hid hx0
     have HI0:=hid i0
     by_cases htj:i2≤t
     ·obtain⟨q,hq⟩: ∃q,t=q+1:=⟨t-1,by omega⟩
      have d1:decide ((i2:Int)≤(t:Int))=true:=by simp;omega
      have d2:(i2:Int)≤(t:Int):=by omega
      have t1:(1:Int)≤(t:Int):=by omega
      have tn:(t:Int)< (n:Int):=by have:=ht.out.1;omega
      obtain⟨xt,hxt⟩: ∃x,x=dk[t]! :=⟨_,rfl⟩
      have ct:wr.cell? ⟨g,t,none⟩=some (.int .u64 xt):=by rw[hxt];exact hR1.out.cell (by omega)
      have HXT:=hid hxt
      have HTJ:=hid htj
      have HQ:=hid hq
      clear hx0 hxt htj bj i0 hq
      go_wp2_with fail
      go_quiet (first | (go_at_call 228;exact Calls.quiet_of_same (Less_s _ _ _)))
      go_wp2
      ·have hl:ltInt x0 xt=true:=by assumption
       go_roundw
       case rel=>
        have:=HQ.out
        refine⟨q,by congr 1;omega,(by have:=ht.out;have:=HTJ.out;omega:q≤j∧i2≤q+1),hR1.out.drewN _,hO1.out.drewN _,?_⟩
        show scanDown _ dk i2 q=_
        have h1:=HTJ.out
        have h2:=HXT.out
        rw[HQ.out] at h1 h2
        rw[←hT.out,HQ.out,←down_go _ dk i2 q h1 (by rw[←HX0.out,←h2];exact hl)]
       case measure=>first | (simp[intOf];done) | (simp[intOf];omega)
      ·have hl:ltInt x0 xt=false:=by assumption
       go_meet
       case rel=>
        refine⟨t,rfl,?_,hR1.out.drewN _,hO1.out.drewN _⟩
        show t=_
        rw[←hT.out,down_stop _ dk i2 t HI0.out (fun _=>by rw[←HX0.out,←HXT.out];exact hl)]
     ·have d1:decide ((i2:Int)≤(t:Int))=false:=by simp;omega
      have d2:decide (i2≤t)=false:=by simp;omega
      have HTJ:=hid htj
      clear hx0 htj bj i0
      go_wp2_with fail
      go_quiet (first | (go_at_call 228;exact Calls.quiet_of_same (Less_s _ _ _)))
      go_wp2
      go_meet
      case rel=>
       refine⟨t,rfl,?_,hR1.out.drewN _,hO1.out.drewN _⟩
       show t=_
       rw[←hT.out,down_stop _ dk i2 t HI0.out (fun h=>absurd h HTJ.out)]
   case rest=>
    obtain⟨j2,rfl,hj2,hR3,hO3⟩:=hcut
    have hj2b:Hid (j2≤j∧i2≤j2+1):=by
     have:=Go.Sort.scanDown_spec (fun x=>ltInt dk[a]! x) dk i2 j
     rw[←hj2.out] at this
     exact⟨this.1,this.2.1 hi2b.out.2⟩
    have heq:Hid (partEqLoop ltInt a i j dk=if i2>j2 then(i2,dk) else partEqLoop ltInt a (i2+1) (j2-1) (swp dk i2 j2)):=by
     show partEqLoop ltInt a i j dk=_
     rw[Go.Sort.partEqLoop_eq,←hi2.out,←hj2.out]
    by_cases hgt:i2>j2
    ·have d1:(i2:Int)>(j2:Int):=by omega
     have HGT:=hid hgt
     clear hgt
     go_wp2
     go_ret
     have e:=heq.out
     rw[if_pos HGT.out] at e
     rw[hI.out] at e
     rw[e]
     exact⟨rfl,hR3.out,hO3.out⟩
    ·have d1: ¬(i2:Int)>(j2:Int):=by omega
     have hnl:=HN.out
     have bj:j2<n:=by have:=hj2b.out.1;have:=hij.out.2.2;have:=BN.out;omega
     have bi:i2<n:=by omega
     have i20:(0:Int)≤(i2:Int):=by omega
     have i2n:(i2:Int)< (n:Int):=by omega
     have j20:(0:Int)≤(j2:Int):=by omega
     have j2n:(j2:Int)< (n:Int):=by omega
     have i29:(i2:Int)≤1000000000:=by omega
     have j29:(j2:Int)≤1000000000:=by omega
     obtain⟨x0,hx0⟩: ∃x,x=dk[i2]! :=⟨_,rfl⟩
     obtain⟨xq,hxq⟩: ∃x,x=dk[j2]! :=⟨_,rfl⟩
     have c0:wc.cell? ⟨g,i2,none⟩=some (.int .u64 x0):=by rw[hx0];exact hR3.out.cell bi
     have cq:wc.cell? ⟨g,j2,none⟩=some (.int .u64 xq):=by rw[hxq];exact hR3.out.cell bj
     have f0:=hR3.out.frozen i2
     have fq:=hR3.out.frozen j2
     obtain⟨yq,hyq⟩: ∃y,(wc.setCell ⟨g,i2,none⟩ (.int .u64 xq)).cell? ⟨g,j2,none⟩=some (.int .u64 y):=⟨_,(hR3.out.set_ xq bi).cell bj⟩
     have fq2:=(hR3.out.set_ xq bi).frozen j2
     have HX0:=hid hx0
     have HXQ:=hid hxq
     have BI:=hid bi
     have BJ:=hid bj
     have hne:i2≠j2:=by
      intro e
      have h1:=(Go.Sort.scanUp_spec (fun x=> !ltInt dk[a]! x) dk j _ i rfl).2.2.2
      rw[←hi2.out] at h1
      have h2:=(Go.Sort.scanDown_spec (fun x=>ltInt dk[a]! x) dk i2 j).2.2.2
      rw[←hj2.out] at h2
      have h3:=h1 (by have:=hj2b.out.1;omega)
      have h4:=h2 (by omega) (by have:=hij.out.1;have:=hi2b.out.1;omega)
      rw[e] at h3
      simp[h4] at h3
     have HLT:Hid (i2<j2):=by show i2<j2;omega
     have HGT:=hid hgt
     have J1:Hid (1≤j2):=by have:=hij.out.1;have:=hi2b.out.1;show 1≤j2;omega
     clear hx0 hxq bi bj hgt hne
     go_wp2
     go_region
     all_goals go_wp2
     go_roundw
     case rel=>
      refine⟨i2+1,j2-1,swp dk i2 j2,by go_num,by have:=J1.out;go_num,(by have:=hij.out;have:=hi2b.out;have:=hj2b.out;have:=J1.out;have:=HLT.out;omega:a<i2+1∧i2+1≤j2-1+1∧j2-1<b),?_,?_,?_⟩
      ·exact RowS.swpV hR3.out.drew BI.out BJ.out HX0.out HXQ.out
      ·exact hO3.out.drew.trans (only_two _ g _ _ _ _) (fun x hx=>Or.inl hx)
      ·show partEqLoop ltInt a (i2+1) (j2-1) (swp dk i2 j2)=_
       have e:=heq.out
       rw[if_neg HGT.out] at e
       rw[←e];exact hI.out
     case measure=>have:=hi2b.out;have:=hj2b.out;first | (simp[intOf];done) | (simp[intOf];omega)
end
section
open Go.Sort (swp ltInt scanUp scanDown partLoop partition)
theorem part_s (g n cap:Nat) (d:Array Int) (tl:List Value) (a b p:Nat) (hap:a≤p) (hpb:p<b) (hb:b≤n) (hn:n≤1000000000) (w:World) (h:RowS w g n d tl):
  Calls Tryz.prog 230 #[.slice (some ⟨g,0,none⟩) n cap,.int .i64 (a:Int),.int .i64 (b:Int),.int .i64 (p:Int)] w fun e w'=>
   e= .returned (.tuple #[.int .i64 ((partition ltInt d a b p).1:Int),.bool (partition ltInt d a b p).2.1])∧RowS w' g n (partition ltInt d a b p).2.2 tl∧Only [g] w w':=by
 have a9:(a:Int)≤1000000000:=by omega
 have b9:(b:Int)≤1000000000:=by omega
 have a0:(0:Int)≤(a:Int):=by omega
 have p0:(0:Int)≤(p:Int):=by omega
 have an:(a:Int)< (n:Int):=by omega
 have pn:(p:Int)< (n:Int):=by omega
 have b1:(b:Int)-1=((b-1:Nat):Int):=by omega
 obtain⟨j,hb'⟩: ∃j,j=b-1:=⟨_,rfl⟩
 rw[←hb'] at b1
 obtain⟨x0,hx0⟩: ∃x,x=d[a]! :=⟨_,rfl⟩
 obtain⟨xq,hxq⟩: ∃x,x=d[p]! :=⟨_,rfl⟩
 have hA:a<n:=by omega
 have hP:p<n:=by omega
 have c0:w.cell? ⟨g,a,none⟩=some (.int .u64 x0):=by rw[hx0];exact h.cell hA
 have cq:w.cell? ⟨g,p,none⟩=some (.int .u64 xq):=by rw[hxq];exact h.cell hP
 have f0:=h.frozen a
 have fq:=h.frozen p
 obtain⟨yq,hyq⟩: ∃y,(w.setCell ⟨g,a,none⟩ (.int .u64 xq)).cell? ⟨g,p,none⟩=some (.int .u64 y):=⟨_,(h.set_ xq hA).cell hP⟩
 have fq2:=(h.set_ xq hA).frozen p
 have H:=hid h
 have HX0:=hid hx0
 have HXQ:=hid hxq
 have BN:=hid hb
 have HN:=hid hn
 have HA:=hid hA
 have HP:=hid hP
 have hij:Hid (a<a+1∧a+1≤j+1∧j<b):=by show a<a+1∧a+1≤j+1∧j<b;omega
 obtain⟨dk,hdk⟩: ∃dk,dk=swp d a p:=⟨_,rfl⟩
 have hpe:Hid (partition ltInt d a b p=if scanUp (fun x=>ltInt x dk[a]!) dk j (a+1)>scanDown (fun x=> !ltInt x dk[a]!) dk (scanUp (fun x=>ltInt x dk[a]!) dk j (a+1)) j then(scanDown (fun x=> !ltInt x dk[a]!) dk (scanUp (fun x=>ltInt x dk[a]!) dk j (a+1)) j,true,swp dk (scanDown (fun x=> !ltInt x dk[a]!) dk (scanUp (fun x=>ltInt x dk[a]!) dk j (a+1)) j) a) else
   ((partLoop ltInt a (scanUp (fun x=>ltInt x dk[a]!) dk j (a+1)+1) (scanDown (fun x=> !ltInt x dk[a]!) dk (scanUp (fun x=>ltInt x dk[a]!) dk j (a+1)) j-1) (swp dk (scanUp (fun x=>ltInt x dk[a]!) dk j (a+1)) (scanDown (fun x=> !ltInt x dk[a]!) dk (scanUp (fun x=>ltInt x dk[a]!) dk j (a+1)) j))).1,false,
    swp (partLoop ltInt a (scanUp (fun x=>ltInt x dk[a]!) dk j (a+1)+1) (scanDown (fun x=> !ltInt x dk[a]!) dk (scanUp (fun x=>ltInt x dk[a]!) dk j (a+1)) j-1) (swp dk (scanUp (fun x=>ltInt x dk[a]!) dk j (a+1)) (scanDown (fun x=> !ltInt x dk[a]!) dk (scanUp (fun x=>ltInt x dk[a]!) dk j (a+1)) j))).2
     (partLoop ltInt a (scanUp (fun x=>ltInt x dk[a]!) dk j (a+1)+1) (scanDown (fun x=> !ltInt x dk[a]!) dk (scanUp (fun x=>ltInt x dk[a]!) dk j (a+1)) j-1) (swp dk (scanUp (fun x=>ltInt x dk[a]!) dk j (a+1)) (scanDown (fun x=> !ltInt x dk[a]!) dk (scanUp (fun x=>ltInt x dk[a]!) dk j (a+1)) j))).1 a)):=by
  show partition ltInt d a b p=_
  rw[hb',hdk];rfl
 have HDK:=hid hdk
 clear h hx0 hxq hap hpb hb hn hA hP hb' hdk
 go_enter Tryz.func230,Tryz.ntmps230
 go_wp2
 go_region
 have hR:Hid (RowS ((w.setCell ⟨g,a,none⟩ (.int .u64 xq)).setCell ⟨g,p,none⟩ (.int .u64 x0)).drew g n dk tl):=by rw[HDK.out];exact(RowS.swpV H.out HA.out HP.out HX0.out HXQ.out).drew
 have hO:Hid (Only [g] w ((w.setCell ⟨g,a,none⟩ (.int .u64 xq)).setCell ⟨g,p,none⟩ (.int .u64 x0)).drew):=(only_two w g a p (Value.int .u64 xq) (Value.int .u64 x0)).drew
 clear c0 cq f0 fq hyq fq2
 go_upto_block 0 with fail
 go_cut [10] (fun s9 wc=> ∃i2:Nat,s9= .int .i64 i2∧Hid (i2=scanUp (fun x=>ltInt x dk[a]!) dk j (a+1))∧Hid (RowS wc g n dk tl)∧Hid (Only [g] w wc))
 case first=>
  go_wp2_with fail
  go_loopw [10] (fun vi wx=> ∃(t:Nat),vi= .int .i64 t∧Hid ((a+1)≤t∧t≤j+1)∧Hid (RowS wx g n dk tl)∧Hid (Only [g] w wx)∧Hid (scanUp (fun x=>ltInt x dk[a]!) dk j t=scanUp (fun x=>ltInt x dk[a]!) dk j (a+1))) (fun vi _=>(j+1:Nat)- (intOf vi).toNat)
  case atStart=>exact⟨(a+1),by first | rfl | go_num,(⟨Nat.le_refl _,hij.out.2.1⟩:(a+1)≤(a+1)∧(a+1)≤j+1),hR,hO,rfl⟩
  case round=>
   obtain⟨t,rfl,ht,hR1,hO1,hT⟩:=hrel
   obtain⟨x0,hx0⟩: ∃x,x=dk[a]! :=⟨_,rfl⟩
   have hnl:=HN.out
   have bj:j<n:=by have:=hij.out.2.2;have:=BN.out;omega
   have t9:(t:Int)≤1000000000:=by have:=ht.out.2;omega
   have t0:(0:Int)≤(t:Int):=by omega
   have j9:(j:Int)≤1000000000:=by omega
   have jn:(j:Int)< (n:Int):=by omega
   have c0:wr.cell? ⟨g,a,none⟩=some (.int .u64 x0):=by rw[hx0];exact hR1.out.cell HA.out
   have HX0:=hid hx0
   by_cases htj:t≤j
   ·have d1:decide ((t:Int)≤(j:Int))=true:=by simp;omega
    have d2:(t:Int)≤(j:Int):=by omega
    have tn:(t:Int)< (n:Int):=by omega
    obtain⟨xt,hxt⟩: ∃x,x=dk[t]! :=⟨_,rfl⟩
    have ct:wr.cell? ⟨g,t,none⟩=some (.int .u64 xt):=by rw[hxt];exact hR1.out.cell (by omega)
    have HXT:=hid hxt
    have HTJ:=hid htj
    clear hx0 hxt htj bj
    go_wp2_with fail
    go_quiet (first | (go_at_call 228;exact Calls.quiet_of_same (Less_s _ _ _)))
    go_wp2
    ·have hl:ltInt xt x0=true:=by assumption
     go_roundw
     case rel=>
      refine⟨t+1,by go_num,(by have:=ht.out;have:=HTJ.out;omega:(a+1)≤t+1∧t+1≤j+1),hR1.out.drewN _,hO1.out.drewN _,?_⟩
      show scanUp _ dk j (t+1)=_
      rw[←hT.out,←up_go _ dk j t HTJ.out (by rw[←HX0.out,←HXT.out];exact hl)]
     case measure=>first | (simp[intOf];done) | (simp[intOf];omega)
    ·have hl:ltInt xt x0=false:=by assumption
     go_meet
     case rel=>
      refine⟨t,rfl,?_,hR1.out.drewN _,hO1.out.drewN _⟩
      show t=_
      rw[←hT.out,up_stop _ dk j t (fun _=>by rw[←HX0.out,←HXT.out];exact hl)]
   ·have d1:decide ((t:Int)≤(j:Int))=false:=by simp;omega
    have d2:decide (t≤j)=false:=by simp;omega
    have HTJ:=hid htj
    clear hx0 htj bj
    go_wp2_with fail
    go_quiet (first | (go_at_call 228;exact Calls.quiet_of_same (Less_s _ _ _)))
    go_wp2
    go_meet
    case rel=>
     refine⟨t,rfl,?_,hR1.out.drewN _,hO1.out.drewN _⟩
     show t=_
     rw[←hT.out,up_stop _ dk j t (fun h=>absurd h HTJ.out)]
 case rest=>
  obtain⟨i2,rfl,hi2,hR2,hO2⟩:=hcut
  have hi2b:Hid ((a+1)≤i2∧i2≤j+1):=by
   have:=Go.Sort.scanUp_spec (fun x=>ltInt x dk[a]!) dk j _ ((a+1)) rfl
   rw[←hi2.out] at this
   exact⟨this.1,this.2.1 hij.out.2.1⟩
  go_upto_block 2 with fail
  go_cut [11] (fun s10 wc=> ∃j2:Nat,s10= .int .i64 j2∧Hid (j2=scanDown (fun x=> !ltInt x dk[a]!) dk i2 j)∧Hid (RowS wc g n dk tl)∧Hid (Only [g] w wc))
  case first=>
   go_wp2_with fail
   go_loopw [11] (fun vi wx=> ∃(t:Nat),vi= .int .i64 t∧Hid (t≤j∧i2≤t+1)∧Hid (RowS wx g n dk tl)∧Hid (Only [g] w wx)∧Hid (scanDown (fun x=> !ltInt x dk[a]!) dk i2 t=scanDown (fun x=> !ltInt x dk[a]!) dk i2 j)) (fun vi _=>(intOf vi).toNat)
   case atStart=>exact⟨j,rfl,(⟨Nat.le_refl _,hi2b.out.2⟩:j≤j∧i2≤j+1),hR2,hO2,rfl⟩
   case round=>
    obtain⟨t,rfl,ht,hR1,hO1,hT⟩:=hrel
    obtain⟨x0,hx0⟩: ∃x,x=dk[a]! :=⟨_,rfl⟩
    have hnl:=HN.out
    have bj:j<n:=by have:=hij.out.2.2;have:=BN.out;omega
    have i0:0<i2:=by have:=hi2b.out.1;have:=hij.out.1;omega
    have t9:(t:Int)≤1000000000:=by have:=ht.out.1;omega
    have t0:(0:Int)≤(t:Int):=by omega
    have c0:wr.cell? ⟨g,a,none⟩=some (.int .u64 x0):=by rw[hx0];exact hR1.out.cell HA.out
    have HX0:=hid hx0
    have HI0:=hid i0
    by_cases htj:i2≤t
    ·obtain⟨q,hq⟩: ∃q,t=q+1:=⟨t-1,by omega⟩
     have d1:decide ((i2:Int)≤(t:Int))=true:=by simp;omega
     have d2:(i2:Int)≤(t:Int):=by omega
     have t1:(1:Int)≤(t:Int):=by omega
     have tn:(t:Int)< (n:Int):=by have:=ht.out.1;omega
     obtain⟨xt,hxt⟩: ∃x,x=dk[t]! :=⟨_,rfl⟩
     have ct:wr.cell? ⟨g,t,none⟩=some (.int .u64 xt):=by rw[hxt];exact hR1.out.cell (by omega)
     have HXT:=hid hxt
     have HTJ:=hid htj
     have HQ:=hid hq
     clear hx0 hxt htj bj i0 hq
     go_wp2_with fail
     go_quiet (first | (go_at_call 228;exact Calls.quiet_of_same (Less_s _ _ _)))
     go_wp2
     ·have hl:(!ltInt xt x0)=true:=by assumption
      go_roundw
      case rel=>
       have:=HQ.out
       refine⟨q,by congr 1;omega,(by have:=ht.out;have:=HTJ.out;omega:q≤j∧i2≤q+1),hR1.out.drewN _,hO1.out.drewN _,?_⟩
       show scanDown _ dk i2 q=_
       have h1:=HTJ.out
       have h2:=HXT.out
       rw[HQ.out] at h1 h2
       rw[←hT.out,HQ.out,←down_go _ dk i2 q h1 (by rw[←HX0.out,←h2];exact hl)]
      case measure=>first | (simp[intOf];done) | (simp[intOf];omega)
     ·have hl:(!ltInt xt x0)=false:=by assumption
      go_meet
      case rel=>
       refine⟨t,rfl,?_,hR1.out.drewN _,hO1.out.drewN _⟩
       show t=_
       rw[←hT.out,down_stop _ dk i2 t HI0.out (fun _=>by rw[←HX0.out,←HXT.out];exact hl)]
    ·have d1:decide ((i2:Int)≤(t:Int))=false:=by simp;omega
     have d2:decide (i2≤t)=false:=by simp;omega
     have HTJ:=hid htj
     clear hx0 htj bj i0
     go_wp2_with fail
     go_quiet (first | (go_at_call 228;exact Calls.quiet_of_same (Less_s _ _ _)))
     go_wp2
     go_meet
     case rel=>
      refine⟨t,rfl,?_,hR1.out.drewN _,hO1.out.drewN _⟩
      show t=_
      rw[←hT.out,down_stop _ dk i2 t HI0.out (fun h=>absurd h HTJ.out)]
  case rest=>
   obtain⟨j2,rfl,hj2,hR3,hO3⟩:=hcut
   have hj2b:Hid (j2≤j∧i2≤j2+1):=by
    have:=Go.Sort.scanDown_spec (fun x=> !ltInt x dk[a]!) dk i2 j
    rw[←hj2.out] at this
    exact⟨this.1,this.2.1 hi2b.out.2⟩
   rw[←hi2.out,←hj2.out] at hpe
   by_cases hgt:i2>j2
   ·have d1:(i2:Int)>(j2:Int):=by omega
    have e:=hid (show partition ltInt d a b p=(j2,true,swp dk j2 a) from hpe.out.trans (if_pos hgt))
    clear hgt hpe
    have hnl:=HN.out
    have bi:j2<n:=by have:=hj2b.out.1;have:=hij.out.2.2;have:=BN.out;omega
    have bj:a<n:=HA.out
    have i20:(0:Int)≤(j2:Int):=by omega
    have i2n:(j2:Int)< (n:Int):=by omega
    have j20:(0:Int)≤(a:Int):=by omega
    have j2n:(a:Int)< (n:Int):=by omega
    have i29:(j2:Int)≤1000000000:=by omega
    have j29:(a:Int)≤1000000000:=by omega
    obtain⟨x0,hx0⟩: ∃x,x=dk[j2]! :=⟨_,rfl⟩
    obtain⟨xq,hxq⟩: ∃x,x=dk[a]! :=⟨_,rfl⟩
    have c0:wc.cell? ⟨g,j2,none⟩=some (.int .u64 x0):=by rw[hx0];exact hR3.out.cell bi
    have cq:wc.cell? ⟨g,a,none⟩=some (.int .u64 xq):=by rw[hxq];exact hR3.out.cell bj
    have f0:=hR3.out.frozen j2
    have fq:=hR3.out.frozen a
    obtain⟨yq,hyq⟩: ∃y,(wc.setCell ⟨g,j2,none⟩ (.int .u64 xq)).cell? ⟨g,a,none⟩=some (.int .u64 y):=⟨_,(hR3.out.set_ xq bi).cell bj⟩
    have fq2:=(hR3.out.set_ xq bi).frozen a
    have HX0:=hid hx0
    have HXQ:=hid hxq
    have BI:=hid bi
    have BJ:=hid bj
    clear hx0 hxq bi bj
    go_wp2
    go_region
    all_goals go_wp2
    go_ret2
    rw[e.out]
    exact⟨rfl,RowS.swpV hR3.out.drew BI.out BJ.out HX0.out HXQ.out,hO3.out.drew.trans (only_two _ g _ _ _ _) (fun x hx=>Or.inl hx)⟩
   ·have d1: ¬(i2:Int)>(j2:Int):=by omega
    have hne:i2≠j2:=by
     intro e
     have h1:=(Go.Sort.scanUp_spec (fun x=>ltInt x dk[a]!) dk j _ (a+1) rfl).2.2.2
     rw[←hi2.out] at h1
     have h2:=(Go.Sort.scanDown_spec (fun x=> !ltInt x dk[a]!) dk i2 j).2.2.2
     rw[←hj2.out] at h2
     have h3:=h1 (by have:=hj2b.out.1;omega)
     have h4:=h2 (by omega) (by have:=hij.out.1;have:=hi2b.out.1;omega)
     rw[e] at h3
     simp[h3] at h4
    have HLT:Hid (i2<j2):=by show i2<j2;omega
    have J1:Hid (1≤j2):=by have:=HLT.out;show 1≤j2;omega
    have HGT:=hid hgt
    clear hgt hne
    have e:=hid (hpe.out.trans (if_neg HGT.out))
    clear hpe
    have hnl:=HN.out
    have bi:i2<n:=by have:=HLT.out;have:=hj2b.out.1;have:=hij.out.2.2;have:=BN.out;omega
    have bj:j2<n:=by have:=hj2b.out.1;have:=hij.out.2.2;have:=BN.out;omega
    have i20:(0:Int)≤(i2:Int):=by omega
    have i2n:(i2:Int)< (n:Int):=by omega
    have j20:(0:Int)≤(j2:Int):=by omega
    have j2n:(j2:Int)< (n:Int):=by omega
    have i29:(i2:Int)≤1000000000:=by omega
    have j29:(j2:Int)≤1000000000:=by omega
    obtain⟨x0,hx0⟩: ∃x,x=dk[i2]! :=⟨_,rfl⟩
    obtain⟨xq,hxq⟩: ∃x,x=dk[j2]! :=⟨_,rfl⟩
    have c0:wc.cell? ⟨g,i2,none⟩=some (.int .u64 x0):=by rw[hx0];exact hR3.out.cell bi
    have cq:wc.cell? ⟨g,j2,none⟩=some (.int .u64 xq):=by rw[hxq];exact hR3.out.cell bj
    have f0:=hR3.out.frozen i2
    have fq:=hR3.out.frozen j2
    obtain⟨yq,hyq⟩: ∃y,(wc.setCell ⟨g,i2,none⟩ (.int .u64 xq)).cell? ⟨g,j2,none⟩=some (.int .u64 y):=⟨_,(hR3.out.set_ xq bi).cell bj⟩
    have fq2:=(hR3.out.set_ xq bi).frozen j2
    have HX0:=hid hx0
    have HXQ:=hid hxq
    have BI:=hid bi
    have BJ:=hid bj
    clear hx0 hxq bi bj
    go_wp2
    go_region
    have R4:=hid (RowS.swpV hR3.out.drew BI.out BJ.out HX0.out HXQ.out)
    have O4:=hid (hO3.out.drew.trans (only_two _ g i2 j2 (Value.int .u64 xq) (Value.int .u64 x0)) (fun x hx=>Or.inl hx))
    obtain⟨I0,hI0⟩: ∃I0,I0=i2+1:=⟨_,rfl⟩
    obtain⟨J0,hJ0⟩: ∃J0,J0=j2-1:=⟨_,rfl⟩
    have eI:(i2:Int)+1=(I0:Int):=by omega
    have eJ:(j2:Int)-1=(J0:Int):=by have:=J1.out;omega
    obtain⟨dm,hdm⟩: ∃dm,dm=swp dk i2 j2:=⟨_,rfl⟩
    rw[←hdm] at R4
    have e2:Hid (partition ltInt d a b p=((partLoop ltInt a I0 J0 dm).1,false,swp (partLoop ltInt a I0 J0 dm).2 (partLoop ltInt a I0 J0 dm).1 a)):=by
     show partition ltInt d a b p=_
     rw[hI0,hJ0,hdm];exact e.out
    have hIJ:Hid (a<I0∧I0≤J0+1∧J0<b):=by
     show a<I0∧I0≤J0+1∧J0<b
     have:=HLT.out;have:=hi2b.out;have:=hj2b.out;have:=hij.out;omega
    have wI:=wrapN (q:=I0) (by omega)
    have wJ:=wrapN (q:=J0) (by omega)
    clear e hI0 hJ0 hdm c0 cq f0 fq hyq fq2 HX0 HXQ hij hi2 hj2 hi2b hj2b
    go_wp2
    go_loopw [10,11] (fun vi vj wr=> ∃(i j:Nat) (dk:Array Int),vi= .int .i64 i∧vj= .int .i64 j∧Hid (a<i∧i≤j+1∧j<b)∧Hid (RowS wr g n dk tl)∧Hid (Only [g] w wr)∧
      Hid (partLoop ltInt a i j dk=partLoop ltInt a I0 J0 dm)) (fun vi vj _=>(intOf vj+1-intOf vi).toNat)
    case atStart=>exact⟨I0,J0,dm,rfl,rfl,hIJ,R4,O4,rfl⟩
    case round=>
     clear hIJ R4 O4 hR hO hR2 hO2 hR3 hO3
     obtain⟨i,j,dk,rfl,rfl,hij,hR,hO,hI⟩:=hrel
     go_upto_block 6 with fail
     go_cut [10] (fun s9 wc=> ∃i2:Nat,s9= .int .i64 i2∧Hid (i2=scanUp (fun x=>ltInt x dk[a]!) dk j i)∧Hid (RowS wc g n dk tl)∧Hid (Only [g] w wc))
     case first=>
      go_wp2_with fail
      go_loopw [10] (fun vi wx=> ∃(t:Nat),vi= .int .i64 t∧Hid (i≤t∧t≤j+1)∧Hid (RowS wx g n dk tl)∧Hid (Only [g] w wx)∧Hid (scanUp (fun x=>ltInt x dk[a]!) dk j t=scanUp (fun x=>ltInt x dk[a]!) dk j i)) (fun vi _=>(j+1:Nat)- (intOf vi).toNat)
      case atStart=>exact⟨i,by first | rfl | go_num,(⟨Nat.le_refl _,hij.out.2.1⟩:i≤i∧i≤j+1),hR,hO,rfl⟩
      case round=>
       obtain⟨t,rfl,ht,hR1,hO1,hT⟩:=hrel
       obtain⟨x0,hx0⟩: ∃x,x=dk[a]! :=⟨_,rfl⟩
       have hnl:=HN.out
       have bj:j<n:=by have:=hij.out.2.2;have:=BN.out;omega
       have t9:(t:Int)≤1000000000:=by have:=ht.out.2;omega
       have t0:(0:Int)≤(t:Int):=by omega
       have j9:(j:Int)≤1000000000:=by omega
       have jn:(j:Int)< (n:Int):=by omega
       have c0:wr.cell? ⟨g,a,none⟩=some (.int .u64 x0):=by rw[hx0];exact hR1.out.cell HA.out
       have HX0:=hid hx0
       by_cases htj:t≤j
       ·have d1:decide ((t:Int)≤(j:Int))=true:=by simp;omega
        have d2:(t:Int)≤(j:Int):=by omega
        have tn:(t:Int)< (n:Int):=by omega
        obtain⟨xt,hxt⟩: ∃x,x=dk[t]! :=⟨_,rfl⟩
        have ct:wr.cell? ⟨g,t,none⟩=some (.int .u64 xt):=by rw[hxt];exact hR1.out.cell (by omega)
        have HXT:=hid hxt
        have HTJ:=hid htj
        clear hx0 hxt htj bj
        go_wp2_with fail
        go_quiet (first | (go_at_call 228;exact Calls.quiet_of_same (Less_s _ _ _)))
        go_wp2
        ·have hl:ltInt xt x0=true:=by assumption
         go_roundw
         case rel=>
          refine⟨t+1,by go_num,(by have:=ht.out;have:=HTJ.out;omega:i≤t+1∧t+1≤j+1),hR1.out.drewN _,hO1.out.drewN _,?_⟩
          show scanUp _ dk j (t+1)=_
          rw[←hT.out,←up_go _ dk j t HTJ.out (by rw[←HX0.out,←HXT.out];exact hl)]
         case measure=>first | (simp[intOf];done) | (simp[intOf];omega)
        ·have hl:ltInt xt x0=false:=by assumption
         go_meet
         case rel=>
          refine⟨t,rfl,?_,hR1.out.drewN _,hO1.out.drewN _⟩
          show t=_
          rw[←hT.out,up_stop _ dk j t (fun _=>by rw[←HX0.out,←HXT.out];exact hl)]
       ·have d1:decide ((t:Int)≤(j:Int))=false:=by simp;omega
        have d2:decide (t≤j)=false:=by simp;omega
        have HTJ:=hid htj
        clear hx0 htj bj
        go_wp2_with fail
        go_quiet (first | (go_at_call 228;exact Calls.quiet_of_same (Less_s _ _ _)))
        go_wp2
        go_meet
        case rel=>
         refine⟨t,rfl,?_,hR1.out.drewN _,hO1.out.drewN _⟩
         show t=_
         rw[←hT.out,up_stop _ dk j t (fun h=>absurd h HTJ.out)]
     case rest=>
      obtain⟨i2,rfl,hi2,hR2,hO2⟩:=hcut
      have hi2b:Hid (i≤i2∧i2≤j+1):=by
       have:=Go.Sort.scanUp_spec (fun x=>ltInt x dk[a]!) dk j _ (i) rfl
       rw[←hi2.out] at this
       exact⟨this.1,this.2.1 hij.out.2.1⟩
      go_upto_block 8 with fail
      go_cut [11] (fun s10 wc=> ∃j2:Nat,s10= .int .i64 j2∧Hid (j2=scanDown (fun x=> !ltInt x dk[a]!) dk i2 j)∧Hid (RowS wc g n dk tl)∧Hid (Only [g] w wc))
      case first=>
       go_wp2_with fail
       go_loopw [11] (fun vi wx=> ∃(t:Nat),vi= .int .i64 t∧Hid (t≤j∧i2≤t+1)∧Hid (RowS wx g n dk tl)∧Hid (Only [g] w wx)∧Hid (scanDown (fun x=> !ltInt x dk[a]!) dk i2 t=scanDown (fun x=> !ltInt x dk[a]!) dk i2 j)) (fun vi _=>(intOf vi).toNat)
       case atStart=>exact⟨j,rfl,(⟨Nat.le_refl _,hi2b.out.2⟩:j≤j∧i2≤j+1),hR2,hO2,rfl⟩
       case round=>
        obtain⟨t,rfl,ht,hR1,hO1,hT⟩:=hrel
        obtain⟨x0,hx0⟩: ∃x,x=dk[a]! :=⟨_,rfl⟩
        have hnl:=HN.out
        have bj:j<n:=by have:=hij.out.2.2;have:=BN.out;omega
        have i0:0<i2:=by have:=hi2b.out.1;have:=hij.out.1;omega
        have t9:(t:Int)≤1000000000:=by have:=ht.out.1;omega
        have t0:(0:Int)≤(t:Int):=by omega
        have c0:wr.cell? ⟨g,a,none⟩=some (.int .u64 x0):=by rw[hx0];exact hR1.out.cell HA.out
        have HX0:=hid hx0
        have HI0:=hid i0
        by_cases htj:i2≤t
        ·obtain⟨q,hq⟩: ∃q,t=q+1:=⟨t-1,by omega⟩
         have d1:decide ((i2:Int)≤(t:Int))=true:=by simp;omega
         have d2:(i2:Int)≤(t:Int):=by omega
         have t1:(1:Int)≤(t:Int):=by omega
         have tn:(t:Int)< (n:Int):=by have:=ht.out.1;omega
         obtain⟨xt,hxt⟩: ∃x,x=dk[t]! :=⟨_,rfl⟩
         have ct:wr.cell? ⟨g,t,none⟩=some (.int .u64 xt):=by rw[hxt];exact hR1.out.cell (by omega)
         have HXT:=hid hxt
         have HTJ:=hid htj
         have HQ:=hid hq
         clear hx0 hxt htj bj i0 hq
         go_wp2_with fail
         go_quiet (first | (go_at_call 228;exact Calls.quiet_of_same (Less_s _ _ _)))
         go_wp2
         ·have hl:(!ltInt xt x0)=true:=by assumption
          go_roundw
          case rel=>
           have:=HQ.out
           refine⟨q,by congr 1;omega,(by have:=ht.out;have:=HTJ.out;omega:q≤j∧i2≤q+1),hR1.out.drewN _,hO1.out.drewN _,?_⟩
           show scanDown _ dk i2 q=_
           have h1:=HTJ.out
           have h2:=HXT.out
           rw[HQ.out] at h1 h2
           rw[←hT.out,HQ.out,←down_go _ dk i2 q h1 (by rw[←HX0.out,←h2];exact hl)]
          case measure=>first | (simp[intOf];done) | (simp[intOf];omega)
         ·have hl:(!ltInt xt x0)=false:=by assumption
          go_meet
          case rel=>
           refine⟨t,rfl,?_,hR1.out.drewN _,hO1.out.drewN _⟩
           show t=_
           rw[←hT.out,down_stop _ dk i2 t HI0.out (fun _=>by rw[←HX0.out,←HXT.out];exact hl)]
        ·have d1:decide ((i2:Int)≤(t:Int))=false:=by simp;omega
         have d2:decide (i2≤t)=false:=by simp;omega
         have HTJ:=hid htj
         clear hx0 htj bj i0
         go_wp2_with fail
         go_quiet (first | (go_at_call 228;exact Calls.quiet_of_same (Less_s _ _ _)))
         go_wp2
         go_meet
         case rel=>
          refine⟨t,rfl,?_,hR1.out.drewN _,hO1.out.drewN _⟩
          show t=_
          rw[←hT.out,down_stop _ dk i2 t HI0.out (fun h=>absurd h HTJ.out)]
      case rest=>
       obtain⟨j2,rfl,hj2,hR3,hO3⟩:=hcut
       have hj2b:Hid (j2≤j∧i2≤j2+1):=by
        have:=Go.Sort.scanDown_spec (fun x=> !ltInt x dk[a]!) dk i2 j
        rw[←hj2.out] at this
        exact⟨this.1,this.2.1 hi2b.out.2⟩
       have heq:Hid (partLoop ltInt a i j dk=if i2>j2 then(j2,dk) else partLoop ltInt a (i2+1) (j2-1) (swp dk i2 j2)):=by
        show partLoop ltInt a i j dk=_
        rw[Go.Sort.partLoop_eq,←hi2.out,←hj2.out]
       by_cases hgt:i2>j2
       ·have d1:(i2:Int)>(j2:Int):=by omega
        have e:=hid (heq.out.trans (if_pos hgt))
        clear hgt
        have hnl:=HN.out
        have bi:j2<n:=by have:=hj2b.out.1;have:=hij.out.2.2;have:=BN.out;omega
        have bj:a<n:=HA.out
        have i20:(0:Int)≤(j2:Int):=by omega
        have i2n:(j2:Int)< (n:Int):=by omega
        have j20:(0:Int)≤(a:Int):=by omega
        have j2n:(a:Int)< (n:Int):=by omega
        have i29:(j2:Int)≤1000000000:=by omega
        have j29:(a:Int)≤1000000000:=by omega
        obtain⟨x0,hx0⟩: ∃x,x=dk[j2]! :=⟨_,rfl⟩
        obtain⟨xq,hxq⟩: ∃x,x=dk[a]! :=⟨_,rfl⟩
        have c0:wc.cell? ⟨g,j2,none⟩=some (.int .u64 x0):=by rw[hx0];exact hR3.out.cell bi
        have cq:wc.cell? ⟨g,a,none⟩=some (.int .u64 xq):=by rw[hxq];exact hR3.out.cell bj
        have f0:=hR3.out.frozen j2
        have fq:=hR3.out.frozen a
        obtain⟨yq,hyq⟩: ∃y,(wc.setCell ⟨g,j2,none⟩ (.int .u64 xq)).cell? ⟨g,a,none⟩=some (.int .u64 y):=⟨_,(hR3.out.set_ xq bi).cell bj⟩
        have fq2:=(hR3.out.set_ xq bi).frozen a
        have HX0:=hid hx0
        have HXQ:=hid hxq
        have BI:=hid bi
        have BJ:=hid bj
        clear hx0 hxq bi bj
        go_wp2
        go_region
        all_goals go_wp2
        go_ret2
        rw[e2.out,←hI.out,e.out]
        exact⟨rfl,RowS.swpV hR3.out.drew BI.out BJ.out HX0.out HXQ.out,hO3.out.drew.trans (only_two _ g _ _ _ _) (fun x hx=>Or.inl hx)⟩
       ·have d1: ¬(i2:Int)>(j2:Int):=by omega
        have hne:i2≠j2:=by
         intro e
         have h1:=(Go.Sort.scanUp_spec (fun x=>ltInt x dk[a]!) dk j _ (i) rfl).2.2.2
         rw[←hi2.out] at h1
         have h2:=(Go.Sort.scanDown_spec (fun x=> !ltInt x dk[a]!) dk i2 j).2.2.2
         rw[←hj2.out] at h2
         have h3:=h1 (by have:=hj2b.out.1;omega)
         have h4:=h2 (by omega) (by have:=hij.out.1;have:=hi2b.out.1;omega)
         rw[e] at h3
         simp[h3] at h4
        have HLT:Hid (i2<j2):=by show i2<j2;omega
        have J1:Hid (1≤j2):=by have:=HLT.out;show 1≤j2;omega
        have HGT:=hid hgt
        clear hgt hne
        have e:=hid (heq.out.trans (if_neg HGT.out))
        clear heq
        have hnl:=HN.out
        have bi:i2<n:=by have:=HLT.out;have:=hj2b.out.1;have:=hij.out.2.2;have:=BN.out;omega
        have bj:j2<n:=by have:=hj2b.out.1;have:=hij.out.2.2;have:=BN.out;omega
        have i20:(0:Int)≤(i2:Int):=by omega
        have i2n:(i2:Int)< (n:Int):=by omega
        have j20:(0:Int)≤(j2:Int):=by omega
        have j2n:(j2:Int)< (n:Int):=by omega
        have i29:(i2:Int)≤1000000000:=by omega
        have j29:(j2:Int)≤1000000000:=by omega
        obtain⟨x0,hx0⟩: ∃x,x=dk[i2]! :=⟨_,rfl⟩
        obtain⟨xq,hxq⟩: ∃x,x=dk[j2]! :=⟨_,rfl⟩
        have c0:wc.cell? ⟨g,i2,none⟩=some (.int .u64 x0):=by rw[hx0];exact hR3.out.cell bi
        have cq:wc.cell? ⟨g,j2,none⟩=some (.int .u64 xq):=by rw[hxq];exact hR3.out.cell bj
        have f0:=hR3.out.frozen i2
        have fq:=hR3.out.frozen j2
        obtain⟨yq,hyq⟩: ∃y,(wc.setCell ⟨g,i2,none⟩ (.int .u64 xq)).cell? ⟨g,j2,none⟩=some (.int .u64 y):=⟨_,(hR3.out.set_ xq bi).cell bj⟩
        have fq2:=(hR3.out.set_ xq bi).frozen j2
        have HX0:=hid hx0
        have HXQ:=hid hxq
        have BI:=hid bi
        have BJ:=hid bj
        clear hx0 hxq bi bj
        go_wp2
        go_region
        all_goals go_wp2
        go_roundw
        case rel=>
         refine⟨i2+1,j2-1,swp dk i2 j2,by go_num,by have:=J1.out;go_num,(by have:=hij.out;have:=hi2b.out;have:=hj2b.out;have:=J1.out;have:=HLT.out;omega:a<i2+1∧i2+1≤j2-1+1∧j2-1<b),?_,?_,?_⟩
         ·exact RowS.swpV hR3.out.drew BI.out BJ.out HX0.out HXQ.out
         ·exact hO3.out.drew.trans (only_two _ g _ _ _ _) (fun x hx=>Or.inl hx)
         ·show partLoop ltInt a (i2+1) (j2-1) (swp dk i2 j2)=_
          rw[←e.out];exact hI.out
        case measure=>have:=hi2b.out;have:=hj2b.out;first | (simp[intOf];done) | (simp[intOf];omega)
end
end Go.Proofs.YtibiekfjbibpbaaGreat
