import Derived.Test.YtibiekfjbibpbaaGreatNodM
set_option maxRecDepth 100000
set_option maxHeartbeats 4000000
set_option linter.unusedVariables false
set_option linter.unusedSimpArgs false
namespace Go.Proofs.YtibiekfjbibpbaaGreat
open Go.RowKit
section
attribute [local go_sem ↓ high] q0s q0f q0d q2c q0v
attribute [local go_sem] q1x q1p q1v Oper.semAt_some q0h
theorem q8w (n:NodeA) (w:World):∃W1,W1=w.alloc (.cells (q0x n) 55)/\Blk W1 w.heap.size 55 (q0x n)/\Below w.heap.size w W1:=⟨_,rfl,Blk.new _ _ _,ba (Below.refl _ _) _⟩
theorem x8s (n:NodeA) (w:World):Calls Tryz.prog 20 #[.agg (q0x n)] w fun e W'=>e= .returned (.int .i64 (lenN n:Int))/\Below w.heap.size w W':=by
 obtain⟨W1,L,k1,M⟩:=q8w n w;have HK:=hid (⟨k1,M⟩:_/\_);have HW:=hid L;clear k1 M L;go_enter Tryz.func20,Tryz.ntmps20;go_upto_region 1 with fail;rw[<- HW.out];clear HW;go_wp2;go_loopw [3] (fun iv wr=> ∃k:Nat,k<=lenN n/\iv= .int .i64 k/\Hid (wr=W1)) (fun iv _=>(8- (intOf iv).toNat));case atStart=>exact⟨0,by omega,rfl,rfl⟩
 case round=>
  obtain⟨k,hk,rfl,S⟩:=hrel;obtain rfl:=S.out;have h8:=q5d n;have k0:(0:Int)<=(k:Int):=by omega
  by_cases hk8:k<8
  ·have i1:(k:Int)<8:=by omega
   have c1:wr.cell? ⟨w.heap.size,13+k,none⟩=some (.int .u64 (n.p k)):=(HK.out.1.cell _).trans (q6t n hk8);by_cases hlt:k<lenN n
   ·have I:=x8w n hlt;have U:(n.p k !=0)=true:=by simpa using I
    have O:=hid hlt;clear hlt hk I;go_wp2;go_roundw;case rel=>exact⟨k+1,O.out,by go_num,(by first|exact hid rfl|exact hid trivial)⟩
    case measure=>simp[intOf];omega
   ·obtain rfl:k=lenN n:=by omega
    have h0:=x8j n hk8;have U:(n.p (lenN n) !=0)=false:=by simpa using h0
    clear hlt hk h0;go_wp2;go_ret;exact⟨rfl,HK.out.2⟩
  ·obtain rfl:k=8:=by omega
   have hl:lenN n=8:=by omega
   have i1: ¬((8:Nat):Int)<8:=by omega
   have HL:=hid hl;clear hk hl hk8;go_wp2;go_ret;exact⟨by rw[HL.out];rfl,HK.out.2⟩
end
section
attribute [local go_sem ↓ high] q0s q0f q0d q2c q0v
attribute [local go_sem] q1x q1p q1v Oper.semAt_some q0h
def q1l (w:World) (v:Value) (l:List (Int×Int)):Prop:=∃ao cap,v= .slice ao l.length cap/\(l=[]\/ ∃b off,ao=some ⟨b,off,none⟩/\b<w.heap.size/\ ∀i x,l[i]?=some x->w.cell? ⟨b,off+i*2,none⟩=some (.int .u64 x.1)/\w.cell? ⟨b,off+i*2+1,none⟩=some (.int .u64 x.2))
theorem q1l.bel {w w':World} {v:Value} {l:List (Int×Int)} (h:q1l w v l) (hb:Below w.heap.size w w'):q1l w' v l:=by
 obtain⟨ao,cap,h1,h2⟩:=h;refine⟨ao,cap,h1,?_⟩;rcases h2 with h2|⟨b,off,h3,h4,h5⟩;·exact Or.inl h2
 ·exact Or.inr ⟨b,off,h3,AL h4 hb.size,fun i x hi=>⟨(hb.cell (p:=⟨b,off+i*2,none⟩) h4).trans (h5 i x hi).1,(hb.cell (p:=⟨b,off+i*2+1,none⟩) h4).trans (h5 i x hi).2⟩⟩
theorem q8f:∀(l:List (Int×Int)) (i:Nat) (x:Int×Int),l[i]?=some x->(l.flatMap entC)[i*2]?=some (.int .u64 x.1)/\(l.flatMap entC)[i*2+1]?=some (.int .u64 x.2)
 | [],i,x,h=>by simp at h
 | y::l,0,x,h=>by simp at h;subst h;exact⟨rfl,rfl⟩
 | y::l,i+1,x,h=>by have:=q8f l i x (by simpa using h);rw[Ap,show(i+1)*2=(i*2)+1+1 by omega];exact this
theorem q1l.of_own {w:World} {base:Nat} {e:TypeId} {v:Value} {l:List (Int×Int)} (h:w.ownsRow base e 2 v l.length (l.flatMap entC)):q1l w v l:=by
 rcases h.2 with⟨rfl,h2⟩|⟨g,cap,I,rfl,h2,h3,h4,h5,h6,h7⟩;·exact⟨none,0,by rw[h2],Or.inl (Am.1 h2)⟩
 ·refine⟨some ⟨g,0,none⟩,cap,rfl,Or.inr ⟨g,0,rfl,(AA.1 h3).1,fun i x hi=> ?_⟩⟩;have hl:i<l.length:=(AE.1 hi).1;have hc:Blk w g e I:=h3
  have key:∀j v,j<l.length*2->(l.flatMap entC)[j]?=some v->w.cell? ⟨g,0+j,none⟩=some v:=fun j v hj hv=>by
   rw[hc.cell,AQ,<- Ad];have:(I.toList.take (l.length*2))[j]?=some v:=by rw[h7];exact hv
   rw[AV,if_pos hj] at this;exact this
  exact⟨key _ _ (by omega) (q8f l i x hi).1,key (i*2+1) _ (by omega) (q8f l i x hi).2⟩
def t1N (lv low:Int) (x:Int×Int):Bool:=decide (x.1<low) || (decide (0<lv)&&decide (x.1=low))
def t2N (fi:Int) (l:List (Int×Int)) (x:Int×Int) (i:Nat):Bool:=(decide (0<i)&&decide (x.1<=(l.getD (i-1) (0,0)).1)) || decide (x.2=fi)
def badN (lv low fi:Int) (l:List (Int×Int)) (i:Nat):Bool:=
 let x:=l.getD i (0,0)
 t1N lv low x || t2N fi l x i || (l.take i).any fun y=>decide (y.2=x.2)
def z3s (lv low fi:Int) (l:List (Int×Int)):Bool:=(List.range l.length).all fun i=> !badN lv low fi l i
theorem z5u {lv low fi:Int} {l:List (Int×Int)} {i:Nat} (hi:i<l.length) (h:badN lv low fi l i=true):z3s lv low fi l=false:=by unfold z3s;rw[DK];exact⟨i,Av.2 hi,by simp[h]⟩
theorem x2b {lv low fi:Int} {l:List (Int×Int)} (h:∀i,i<l.length->badN lv low fi l i=false):z3s lv low fi l=true:=by unfold z3s;rw[Bc];intro i hi;rw[h i (Av.1 hi)];rfl
theorem getD_some {α:Type} {l:List α} {i:Nat} {x d:α} (h:l[i]?=some x):l.getD i d=x:=by rw[Ag,h];rfl
theorem v9y (w:World) (n:Nat):Below w.heap.size w (w.drewN n):=⟨rfl,rfl,rfl,AG _,fun _ _=>rfl⟩
theorem v2k (lv low fi:Int) (v:Value) (l:List (Int×Int)) (w:World) (h:q1l w v l) (h8:l.length<=8):
  Calls Tryz.prog 169 #[.int .i64 lv,.int .u64 low,.int .u64 fi,v] w fun e W'=>e= .returned (.bool (z3s lv low fi l))/\Below w.heap.size w W':=by
 obtain⟨ao,cap,rfl,M⟩:=h;obtain⟨q,hq⟩:∃q,q=l.length:=⟨_,rfl⟩;rw[<- hq] at h8 ⊢;have HQ:=hid hq;have HC:=hid M;clear M hq;go_enter Tryz.func169,Tryz.ntmps169;go_wp2;go_loopw [9,10] (fun iv kv wr=> ∃k:Nat,k<=q/\iv= .int .i64 k/\Hid (Below w.heap.size w wr)/\Hid (∀i,i<k->badN lv low fi l i=false)) (fun iv _ _=>(q- (intOf iv).toNat));case atStart=>exact⟨0,by omega,rfl,Below.refl _ _,fun i hi=>by omega⟩
 case round=>
  obtain⟨k,hk,rfl,hI,h1⟩:=hrel;by_cases hlt:k<q
  ·have i1:(k:Int)< (q:Int):=by omega
   have i0:(0:Int)<=(k:Int):=by omega
   obtain⟨x,hx⟩:∃x,l[k]?=some x:=⟨_,AD (by rw[<- HQ.out];exact hlt)⟩;obtain⟨g,off,hg,S,M⟩:=HC.out.resolve_left (fun e=>by rw[e] at hx;simp at hx);subst hg;have HB:=hid (fun W (hb:Below w.heap.size w W) i y (hi:l[i]?=some y)=>(⟨(hb.cell (p:=⟨g,off+i*2,none⟩) S).trans (M i y hi).1,(hb.cell (p:=⟨g,off+i*2+1,none⟩) S).trans (M i y hi).2⟩:W.cell? ⟨g,off+i*2,none⟩=some (.int .u64 y.1)/\W.cell? ⟨g,off+i*2+1,none⟩=some (.int .u64 y.2)));have HX:=hid hx;have L:=hid hlt;have I:=hid (show badN lv low fi l k=(t1N lv low x || t2N fi l x k || (l.take k).any fun y=>decide (y.2=x.2)) by unfold badN;rw[getD_some hx]);obtain⟨c1,c2⟩:=HB.out wr hI.out k x hx;clear M hx hlt hk HC;go_upto_region 4 with fail;go_cut [36] from 11 to 77 (fun hl wc=>hl= .bool (t1N lv low x)/\Hid (wc=wr))
   case first=>
    by_cases b1:x.1<low;·go_wp2_with fail;go_meet;exact⟨by unfold t1N;simp[b1],rfl⟩
    ·by_cases b2:0<lv
     ·by_cases b3:x.1=low
      ·have hf:(x.1==low)=true:=by simpa using b3
       go_wp2_with fail;go_meet;exact⟨by unfold t1N;simp[b2,b3],rfl⟩
      ·have hf:(x.1==low)=false:=by simpa using b3
       go_wp2_with fail;go_meet;exact⟨by unfold t1N;simp;exact⟨by omega,fun _=>by omega⟩,rfl⟩
     ·go_wp2_with fail;go_meet;exact⟨by unfold t1N;simp;exact⟨by omega,fun _=>by omega⟩,rfl⟩
   case rest=>
    obtain⟨rfl,h9⟩:=hcut;obtain rfl:=h9.out;clear h9;obtain⟨b1,h7⟩:∃b1,b1=t1N lv low x:=⟨_,rfl⟩;rw[<- h7] at I ⊢;clear h7;cases b1
    ·go_upto_region 6 with fail;go_cut [61] from 37 to 77 (fun he wd=>he= .bool (t2N fi l x k)/\Hid (Below w.heap.size w wd))
     case first=>
      have BD:=hid (fun nq=>hI.out.trans ((v9y wc nq).mono hI.out.size));by_cases b2:0<k
      ·have d2:(0:Int)< (k:Int):=by omega
       have d3:((k:Int)-1).toNat=k-1:=by omega
       have d5:(k:Int)-1< (q:Int):=by omega
       have d6:(0:Int)<=(k:Int)-1:=by omega
       obtain⟨y,hy⟩:∃y,l[k-1]?=some y:=⟨_,AD (by have:=L.out;have:=HQ.out;omega)⟩;obtain⟨c3,c4⟩:=HB.out wc hI.out (k-1) y hy;have ht:t2N fi l x k=(decide (x.1<=y.1) || decide (x.2=fi)):=by unfold t2N;rw[getD_some hy];simp[b2]
       have HT:=hid ht;clear hy ht c4;by_cases b3:x.1<=y.1;·go_quiet (fail);go_wp2_with fail;go_meet;exact⟨by rw[HT.out];simp[b3],BD.out _⟩
       ·by_cases b4:x.2=fi
        ·have Y:(x.2==fi)=true:=by simpa using b4
         go_quiet (fail);go_wp2_with fail;go_meet;exact⟨by rw[HT.out];simp[b4],BD.out _⟩
        ·have Y:(x.2==fi)=false:=by simpa using b4
         go_quiet (fail);go_wp2_with fail;go_meet;exact⟨by rw[HT.out];simp[b3,b4],BD.out _⟩
      ·obtain rfl:k=0:=by omega
       have d2: ¬(0:Int)< ((0:Nat):Int):=by omega
       by_cases b4:x.2=fi
       ·have Y:(x.2==fi)=true:=by simpa using b4
        go_quiet (fail);go_wp2_with fail;go_meet;exact⟨by unfold t2N;simp[b4],BD.out _⟩
       ·have Y:(x.2==fi)=false:=by simpa using b4
        go_quiet (fail);go_wp2_with fail;go_meet;exact⟨by unfold t2N;simp[b4],BD.out _⟩
     case rest=>
      obtain⟨rfl,ha⟩:=hcut;clear c1 c2;obtain⟨b2,h6⟩:∃b2,b2=t2N fi l x k:=⟨_,rfl⟩;rw[<- h6] at I ⊢;clear h6;cases b2
      ·have hm:=hid S;clear S;go_wp2;go_loopw [10] (fun jv wj=> ∃j:Nat,j<=k/\jv= .int .i64 j/\Hid (Below w.heap.size w wj)/\Hid (∀i y,i<j->l[i]?=some y->y.2≠x.2)) (fun jv _=>(k- (intOf jv).toNat));case atStart=>exact⟨0,by omega,rfl,ha,fun i y hi=>by omega⟩
       case round=>
        obtain⟨j,hj,rfl,O,h5⟩:=hrel;obtain⟨c1,c2⟩:=HB.out wr O.out k x HX.out;by_cases hjk:j<k
        ·have e1:(j:Int)< (k:Int):=by omega
         have e0:(0:Int)<=(j:Int):=by omega
         have e2:(j:Int)< (q:Int):=by omega
         obtain⟨y,hy⟩:∃y,l[j]?=some y:=⟨_,AD (by have:=L.out;have:=HQ.out;omega)⟩;obtain⟨c3,c4⟩:=HB.out wr O.out j y hy;have HY:=hid hy;have U:=hid hjk;have BD:=hid (fun nq=>O.out.trans ((v9y wr nq).mono O.out.size));clear hy hj hjk c1 c3;by_cases h4:y.2=x.2
         ·have hh:(y.2==x.2)=true:=by simpa using h4
          have H4:=hid h4;clear h4;go_upto_region 11 with fail;go_quiet (fail);go_wp2;go_ret;refine⟨?_,BD.out _⟩;rw[z5u (by rw[<- HQ.out];exact L.out) (by rw[I.out,Bool.or_eq_true];right;rw[CM];exact⟨y,AJ (i:=j) (by rw[AV,if_pos U.out];exact HY.out),by simpa using H4.out⟩)];rfl
         ·have hh:(y.2==x.2)=false:=by simpa using h4
          have H4:=hid h4;clear h4;go_upto_region 11 with fail;go_quiet (fail);go_wp2;go_roundw
          case rel=>
           refine⟨j+1,U.out,by go_num,BD.out _,fun i z hi hz=> ?_⟩;by_cases hij:i=j;·subst hij;rw[HY.out] at hz;injection hz with hz;subst hz;exact H4.out
           ·exact h5.out i z (by omega) hz
          case measure=>simp[intOf];have:=U.out;omega
        ·obtain rfl:j=k:=by omega
         have e1: ¬(j:Int)< (j:Int):=by omega
         clear hjk hj;go_wp2;go_roundw
         case rel=>
          refine⟨j+1,L.out,by go_num,O,fun i hi=> ?_⟩;by_cases hij:i=j
          ·subst hij;rw[I.out];simp only[Bool.false_or];rw[List.any_eq_false];intro y hy;obtain⟨i2,h2⟩:=Bb.1 hy;rw[AV] at h2;split at h2;·next h3=>simpa using h5.out i2 y h3 h2
           ·cases h2
          ·exact h1.out i (by omega)
         case measure=>simp[intOf];have:=L.out;omega
      ·go_wp2;go_ret;exact⟨by rw[z5u (by rw[<- HQ.out];exact L.out) (by rw[I.out];rfl)];rfl,ha.out⟩
    ·go_wp2;go_ret;exact⟨by rw[z5u (by rw[<- HQ.out];exact L.out) (by rw[I.out];rfl)];rfl,hI.out⟩
  ·obtain rfl:k=q:=by omega
   have i1: ¬(k:Int)< (k:Int):=by omega
   clear hlt hk;go_wp2;go_ret;exact⟨by rw[x2b (by rw[<- HQ.out];exact h1.out)];rfl,hI.out⟩
end
section
attribute [local go_sem ↓ high] q0s q0f q0d q2c q0v
attribute [local go_sem] q1x q1p q1v Oper.semAt_some q0h
def actE (high:Int) (has:Bool) (x:Int×Int):Bool:= !has || decide (x.1<high)
def q1n (n:NodeA) (high:Int) (has:Bool):List (Int×Int):=(q0r n).filter (actE high has)
theorem q3j (n:NodeA):(q0r n).length<=8:=by unfold q0r;rw[AO];exact z0j n
def mayA (n:NodeA) (high:Int) (has:Bool):Bool:=decide (n.lv<0) || decide (15<n.lv) || decide (n.fi=0) || (has&&decide (high<=n.low))
def mayN (n:NodeA) (high:Int) (has:Bool):Bool:= !mayA n high has&&decide (lenN n<=(q0r n).length+1)&&z3s n.lv n.low n.fi (q0r n)
end
section
attribute [local go_sem ↓ high] q0s q0f q0d q2c q0v
attribute [local go_sem] q1x q1p q1v Oper.semAt_some q0h
def v2v (F:Nat) (caps:Array Value) (l:List (Int×Int)) (p:Int×Int->Bool) (w:World):Prop:=∀W,Below w.heap.size w W-> ∀x∈l,Calls Tryz.prog F (#[.agg #[.int .u64 x.1,.int .u64 x.2]]++caps) W fun e W'=>e= .returned (.bool (p x))/\Below W.heap.size W W'
def idxE (l:List (Int×Int)) (p:Int×Int->Bool):Int:=if l.any p then(l.findIdx p:Int) else-1
theorem v7y {l:List (Int×Int)} {p:Int×Int->Bool} {k:Nat} {x:Int×Int} (hx:l[k]?=some x) (h0:∀j y,j<k->l[j]?=some y->p y=false) (h1:p x=true):idxE l p=(k:Int):=by have hk:k<l.length:=(AE.1 hx).1;have I:l[k]=x:=(AE.1 hx).2;rw[idxE,if_pos (CM.2 ⟨x,AJ hx,h1⟩)];congr 1;rw[List.findIdx_eq hk];exact⟨by rw[I];exact h1,fun j hj=>by simpa using h0 j l[j] hj (AD (by omega))⟩
theorem v6m {l:List (Int×Int)} {p:Int×Int->Bool} (h0:∀y∈l,p y=false):idxE l p= -1:=by rw[idxE,if_neg];rw[CM];rintro⟨y,hy,hp⟩;rw[h0 y hy] at hp;cases hp
theorem x9j (F:Nat) (I:Array Value) (l:List (Int×Int)) (p:Int×Int->Bool) (v:Value) (h8:l.length<=8) (w:World) (h:q1l w v l) (hF:v2v F I l p w) (U:(∃c,F=264/\I= #[c])\/ ∃c d,F=267/\I= #[c,d]):
  Calls Tryz.prog 274 #[v,.func (.func F) #[] I] w fun e w'=>e= .returned (.int .i64 (idxE l p))/\Below w.heap.size w w':=by
 obtain⟨ao,cap,rfl,L⟩:=h;obtain⟨n,hn⟩:∃n,n=l.length:=⟨_,rfl⟩;rw[<- hn] at h8 ⊢;have HN:=hid hn;have HC:=hid L;have HF:=hid hF;clear hn L hF;go_enter Tryz.func274,Tryz.ntmps274;go_wp2;go_loopw [8] (fun i wr=> ∃k:Nat,k<=n/\i= .int .i64 k/\Hid (Below w.heap.size w wr)/\Hid (∀j y,j<k->l[j]?=some y->p y=false)) (fun i _=>n- (intOf i).toNat);case atStart=>exact⟨0,Af _,rfl,Below.refl _ _,fun j y hj=>absurd hj (BP _)⟩
 case round=>
  obtain⟨k,hk,rfl,hI,hA⟩:=hrel;by_cases hkn:k<n
  ·have i1:(0:Int)<=(k:Int):=by omega
   have i2:(k:Int)< (n:Int):=by omega
   obtain⟨x,hx⟩:∃x,l[k]?=some x:=⟨_,AD (by rw[<- HN.out];exact hkn)⟩;obtain⟨g,off,S,M,L⟩:=HC.out.resolve_left (fun e=>by rw[e] at hx;simp at hx);subst S;have c1:wr.cell? ⟨g,off+k*2,none⟩=some (.int .u64 x.1):=(hI.out.cell (p:=⟨g,off+k*2,none⟩) M).trans (L k x hx).1;have c2:wr.cell? ⟨g,off+k*2+1,none⟩=some (.int .u64 x.2):=(hI.out.cell (p:=⟨g,off+k*2+1,none⟩) M).trans (L k x hx).2;have HX:=hid hx;have HK:=hid hkn;have CF:=hid (HF.out wr hI.out x (AJ hx));clear hx L hkn hk HF HC;rcases U with⟨c,rfl,rfl⟩|⟨c,d,rfl,rfl⟩
   all_goals
    go_wp2_with fail;refine CF.out.mono ?_;rintro e w2 ⟨rfl,O⟩;have H2:=hid (hI.out.trans (O.mono hI.out.size));obtain⟨b,hb⟩:∃b,b=p x:=⟨_,rfl⟩;rw[<- hb];have HB:=hid hb;clear hb O CF;cases b
    ·go_wp2;go_roundw
     case rel=>
      refine⟨k+1,HK.out,by go_num,H2,fun j y hj hy=> ?_⟩;by_cases hjk:j=k;·subst hjk;rw[HX.out] at hy;injection hy with hy;subst hy;exact HB.out.symm
      ·exact hA.out j y (by omega) hy
     case measure=>simp[intOf];have:=HK.out;omega
    ·go_wp2;go_ret;exact⟨by rw[v7y HX.out hA.out HB.out.symm];rfl,H2.out⟩
  ·obtain rfl:k=n:=by omega
   have i2: ¬(k:Int)< (k:Int):=by omega
   clear hkn hk;go_wp2;go_ret;exact⟨by rw[v6m (fun y hy=>by obtain⟨j,hj⟩:=Bb.1 hy;exact hA.out j y (by have:=(AE.1 hj).1;have:=HN.out;omega) hj)];rfl,hI.out⟩
theorem v8d (F:Nat) (I:Array Value) (l:List (Int×Int)) (p:Int×Int->Bool) (v:Value) (h8:l.length<=8) (w:World) (h:q1l w v l) (hF:v2v F I l p w) (M:(∃c,F=264/\I= #[c])\/ ∃c d,F=267/\I= #[c,d]):
  Calls Tryz.prog 265 #[v,.func (.func F) #[] I] w fun e w'=>e= .returned (.bool (l.any p))/\Below w.heap.size w w':=by
 have HI:=hid (x9j F I l p v h8 w h hF M);obtain⟨ao,cap,rfl,_⟩:=h;clear hF;go_enter Tryz.func265,Tryz.ntmps265;go_wp2_with fail;refine HI.out.mono ?_;rintro e w2 ⟨rfl,L⟩;have HB:=hid L;clear L;obtain⟨i,hi⟩:∃i,i=idxE l p:=⟨_,rfl⟩;rw[<- hi];cases hb:l.any p
 ·have e1:i<0:=by rw[hi,idxE,if_neg (by rw[hb];decide)];omega
  have H:=hid hb;clear hi hb;go_wp2;go_ret;refine⟨?_,HB.out⟩;show Ending.returned (.bool (decide (0<=i)))=_;rw[H.out,AK (by omega)]
 ·have e1:0<=i:=by rw[hi,idxE,if_pos hb];omega
  have H:=hid hb;clear hi hb;go_wp2;go_ret;exact⟨by rw[H.out];rfl,HB.out⟩
theorem v7z (B:Nat) (xk xp:Int) (k p:Int) (w:World) (h:w.cell? ⟨B,1,none⟩=some (.int .u64 xp)):Calls Tryz.prog 264 #[.agg #[.int .u64 k,.int .u64 p],.pointer (some ⟨B,0,none⟩)] w fun e w'=>e= .returned (.bool (decide (p=xp)))/\Below w.heap.size w w':=by
 have I:=World.block_lt_of_cell? w _ h;have L:Below w.heap.size w (w.alloc (.cells #[.int .u64 k,.int .u64 p] 166)):=ba (Below.refl _ _) _;have c1:(w.alloc (.cells #[.int .u64 k,.int .u64 p] 166)).cell? ⟨B,1,none⟩=some (.int .u64 xp):=(L.cell (p:=⟨B,1,none⟩) I).trans h;have HB:=hid L;clear L I;go_enter Tryz.func264,Tryz.ntmps264;by_cases hp:p=xp
 ·have e1:(p==xp)=true:=by simpa using hp
  have H:=hid hp;clear hp;go_wp2;go_ret;refine⟨?_,HB.out⟩;show Ending.returned (.bool _)=_;rw[AT H.out]
 ·have e1:(p==xp)=false:=by simpa using hp
  have H:=hid hp;clear hp;go_wp2;go_ret;refine⟨?_,HB.out⟩;show Ending.returned (.bool _)=_;rw[AK H.out]
end
section
attribute [local go_sem ↓ high] q0s q0f q0d q2c q0v
attribute [local go_sem] q1x q1p q1v Oper.semAt_some q0h
section
variable {P:Program} {ops:Array Oper} {w:World}
theorem q0j {Q:Act->Prop} {a:Act} {o:Oper} {rest:List Oper} (hw:Region.wanted o (yielded ops a.tmps)=true) (h:∀K:Act->Prop,(∀a,wpStill P ops w Q rest a->K a)->o.still P a w K):wpStill P ops w Q (o::rest) a:=wpStill_step fun K hK=>by rw[if_pos hw];exact h K hK
theorem q0p {Q:Act->Prop} {a:Act} {o:Oper} {rest:List Oper} (hw:Region.wanted o (yielded ops a.tmps)=false) (h:∀K:Act->Prop,(∀a,wpStill P ops w Q rest a->K a)->K (a.put o.dst undef)):wpStill P ops w Q (o::rest) a:=wpStill_step fun K hK=>by rw[if_neg (by rw[hw];exact Bool.false_ne_true)];exact h K hK
end
theorem q1l.take {w:World} {v:Value} {l:List (Int×Int)} {ao:Option Addr} {cap:Nat} (h:q1l w v l) (hv:v= .slice ao l.length cap) (k:Nat) (hk:k<=l.length) (c:Nat):q1l w (.slice ao k c) (l.take k):=by
 obtain⟨L,I,rfl,h2⟩:=h;injection hv with e1 e2 e3;subst e1;have hl:(l.take k).length=k:=by rw[AU];omega
 refine⟨L,c,by rw[hl],?_⟩;rcases h2 with h2|⟨b,off,h3,h4,h5⟩;·left;rw[h2,List.take_nil]
 ·refine Or.inr ⟨b,off,h3,h4,fun i x hi=>h5 i x ?_⟩;rw[AV] at hi;split at hi;·exact hi
  ·cases hi
def x3i (v:Value):Prop:= ∀ao n cap,v= .slice ao n cap->n<=cap
theorem x3i.of_own {w:World} {base size n:Nat} {e:TypeId} {v:Value} {xs:List Value} (h:w.ownsRow base e size v n xs):x3i v:=by
 intro ao m cap hv;rcases h.2 with⟨rfl,_⟩|⟨g,c,I,rfl,_,_,h4,_⟩;·injection hv with _ e1 e2;omega
 ·injection hv with _ e1 e2;omega
theorem v6k (lv low fi:Int) (v:Value) (l:List (Int×Int)) (w:World) (h:q1l w v l) (h8:l.length<=8) (h5:x3i v):
  Calls Tryz.prog 244 #[.int .i64 lv,.int .u64 low,.int .u64 fi,v] w fun e W'=>e= .returned (.bool (z3s lv low fi l))/\Below w.heap.size w W':=by
 have h6:=hid h;obtain⟨ao,cap,rfl,U⟩:=h;have h9:=h5 _ _ _ rfl;clear h5;obtain⟨q,hq⟩:∃q,q=l.length:=⟨_,rfl⟩;rw[<- hq] at h8 h9 ⊢;have h2:=hid (fun(W:World) (hb:Below w.heap.size w W) (k:Nat) (hk:k<=q)=>(h6.out.bel hb).take rfl k (by omega) cap);clear h6;have HQ:=hid hq;have HC:=hid U;clear U hq;go_enter Tryz.func244,Tryz.ntmps244;go_wp2;go_loopw [9,10,11,14] (fun s9 ho hl iv wr=> ∃k:Nat,k<=q/\iv= .int .i64 k/\Hid (Below w.heap.size w wr)/\Hid (∀i,i<k->badN lv low fi l i=false)) (fun _ _ _ iv _=>(q- (intOf iv).toNat));case atStart=>exact⟨0,by omega,rfl,Below.refl _ _,fun i hi=>by omega⟩
 case round=>
  obtain⟨k,hk,rfl,hI,h3⟩:=hrel;by_cases hlt:k<q
  ·have i1:(k:Int)< (q:Int):=by omega
   have i0:(0:Int)<=(k:Int):=by omega
   obtain⟨x,hx⟩:∃x,l[k]?=some x:=⟨_,AD (by rw[<- HQ.out];exact hlt)⟩;obtain⟨g,off,hj,he,U⟩:=HC.out.resolve_left (fun e=>by rw[e] at hx;simp at hx);subst hj;have HB:=hid (fun W (hb:Below w.heap.size w W) i y (hi:l[i]?=some y)=>(⟨(hb.cell (p:=⟨g,off+i*2,none⟩) he).trans (U i y hi).1,(hb.cell (p:=⟨g,off+i*2+1,none⟩) he).trans (U i y hi).2⟩:W.cell? ⟨g,off+i*2,none⟩=some (.int .u64 y.1)/\W.cell? ⟨g,off+i*2+1,none⟩=some (.int .u64 y.2)));have HX:=hid hx;have O:=hid hlt;have I:=hid (show badN lv low fi l k=(t1N lv low x || t2N fi l x k || (l.take k).any fun y=>decide (y.2=x.2)) by unfold badN;rw[getD_some hx]);obtain⟨c1,c2⟩:=HB.out wr hI.out k x hx;clear U hx hlt hk HC;obtain⟨W,hW⟩:∃W,W=wr.alloc (.cells #[.int .u64 x.1,.int .u64 x.2] 166):=⟨_,rfl⟩;have kB:Blk W wr.heap.size 166 #[.int .u64 x.1,.int .u64 x.2]:=by rw[hW];exact Blk.new _ _ _
   have h1:Below w.heap.size w W:=by rw[hW];exact hI.out.trans ((ba (Below.refl _ _) _).mono hI.out.size)
   have d0:W.cell? ⟨wr.heap.size,0,none⟩=some (.int .u64 x.1):=kB.cell 0;have d1:W.cell? ⟨wr.heap.size,1,none⟩=some (.int .u64 x.2):=kB.cell 1;have i3:(k:Int)<=(cap:Int):=by omega
   have BD:=hid (show Below w.heap.size w W.drew from h1.trans ((z0z W).mono h1.size));have CF:=hid (v8d 264 #[.pointer (some ⟨wr.heap.size,0,none⟩)] (l.take k) (fun y=>decide (y.2=x.2)) (.slice (some ⟨g,off,none⟩) k cap) (by rw[AU];have:=O.out;omega) W.drew (h2.out _ BD.out k (Bv O.out)) (fun W' hg y _=>v7z wr.heap.size x.1 x.2 y.1 y.2 W' ((hg.cell (p:=⟨wr.heap.size,1,none⟩) (World.block_lt_of_cell? W.drew _ d1)).trans d1)) (Or.inl ⟨_,rfl,rfl⟩));have HW:=hid hW;have h7:=hid h1;go_upto_region 5 with fail;rw[<- HW.out];clear hW kB h1 c1 c2 h9;go_cut [61] from 20 (fun hf wc=>hf= .bool (badN lv low fi l k)/\Hid (Below w.heap.size w wc))
   case first=>
    by_cases b1:x.1<low
    ·have HT:=hid (show badN lv low fi l k=true by rw[I.out,show t1N lv low x=true by unfold t1N;simp[b1]];rfl);refine wp_region_still_tail 40 (by kernel_rfl) (by kernel_rfl) ?_;simp only[List.take_succ_cons,List.take_zero,List.drop_succ_cons,List.drop_zero];iterate 5 (with_reducible refine q0j ?_ (fun K hK=> ?_);(· kernel_rfl);go_simp;with_reducible refine hK _ ?_;clear hK K)
     iterate 8 (with_reducible refine q0p ?_ (fun K hK=> ?_);(· kernel_rfl);go_simp;with_reducible refine hK _ ?_;clear hK K)
     iterate 2 (with_reducible refine q0j ?_ (fun K hK=> ?_);(· kernel_rfl);go_simp;with_reducible refine hK _ ?_;clear hK K)
     iterate 13 (with_reducible refine q0p ?_ (fun K hK=> ?_);(· kernel_rfl);go_simp;with_reducible refine hK _ ?_;clear hK K)
     iterate 2 (with_reducible refine q0j ?_ (fun K hK=> ?_);(· kernel_rfl);go_simp;with_reducible refine hK _ ?_;clear hK K)
     iterate 4 (with_reducible refine q0p ?_ (fun K hK=> ?_);(· kernel_rfl);go_simp;with_reducible refine hK _ ?_;clear hK K)
     iterate 2 (with_reducible refine q0j ?_ (fun K hK=> ?_);(· kernel_rfl);go_simp;with_reducible refine hK _ ?_;clear hK K)
     iterate 4 (with_reducible refine q0p ?_ (fun K hK=> ?_);(· kernel_rfl);go_simp;with_reducible refine hK _ ?_;clear hK K)
     with_reducible refine wpStill_nil ?_
     change wpList _ _ _ _ _ W.drew;generalize W.drew=W2 at BD CF ⊢;go_wp2_with fail;go_meet;exact⟨by rw[HT.out],BD.out⟩
    ·by_cases b2:0<lv
     ·by_cases b3:x.1=low
      ·have HT:=hid (show badN lv low fi l k=true by rw[I.out,show t1N lv low x=true by unfold t1N;simp[b2,b3]];rfl);have hh:(x.1==low)=true:=by simpa using b3
       clear b3;refine wp_region_still_tail 40 (by kernel_rfl) (by kernel_rfl) ?_;simp only[List.take_succ_cons,List.take_zero,List.drop_succ_cons,List.drop_zero];iterate 15 (with_reducible refine q0j ?_ (fun K hK=> ?_);(· kernel_rfl);go_simp;with_reducible refine hK _ ?_;clear hK K)
       iterate 13 (with_reducible refine q0p ?_ (fun K hK=> ?_);(· kernel_rfl);go_simp;with_reducible refine hK _ ?_;clear hK K)
       iterate 2 (with_reducible refine q0j ?_ (fun K hK=> ?_);(· kernel_rfl);go_simp;with_reducible refine hK _ ?_;clear hK K)
       iterate 4 (with_reducible refine q0p ?_ (fun K hK=> ?_);(· kernel_rfl);go_simp;with_reducible refine hK _ ?_;clear hK K)
       iterate 2 (with_reducible refine q0j ?_ (fun K hK=> ?_);(· kernel_rfl);go_simp;with_reducible refine hK _ ?_;clear hK K)
       iterate 4 (with_reducible refine q0p ?_ (fun K hK=> ?_);(· kernel_rfl);go_simp;with_reducible refine hK _ ?_;clear hK K)
       with_reducible refine wpStill_nil ?_
       change wpList _ _ _ _ _ W.drew;generalize W.drew=W2 at BD CF ⊢;go_wp2_with fail;go_meet;exact⟨by rw[HT.out],BD.out⟩
      ·have Y:=hid (show t1N lv low x=false by unfold t1N;simp[decide_eq_false b1,decide_eq_false b3]);have hh:(x.1==low)=false:=by simpa using b3
       clear b3;by_cases b4:0<k
       ·obtain⟨m,hm⟩:∃m,m=k-1:=⟨_,rfl⟩;have d5:(m:Int)< (q:Int):=by omega
        have d6:(0:Int)<=(m:Int):=by omega
        have dw:IntKind.i64.wrap ((k:Int)-1)=(m:Int):=by rw[IntWalk.i64_in _ (by omega)];omega
        obtain⟨y,hy⟩:∃y,l[m]?=some y:=⟨_,AD (by have:=O.out;have:=HQ.out;omega)⟩;have c3:W.cell? ⟨g,off+m*2,none⟩=some (.int .u64 y.1):=(HB.out W h7.out m y hy).1;have H2:=hid (show t2N fi l x k=(decide (x.1<=y.1) || decide (x.2=fi)) by unfold t2N;rw[<- hm,getD_some hy];simp[b4]);clear hy hm;by_cases b5:x.1<=y.1
        ·have HT:=hid (show badN lv low fi l k=true by rw[I.out,H2.out,AT b5];simp);refine wp_region_still_tail 40 (by kernel_rfl) (by kernel_rfl) ?_;simp only[List.take_succ_cons,List.take_zero,List.drop_succ_cons,List.drop_zero];iterate 30 (with_reducible refine q0j ?_ (fun K hK=> ?_);(· kernel_rfl);go_simp;with_reducible refine hK _ ?_;clear hK K)
         iterate 4 (with_reducible refine q0p ?_ (fun K hK=> ?_);(· kernel_rfl);go_simp;with_reducible refine hK _ ?_;clear hK K)
         iterate 2 (with_reducible refine q0j ?_ (fun K hK=> ?_);(· kernel_rfl);go_simp;with_reducible refine hK _ ?_;clear hK K)
         iterate 4 (with_reducible refine q0p ?_ (fun K hK=> ?_);(· kernel_rfl);go_simp;with_reducible refine hK _ ?_;clear hK K)
         with_reducible refine wpStill_nil ?_
         change wpList _ _ _ _ _ W.drew;generalize W.drew=W2 at BD CF ⊢;go_wp2_with fail;go_meet;exact⟨by rw[HT.out],BD.out⟩
        ·by_cases b6:x.2=fi
         ·have HT:=hid (show badN lv low fi l k=true by rw[I.out,H2.out,AT b6];simp);have S:(x.2==fi)=true:=by simpa using b6
          clear b6;refine wp_region_still_tail 40 (by kernel_rfl) (by kernel_rfl) ?_;simp only[List.take_succ_cons,List.take_zero,List.drop_succ_cons,List.drop_zero];iterate 36 (with_reducible refine q0j ?_ (fun K hK=> ?_);(· kernel_rfl);go_simp;with_reducible refine hK _ ?_;clear hK K)
          iterate 4 (with_reducible refine q0p ?_ (fun K hK=> ?_);(· kernel_rfl);go_simp;with_reducible refine hK _ ?_;clear hK K)
          with_reducible refine wpStill_nil ?_
          change wpList _ _ _ _ _ W.drew;generalize W.drew=W2 at BD CF ⊢;go_wp2_with fail;go_meet;exact⟨by rw[HT.out],BD.out⟩
         ·have HT:=hid (show badN lv low fi l k=(l.take k).any fun y=>decide (y.2=x.2) by rw[I.out,Y.out,H2.out,AK b5,AK b6];rfl);have S:(x.2==fi)=false:=by simpa using b6
          clear b6;refine wp_region_still_tail 40 (by kernel_rfl) (by kernel_rfl) ?_;simp only[List.take_succ_cons,List.take_zero,List.drop_succ_cons,List.drop_zero];iterate 40 (with_reducible refine q0j ?_ (fun K hK=> ?_);(· kernel_rfl);go_simp;with_reducible refine hK _ ?_;clear hK K)
          with_reducible refine wpStill_nil ?_
          change wpList _ _ _ _ _ W.drew;generalize W.drew=W2 at BD CF ⊢;go_wp2_with fail;refine CF.out.mono ?_;rintro e w3 ⟨rfl,L⟩;have M:=hid (BD.out.trans (L.mono BD.out.size));clear L;go_wp2_with fail;go_meet;exact⟨by rw[HT.out],M.out⟩
       ·obtain rfl:k=0:=by omega
        by_cases b6:x.2=fi
        ·have HT:=hid (show badN lv low fi l 0=true by rw[I.out,show t2N fi l x 0=true by unfold t2N;simp[b6]];simp);have S:(x.2==fi)=true:=by simpa using b6
         clear b6;refine wp_region_still_tail 40 (by kernel_rfl) (by kernel_rfl) ?_;simp only[List.take_succ_cons,List.take_zero,List.drop_succ_cons,List.drop_zero];iterate 18 (with_reducible refine q0j ?_ (fun K hK=> ?_);(· kernel_rfl);go_simp;with_reducible refine hK _ ?_;clear hK K)
         iterate 9 (with_reducible refine q0p ?_ (fun K hK=> ?_);(· kernel_rfl);go_simp;with_reducible refine hK _ ?_;clear hK K)
         iterate 9 (with_reducible refine q0j ?_ (fun K hK=> ?_);(· kernel_rfl);go_simp;with_reducible refine hK _ ?_;clear hK K)
         iterate 4 (with_reducible refine q0p ?_ (fun K hK=> ?_);(· kernel_rfl);go_simp;with_reducible refine hK _ ?_;clear hK K)
         with_reducible refine wpStill_nil ?_
         change wpList _ _ _ _ _ W.drew;generalize W.drew=W2 at BD CF ⊢;go_wp2_with fail;go_meet;exact⟨by rw[HT.out],BD.out⟩
        ·have HT:=hid (show badN lv low fi l 0=(l.take 0).any fun y=>decide (y.2=x.2) by rw[I.out,Y.out,show t2N fi l x 0=false by unfold t2N;simp[b6]];rfl);have S:(x.2==fi)=false:=by simpa using b6
         clear b6;refine wp_region_still_tail 40 (by kernel_rfl) (by kernel_rfl) ?_;simp only[List.take_succ_cons,List.take_zero,List.drop_succ_cons,List.drop_zero];iterate 18 (with_reducible refine q0j ?_ (fun K hK=> ?_);(· kernel_rfl);go_simp;with_reducible refine hK _ ?_;clear hK K)
         iterate 9 (with_reducible refine q0p ?_ (fun K hK=> ?_);(· kernel_rfl);go_simp;with_reducible refine hK _ ?_;clear hK K)
         iterate 13 (with_reducible refine q0j ?_ (fun K hK=> ?_);(· kernel_rfl);go_simp;with_reducible refine hK _ ?_;clear hK K)
         with_reducible refine wpStill_nil ?_
         change wpList _ _ _ _ _ W.drew;generalize W.drew=W2 at BD CF ⊢;go_wp2_with fail;refine CF.out.mono ?_;rintro e w3 ⟨rfl,L⟩;have M:=hid (BD.out.trans (L.mono BD.out.size));clear L;go_wp2_with fail;go_meet;exact⟨by rw[HT.out,Cp];rfl,M.out⟩
     ·have Y:=hid (show t1N lv low x=false by unfold t1N;simp[decide_eq_false b1,decide_eq_false b2]);by_cases b4:0<k
      ·obtain⟨m,hm⟩:∃m,m=k-1:=⟨_,rfl⟩;have d5:(m:Int)< (q:Int):=by omega
       have d6:(0:Int)<=(m:Int):=by omega
       have dw:IntKind.i64.wrap ((k:Int)-1)=(m:Int):=by rw[IntWalk.i64_in _ (by omega)];omega
       obtain⟨y,hy⟩:∃y,l[m]?=some y:=⟨_,AD (by have:=O.out;have:=HQ.out;omega)⟩;have c3:W.cell? ⟨g,off+m*2,none⟩=some (.int .u64 y.1):=(HB.out W h7.out m y hy).1;have H2:=hid (show t2N fi l x k=(decide (x.1<=y.1) || decide (x.2=fi)) by unfold t2N;rw[<- hm,getD_some hy];simp[b4]);clear hy hm;by_cases b5:x.1<=y.1
       ·have HT:=hid (show badN lv low fi l k=true by rw[I.out,H2.out,AT b5];simp);refine wp_region_still_tail 40 (by kernel_rfl) (by kernel_rfl) ?_;simp only[List.take_succ_cons,List.take_zero,List.drop_succ_cons,List.drop_zero];iterate 8 (with_reducible refine q0j ?_ (fun K hK=> ?_);(· kernel_rfl);go_simp;with_reducible refine hK _ ?_;clear hK K)
        iterate 4 (with_reducible refine q0p ?_ (fun K hK=> ?_);(· kernel_rfl);go_simp;with_reducible refine hK _ ?_;clear hK K)
        iterate 18 (with_reducible refine q0j ?_ (fun K hK=> ?_);(· kernel_rfl);go_simp;with_reducible refine hK _ ?_;clear hK K)
        iterate 4 (with_reducible refine q0p ?_ (fun K hK=> ?_);(· kernel_rfl);go_simp;with_reducible refine hK _ ?_;clear hK K)
        iterate 2 (with_reducible refine q0j ?_ (fun K hK=> ?_);(· kernel_rfl);go_simp;with_reducible refine hK _ ?_;clear hK K)
        iterate 4 (with_reducible refine q0p ?_ (fun K hK=> ?_);(· kernel_rfl);go_simp;with_reducible refine hK _ ?_;clear hK K)
        with_reducible refine wpStill_nil ?_
        change wpList _ _ _ _ _ W.drew;generalize W.drew=W2 at BD CF ⊢;go_wp2_with fail;go_meet;exact⟨by rw[HT.out],BD.out⟩
       ·by_cases b6:x.2=fi
        ·have HT:=hid (show badN lv low fi l k=true by rw[I.out,H2.out,AT b6];simp);have S:(x.2==fi)=true:=by simpa using b6
         clear b6;refine wp_region_still_tail 40 (by kernel_rfl) (by kernel_rfl) ?_;simp only[List.take_succ_cons,List.take_zero,List.drop_succ_cons,List.drop_zero];iterate 8 (with_reducible refine q0j ?_ (fun K hK=> ?_);(· kernel_rfl);go_simp;with_reducible refine hK _ ?_;clear hK K)
         iterate 4 (with_reducible refine q0p ?_ (fun K hK=> ?_);(· kernel_rfl);go_simp;with_reducible refine hK _ ?_;clear hK K)
         iterate 24 (with_reducible refine q0j ?_ (fun K hK=> ?_);(· kernel_rfl);go_simp;with_reducible refine hK _ ?_;clear hK K)
         iterate 4 (with_reducible refine q0p ?_ (fun K hK=> ?_);(· kernel_rfl);go_simp;with_reducible refine hK _ ?_;clear hK K)
         with_reducible refine wpStill_nil ?_
         change wpList _ _ _ _ _ W.drew;generalize W.drew=W2 at BD CF ⊢;go_wp2_with fail;go_meet;exact⟨by rw[HT.out],BD.out⟩
        ·have HT:=hid (show badN lv low fi l k=(l.take k).any fun y=>decide (y.2=x.2) by rw[I.out,Y.out,H2.out,AK b5,AK b6];rfl);have S:(x.2==fi)=false:=by simpa using b6
         clear b6;refine wp_region_still_tail 40 (by kernel_rfl) (by kernel_rfl) ?_;simp only[List.take_succ_cons,List.take_zero,List.drop_succ_cons,List.drop_zero];iterate 8 (with_reducible refine q0j ?_ (fun K hK=> ?_);(· kernel_rfl);go_simp;with_reducible refine hK _ ?_;clear hK K)
         iterate 4 (with_reducible refine q0p ?_ (fun K hK=> ?_);(· kernel_rfl);go_simp;with_reducible refine hK _ ?_;clear hK K)
         iterate 28 (with_reducible refine q0j ?_ (fun K hK=> ?_);(· kernel_rfl);go_simp;with_reducible refine hK _ ?_;clear hK K)
         with_reducible refine wpStill_nil ?_
         change wpList _ _ _ _ _ W.drew;generalize W.drew=W2 at BD CF ⊢;go_wp2_with fail;refine CF.out.mono ?_;rintro e w3 ⟨rfl,L⟩;have M:=hid (BD.out.trans (L.mono BD.out.size));clear L;go_wp2_with fail;go_meet;exact⟨by rw[HT.out],M.out⟩
      ·obtain rfl:k=0:=by omega
       by_cases b6:x.2=fi
       ·have HT:=hid (show badN lv low fi l 0=true by rw[I.out,show t2N fi l x 0=true by unfold t2N;simp[b6]];simp);have S:(x.2==fi)=true:=by simpa using b6
        clear b6;refine wp_region_still_tail 40 (by kernel_rfl) (by kernel_rfl) ?_;simp only[List.take_succ_cons,List.take_zero,List.drop_succ_cons,List.drop_zero];iterate 8 (with_reducible refine q0j ?_ (fun K hK=> ?_);(· kernel_rfl);go_simp;with_reducible refine hK _ ?_;clear hK K)
        iterate 4 (with_reducible refine q0p ?_ (fun K hK=> ?_);(· kernel_rfl);go_simp;with_reducible refine hK _ ?_;clear hK K)
        iterate 6 (with_reducible refine q0j ?_ (fun K hK=> ?_);(· kernel_rfl);go_simp;with_reducible refine hK _ ?_;clear hK K)
        iterate 9 (with_reducible refine q0p ?_ (fun K hK=> ?_);(· kernel_rfl);go_simp;with_reducible refine hK _ ?_;clear hK K)
        iterate 9 (with_reducible refine q0j ?_ (fun K hK=> ?_);(· kernel_rfl);go_simp;with_reducible refine hK _ ?_;clear hK K)
        iterate 4 (with_reducible refine q0p ?_ (fun K hK=> ?_);(· kernel_rfl);go_simp;with_reducible refine hK _ ?_;clear hK K)
        with_reducible refine wpStill_nil ?_
        change wpList _ _ _ _ _ W.drew;generalize W.drew=W2 at BD CF ⊢;go_wp2_with fail;go_meet;exact⟨by rw[HT.out],BD.out⟩
       ·have HT:=hid (show badN lv low fi l 0=(l.take 0).any fun y=>decide (y.2=x.2) by rw[I.out,Y.out,show t2N fi l x 0=false by unfold t2N;simp[b6]];rfl);have S:(x.2==fi)=false:=by simpa using b6
        clear b6;refine wp_region_still_tail 40 (by kernel_rfl) (by kernel_rfl) ?_;simp only[List.take_succ_cons,List.take_zero,List.drop_succ_cons,List.drop_zero];iterate 8 (with_reducible refine q0j ?_ (fun K hK=> ?_);(· kernel_rfl);go_simp;with_reducible refine hK _ ?_;clear hK K)
        iterate 4 (with_reducible refine q0p ?_ (fun K hK=> ?_);(· kernel_rfl);go_simp;with_reducible refine hK _ ?_;clear hK K)
        iterate 6 (with_reducible refine q0j ?_ (fun K hK=> ?_);(· kernel_rfl);go_simp;with_reducible refine hK _ ?_;clear hK K)
        iterate 9 (with_reducible refine q0p ?_ (fun K hK=> ?_);(· kernel_rfl);go_simp;with_reducible refine hK _ ?_;clear hK K)
        iterate 13 (with_reducible refine q0j ?_ (fun K hK=> ?_);(· kernel_rfl);go_simp;with_reducible refine hK _ ?_;clear hK K)
        with_reducible refine wpStill_nil ?_
        change wpList _ _ _ _ _ W.drew;generalize W.drew=W2 at BD CF ⊢;go_wp2_with fail;refine CF.out.mono ?_;rintro e w3 ⟨rfl,L⟩;have M:=hid (BD.out.trans (L.mono BD.out.size));clear L;go_wp2_with fail;go_meet;exact⟨by rw[HT.out,Cp];rfl,M.out⟩
   case rest=>
    obtain⟨rfl,ha⟩:=hcut;obtain⟨b,hb⟩:∃b,b=badN lv low fi l k:=⟨_,rfl⟩;rw[<- hb];have h4:=hid hb;clear hb d0 d1 CF BD;cases b
    ·go_wp2;go_roundw
     case rel=>
      refine⟨k+1,O.out,by go_num,ha,fun i hi=> ?_⟩;by_cases hik:i=k;·subst hik;exact h4.out.symm
      ·exact h3.out i (by omega)
     case measure=>simp[intOf];have:=O.out;omega
    ·go_wp2;go_ret;exact⟨by rw[z5u (by rw[<- HQ.out];exact O.out) h4.out.symm];rfl,ha.out⟩
  ·obtain rfl:k=q:=by omega
   have i1: ¬(k:Int)< (k:Int):=by omega
   clear hlt hk;go_wp2;go_ret;exact⟨by rw[x2b (by rw[<- HQ.out];exact h3.out)];rfl,hI.out⟩
end
section
attribute [local go_sem ↓ high] q0s q0f q0d q2c q0v
attribute [local go_sem] q1x q1p q1v Oper.semAt_some q0h
theorem v8q (n:NodeA) (I:Int) (has:Bool) (w:World):
  Calls Tryz.prog 206 #[.agg (q0x n),.int .u64 I,.bool has] w fun e W'=>e= .returned (.bool (mayN n I has))/\Below w.heap.size w W':=by
 obtain⟨W1,h7,k1,h8⟩:=q8w n w;have he:=q2j k1;have HP:=hid (x1v n W1);have HW:=hid h7;have HK:=hid (⟨k1,h8⟩:_/\_);clear k1 h8 h7;go_enter Tryz.func206,Tryz.ntmps206;go_upto_region 1 with fail;rw[<- HW.out];go_wp2_with fail;refine HP.out.mono ?_;rintro e w2 ⟨v,rfl,L,h4⟩;have h6:=q1l.of_own L;have O:=x3i.of_own L;have LN:=hid (v8e n w2);have kb:=HK.out.1.bel h4;have M:=hid (HK.out.2.trans (h4.mono HK.out.2.size));have h5:=q2j kb;have c0:w2.cell? ⟨w.heap.size,0,none⟩=some (.int .i64 n.lv):=kb.cell 0;have c1:w2.cell? ⟨w.heap.size,1,none⟩=some (.int .u64 n.low):=kb.cell 1;have c4:w2.cell? ⟨w.heap.size,4,none⟩=some (.int .u64 n.fi):=kb.cell 4;have RI:=hid (fun W hb=>v6k n.lv n.low n.fi v (q0r n) W (h6.bel hb) (q3j n) O);have HB:=hid (fun(W:World) (hb:Below w2.heap.size w2 W)=>kb.bel hb);obtain⟨va,vc,rfl,hf⟩:=h6;obtain⟨q,hq⟩:∃q,q=(q0r n).length:=⟨_,rfl⟩;have hi:q<=8:=by rw[hq];exact q3j n
 have HM:=hid (show mayN n I has=(!mayA n I has&&decide (lenN n<=q+1)&&z3s n.lv n.low n.fi (q0r n)) by rw[hq];rfl);rw[<- hq] at RI ⊢;have hg:=q5d n;clear L h4 hf hq he kb O HW HP;by_cases b1:n.lv<0
 ·have d1: ¬(0:Int)<=n.lv:=by omega
  have HA:=hid (show mayA n I has=true by unfold mayA;simp[b1]);clear b1;go_wp2;go_ret;exact⟨by rw[HM.out,HA.out];rfl,M.out⟩
 ·have d1:(0:Int)<=n.lv:=by omega
  by_cases b2:15<n.lv
  ·have d2: ¬n.lv<=15:=by omega
   have HA:=hid (show mayA n I has=true by unfold mayA;simp[b2]);clear b1 b2;go_wp2;go_ret;exact⟨by rw[HM.out,HA.out];rfl,M.out⟩
  ·have d2:n.lv<=15:=by omega
   by_cases b3:n.fi=0
   ·have d3:(n.fi !=0)=false:=by simpa using b3
    have HA:=hid (show mayA n I has=true by unfold mayA;simp[b3]);clear b1 b2 b3;go_wp2;go_ret;exact⟨by rw[HM.out,HA.out];rfl,M.out⟩
   ·have d3:(n.fi !=0)=true:=by simpa using b3
    have HA:=hid (show mayA n I has=(has&&decide (I<=n.low)) by unfold mayA;rw[AK b1,AK b2,AK b3];rfl);clear b1 b2 b3;go_wp2_with fail;refine LN.out.mono ?_;rintro e w3 ⟨rfl,S⟩;have k3:=HB.out w3 S;clear c0 c1 c4 h5;have c0:w3.cell? ⟨w.heap.size,0,none⟩=some (.int .i64 n.lv):=k3.cell 0;have c1:w3.cell? ⟨w.heap.size,1,none⟩=some (.int .u64 n.low):=k3.cell 1;have c4:w3.cell? ⟨w.heap.size,4,none⟩=some (.int .u64 n.fi):=k3.cell 4;have h9:=hid (RI.out w3 S);have h1:=hid (M.out.trans (S.mono M.out.size));have ha:=hid k3;clear S k3 RI;by_cases b4:lenN n<=q+1
    ·have d4:(lenN n:Int)- (q:Int)<=1:=by omega
     have H4:=hid b4;clear b4;go_wp2_with fail;refine h9.out.mono ?_;rintro e w4 ⟨rfl,h2⟩;have Y:=hid (h1.out.trans (h2.mono h1.out.size));have hh:w4.cell? ⟨w.heap.size,1,none⟩=some (.int .u64 n.low):=(ha.out.bel h2).cell 1;clear h2 c0 c1 c4;obtain⟨b5,h3⟩:∃b5,b5=z3s n.lv n.low n.fi (q0r n):=⟨_,rfl⟩;rw[<- h3];have U:=hid (show mayN n I has=(!(has&&decide (I<=n.low))&&b5) by rw[HM.out,HA.out,AT H4.out,h3];simp);clear h3;cases b5;·go_wp2;go_ret;exact⟨by rw[U.out,Bool.and_false];rfl,Y.out⟩
     ·cases has;·go_wp2;go_ret;exact⟨by rw[U.out];rfl,Y.out⟩
      ·by_cases b6:n.low<I;·have H6:=hid b6;go_wp2;go_ret;exact⟨by rw[U.out,AK (show ¬I<=n.low by have:=H6.out;omega)];rfl,Y.out⟩
       ·have H6:=hid b6;go_wp2;go_ret;refine⟨?_,Y.out⟩;show Ending.returned (.bool (decide (n.low<I)))=_;rw[U.out,AT (show I<=n.low by have:=H6.out;omega),AK (show ¬n.low<I by have:=H6.out;omega)];rfl
    ·have d4: ¬(lenN n:Int)- (q:Int)<=1:=by omega
     have H4:=hid b4;clear b4;go_wp2;go_ret;exact⟨by rw[HM.out,AK H4.out,Bool.and_false];rfl,h1.out⟩
end
end Go.Proofs.YtibiekfjbibpbaaGreat
