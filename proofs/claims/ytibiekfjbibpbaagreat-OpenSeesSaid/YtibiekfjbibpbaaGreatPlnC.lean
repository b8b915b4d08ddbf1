import Derived.Test.YtibiekfjbibpbaaGreatNodN
import Derived.Test.YtibiekfjbibpbaaGreatSupM
set_option linter.unusedVariables false
set_option linter.unusedSimpArgs false
namespace Go.Proofs.YtibiekfjbibpbaaGreat
open Go.RowKit
def wdI (bs:List Int) (a:Int):Int:=leW ((bs.drop a.toNat).take 8)
def clsI (bs:List Int) (a:Int):Int:=
 if q1q a=0\/q0w bs.length<q1q a then 0
 else if q1u bs (q1q a).toNat<=3/\idxB a (q1u bs (q1q a).toNat:Nat)=true then(q1u bs (q1q a).toNat:Nat) else 0
def q2p (bs:List Int) (a:Int):Nat->Int:=fun i=>wdI bs (a+8*i)
def q1y (bs:List Int) (a:Int):Option NodeA:=if clsI bs a=3/\tagN<=wdI bs a/\wdI bs a<=tagN+15 then some (q5t (q2p bs a)) else none
def x3p:Option Int->Int->Prop
 | none,l=>l=0
 | some p,l=>p<l
def q0a (nd:Int->Option NodeA) (lv:Int):Option Int->Int->List (Int×NodeA)->Prop
 | _,a,[]=>a=0
 | prev,a,x::r=>a≠0/\x.1=a/\nd a=some x.2/\x.2.lv=lv/\(lv=0->x.2.fi=a)/\x3p prev x.2.low/\q0a nd lv (some x.2.low) x.2.nx r
theorem q0a.det {nd:Int->Option NodeA} {lv:Int}:∀{r r':List (Int×NodeA)} {I:Option Int} {a:Int},q0a nd lv I a r->q0a nd lv I a r'->r=r'
 | [],[],_,_,_,_=>rfl
 | [],y::r',_,_,h,h'=>absurd h h'.1
 | x::r,[],_,_,h,h'=>absurd h' h.1
 | x::r,y::r',_,_,h,h'=>by obtain⟨_,h1,h2,_,_,_,h3⟩:=h;obtain⟨_,k1,k2,_,_,_,k3⟩:=h';have e:x.2=y.2:=Aw (h2.symm.trans k2);have e2:x=y:=Prod.ext (h1.trans k1.symm) e;subst e2;rw[q0a.det h3 k3]
structure q1e (nd:Int->Option NodeA) (lv a0:Int) (pre:List (Int×NodeA)) (prev:Option Int) (a:Int):Prop where
 iff:∀r,q0a nd lv none a0 r↔ ∃r',r=pre++r'/\q0a nd lv prev a r'
 last:prev=pre.getLast?.map (·.2.low)
 at':∀x∈pre,x.1≠0/\nd x.1=some x.2/\x.2.lv=lv
 low:∀x∈pre,∃p,prev=some p/\x.2.low<=p
 rise:pre.Pairwise fun x y=>x.2.low<y.2.low
theorem q1e.start (nd:Int->Option NodeA) (lv a0:Int):q1e nd lv a0 [] none a0:=⟨fun r=>⟨fun h=>⟨r,rfl,h⟩,fun⟨r',h1,h2⟩=>by subst h1;exact h2⟩,rfl,fun _ h=>(by cases h),fun _ h=>(by cases h),List.Pairwise.nil⟩
theorem q1e.next {nd:Int->Option NodeA} {lv a0:Int} {pre:List (Int×NodeA)} {I:Option Int} {a:Int} {n:NodeA} (h:q1e nd lv a0 pre I a) (h0:a≠0) (hn:nd a=some n) (hl:n.lv=lv) (hf:lv=0->n.fi=a) (hp:x3p I n.low):q1e nd lv a0 (pre++[(a,n)]) (some n.low) n.nx:=by
 have hlt:∀x∈pre,x.2.low<n.low:=by intro x hx;obtain⟨p,h1,h2⟩:=h.low x hx;rw[h1] at hp;have:p<n.low:=hp;omega
 refine⟨fun r=> ?_,by simp,fun x hx=> ?_,fun x hx=> ?_,?_⟩
 ·rw[h.iff];constructor
  ·rintro⟨r',rfl,h2⟩;cases r' with
   | nil=>exact absurd h2 h0
   | cons y r'=>obtain⟨_,k1,k2,_,_,_,k3⟩:=h2;have e:y.2=n:=Aw (k2.symm.trans hn);have e2:y=(a,n):=Prod.ext k1 e;subst e2;exact⟨r',by simp,k3⟩
  ·rintro⟨r',rfl,h2⟩;exact⟨(a,n)::r',by simp,h0,rfl,hn,hl,hf,hp,h2⟩
 ·rcases An.1 hx with hx|hx;·exact h.at' x hx
  ·rw[AF.1 hx];exact⟨h0,hn,hl⟩
 ·rcases An.1 hx with hx|hx;·exact⟨_,rfl,Int.le_of_lt (hlt x hx)⟩
  ·rw[AF.1 hx];exact⟨_,rfl,Int.le_refl _⟩
 ·rw[CE];exact⟨h.rise,List.pairwise_singleton _ _,fun x hx y hy=>by rw[AF.1 hy];exact hlt x hx⟩
theorem q1e.done {nd:Int->Option NodeA} {lv a0:Int} {pre:List (Int×NodeA)} {I:Option Int} (h:q1e nd lv a0 pre I 0):q0a nd lv none a0 pre:=(h.iff pre).2 ⟨[],by simp,rfl⟩
theorem q1e.no {nd:Int->Option NodeA} {lv a0:Int} {pre:List (Int×NodeA)} {I:Option Int} {a:Int} (h:q1e nd lv a0 pre I a) (h0:a≠0) (hn:∀n,nd a=some n->n.lv=lv->(lv=0->n.fi=a)-> ¬x3p I n.low):∀r,¬q0a nd lv none a0 r:=by
 intro r hr;obtain⟨r',rfl,h2⟩:=(h.iff r).1 hr;cases r' with
 | nil=>exact h0 h2
 | cons y r'=>obtain⟨_,k1,k2,k3,k4,k5,_⟩:=h2;exact hn _ k2 k3 k4 k5
theorem q1e.dup {nd:Int->Option NodeA} {lv a0:Int} {pre:List (Int×NodeA)} {I:Option Int} {a:Int} (h:q1e nd lv a0 pre I a) (hd:a∈pre.map (·.1)):∀r,¬q0a nd lv none a0 r:=by obtain⟨x,hx,rfl⟩:=Aj.1 hd;obtain⟨h0,h1,_⟩:=h.at' x hx;refine h.no h0 fun n hn _ _ hp=> ?_;obtain⟨p,hq,L⟩:=h.low x hx;rw[h1] at hn;injection hn with hn;subst hn;rw[hq] at hp;have:p<x.2.low:=hp;omega
theorem q0a.to {nd:Int->Option NodeA} {lv:Int}:∀{r:List (Int×NodeA)} {I:Option Int} {a a0:Int} {pre:List (Int×NodeA)},q0a nd lv I a r->q1e nd lv a0 pre I a-> ∃p,q1e nd lv a0 (pre++r) p 0
 | [],I,a,a0,pre,h,ht=>by have h':a=0:=h;subst h';exact⟨_,by rw[Bx];exact ht⟩
 | x::r,I,a,a0,pre,h,ht=>by obtain⟨h0,h1,h2,h3,h4,h5,h6⟩:=h;obtain⟨p,hp⟩:=q0a.to h6 (ht.next h0 h2 h3 h4 h5);refine⟨p,?_⟩;have e:x=(a,x.2):=Prod.ext h1 rfl;rw[BB,CC,<- e] at hp;exact hp
theorem q0a.whole {nd:Int->Option NodeA} {lv a0:Int} {r:List (Int×NodeA)} (h:q0a nd lv none a0 r):∃p,q1e nd lv a0 r p 0:=by obtain⟨p,hp⟩:=h.to (q1e.start nd lv a0);exact⟨p,by rwa[Bi] at hp⟩
theorem q1e.nodup {nd:Int->Option NodeA} {lv a0:Int} {pre:List (Int×NodeA)} {I:Option Int} {a:Int} (h:q1e nd lv a0 pre I a):(pre.map (·.1)).Nodup:=by unfold List.Nodup;rw[CI];have hr:=h.rise;have ha:=h.at';refine DN ?_ hr;intro x y hx hy hlt e;have h1:=(ha x hx).2.1;have h2:=(ha y hy).2.1;rw[e,h2] at h1;injection h1 with h1;rw[h1] at hlt;omega
def q2a (row:List (Int×NodeA)) (i:Nat):Int:=((row[i+1]?).map (·.2.low)).getD 0
def hasI (row:List (Int×NodeA)) (i:Nat):Bool:=decide (i+1<row.length)
def actI (row:List (Int×NodeA)) (i:Nat):List (Int×Int):=q1n ((row[i]?).map (·.2) |>.getD q2w) (q2a row i) (hasI row i)
def q9f (row:List (Int×NodeA)):Prop:= ∀i x,row[i]?=some x->mayN x.2 (q2a row i) (hasI row i)=true
def z6w (row:List (Int×NodeA)) (i:Nat):List (Int×Int):=((row[i]?).map fun x=>(x.2.low,x.2.fi)).toList++actI row i
def hitI (down:List (Int×NodeA)) (e:Int×Int):Prop:= ∃y∈down,y.1=e.2/\y.2.low=e.1
def q4c (up down:List (Int×NodeA)):Prop:= ∀i,i<up.length-> ∀e∈z6w up i,hitI down e
def q3f (nd:Int->Option NodeA):Int->Int->Option (List (Int×NodeA))->List (List (Int×NodeA))->Prop
 | _,_,_,[]=>False
 | lv,first,up,row::rest=>q0a nd lv none first row/\q9f row/\(∀u,up=some u->q4c u row)/\(if lv=0 then rest=[] else ∃x r,row=x::r/\q3f nd (lv-1) x.2.fi (some row) rest)
theorem q3f.det {nd:Int->Option NodeA}:∀{l l':List (List (Int×NodeA))} {lv first:Int} {up:Option (List (Int×NodeA))},q3f nd lv first up l->q3f nd lv first up l'->l=l'
 | [],_,_,_,_,h,_=>h.elim
 | _::_,[],_,_,_,_,h=>h.elim
 | row::rest,row'::rest',lv,first,up,h,h'=>by
  obtain⟨h1,_,_,h2⟩:=h;obtain⟨k1,_,_,k2⟩:=h';have e:=q0a.det h1 k1;subst e;by_cases h0:lv=0;·rw[if_pos h0] at h2 k2;rw[h2,k2]
  ·rw[if_neg h0] at h2 k2;obtain⟨x,r,e1,h3⟩:=h2;obtain⟨x',r',e2,k3⟩:=k2;rw[e1] at e2;injection e2 with e2 e3;subst e2;rw[q3f.det h3 k3]
end Go.Proofs.YtibiekfjbibpbaaGreat
