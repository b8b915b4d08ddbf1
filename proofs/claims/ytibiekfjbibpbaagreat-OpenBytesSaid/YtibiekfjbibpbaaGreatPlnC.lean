/- Chains of nodes in an image, plainly. -/
import Derived.Test.YtibiekfjbibpbaaGreatNodN
import Derived.Test.YtibiekfjbibpbaaGreatGeoN
import Derived.Test.YtibiekfjbibpbaaGreatBaseC
import Derived.Test.YtibiekfjbibpbaaGreatSupM
set_option linter.unusedVariables false
set_option linter.unusedSimpArgs false
namespace Go.Proofs.YtibiekfjbibpbaaGreat
open Go.RowKit
def wdI (bs:List Int) (a:Int):Int:=leW ((bs.drop a.toNat).take 8)
def clsI (bs:List Int) (a:Int):Int:=
 if slabZ a=0∨slabsZ bs.length<slabZ a then 0
 else if clsAt bs (slabZ a).toNat≤3∧idxB a (clsAt bs (slabZ a).toNat:Nat)=true then(clsAt bs (slabZ a).toNat:Nat) else 0
def nodeF (bs:List Int) (a:Int):Nat→Int:=fun i=>wdI bs (a+8*i)
def nodeI (bs:List Int) (a:Int):Option NodeA:=if clsI bs a=3∧tagN≤wdI bs a∧wdI bs a≤tagN+15 then some (nodeOf (nodeF bs a)) else none
def lowOK:Option Int→Int→Prop
 | none,l=>l=0
 | some p,l=>p<l
def ChainAt (nd:Int→Option NodeA) (lv:Int):Option Int→Int→List (Int×NodeA)→Prop
 | _,a,[]=>a=0
 | prev,a,x::r=>a≠0∧x.1=a∧nd a=some x.2∧x.2.lv=lv∧(lv=0→x.2.fi=a)∧lowOK prev x.2.low∧ChainAt nd lv (some x.2.low) x.2.nx r
theorem ChainAt.det {nd:Int→Option NodeA} {lv:Int}: ∀{r r':List (Int×NodeA)} {prev:Option Int} {a:Int},ChainAt nd lv prev a r→ChainAt nd lv prev a r'→r=r'
 | [],[],_,_,_,_=>rfl
 | [],y::r',_,_,h,h'=>absurd h h'.1
 | x::r,[],_,_,h,h'=>absurd h' h.1
 | x::r,y::r',_,_,h,h'=>by
  obtain⟨_,h1,h2,_,_,_,h3⟩:=h
  obtain⟨_,k1,k2,_,_,_,k3⟩:=h'
  have e:x.2=y.2:=Option.some.inj (h2.symm.trans k2)
  have e2:x=y:=Prod.ext (h1.trans k1.symm) e
  subst e2
  rw[ChainAt.det h3 k3]
structure ChainTo (nd:Int→Option NodeA) (lv a0:Int) (pre:List (Int×NodeA)) (prev:Option Int) (a:Int):Prop where
 iff: ∀r,ChainAt nd lv none a0 r↔ ∃r',r=pre++r'∧ChainAt nd lv prev a r'
 last:prev=pre.getLast?.map (·.2.low)
 at': ∀x∈pre,x.1≠0∧nd x.1=some x.2∧x.2.lv=lv
 low: ∀x∈pre,∃p,prev=some p∧x.2.low≤p
 rise:pre.Pairwise fun x y=>x.2.low<y.2.low
theorem ChainTo.start (nd:Int→Option NodeA) (lv a0:Int):ChainTo nd lv a0 [] none a0:=
 ⟨fun r=>⟨fun h=>⟨r,rfl,h⟩,fun⟨r',h1,h2⟩=>by subst h1;exact h2⟩,rfl,fun _ h=>(by cases h),fun _ h=>(by cases h),List.Pairwise.nil⟩
theorem ChainTo.next {nd:Int→Option NodeA} {lv a0:Int} {pre:List (Int×NodeA)} {prev:Option Int} {a:Int} {n:NodeA} (h:ChainTo nd lv a0 pre prev a) (h0:a≠0) (hn:nd a=some n) (hl:n.lv=lv) (hf:lv=0→n.fi=a) (hp:lowOK prev n.low):ChainTo nd lv a0 (pre++[(a,n)]) (some n.low) n.nx:=by
 have hlt: ∀x∈pre,x.2.low<n.low:=by
  intro x hx
  obtain⟨p,h1,h2⟩:=h.low x hx
  rw[h1] at hp
  have:p<n.low:=hp
  omega
 refine⟨fun r=> ?_,by simp,fun x hx=> ?_,fun x hx=> ?_,?_⟩
 ·rw[h.iff]
  constructor
  ·rintro⟨r',rfl,h2⟩
   cases r' with
   | nil=>exact absurd h2 h0
   | cons y r'=>
    obtain⟨_,k1,k2,_,_,_,k3⟩:=h2
    have e:y.2=n:=Option.some.inj (k2.symm.trans hn)
    have e2:y=(a,n):=Prod.ext k1 e
    subst e2
    exact⟨r',by simp,k3⟩
  ·rintro⟨r',rfl,h2⟩
   exact⟨(a,n)::r',by simp,h0,rfl,hn,hl,hf,hp,h2⟩
 ·rcases List.mem_append.1 hx with hx | hx
  ·exact h.at' x hx
  ·rw[List.mem_singleton.1 hx];exact⟨h0,hn,hl⟩
 ·rcases List.mem_append.1 hx with hx | hx
  ·exact⟨_,rfl,Int.le_of_lt (hlt x hx)⟩
  ·rw[List.mem_singleton.1 hx];exact⟨_,rfl,Int.le_refl _⟩
 ·rw[List.pairwise_append]
  exact⟨h.rise,List.pairwise_singleton _ _,fun x hx y hy=>by rw[List.mem_singleton.1 hy];exact hlt x hx⟩
theorem ChainTo.done {nd:Int→Option NodeA} {lv a0:Int} {pre:List (Int×NodeA)} {prev:Option Int} (h:ChainTo nd lv a0 pre prev 0):ChainAt nd lv none a0 pre:=(h.iff pre).2 ⟨[],by simp,rfl⟩
theorem ChainTo.no {nd:Int→Option NodeA} {lv a0:Int} {pre:List (Int×NodeA)} {prev:Option Int} {a:Int} (h:ChainTo nd lv a0 pre prev a) (h0:a≠0) (hn: ∀n,nd a=some n→n.lv=lv→(lv=0→n.fi=a)→ ¬lowOK prev n.low): ∀r,¬ChainAt nd lv none a0 r:=by
 intro r hr
 obtain⟨r',rfl,h2⟩:=(h.iff r).1 hr
 cases r' with
 | nil=>exact h0 h2
 | cons y r'=>
  obtain⟨_,k1,k2,k3,k4,k5,_⟩:=h2
  exact hn _ k2 k3 k4 k5
theorem ChainTo.dup {nd:Int→Option NodeA} {lv a0:Int} {pre:List (Int×NodeA)} {prev:Option Int} {a:Int} (h:ChainTo nd lv a0 pre prev a) (hd:a∈pre.map (·.1)): ∀r,¬ChainAt nd lv none a0 r:=by
 obtain⟨x,hx,rfl⟩:=List.mem_map.1 hd
 obtain⟨h0,h1,_⟩:=h.at' x hx
 refine h.no h0 fun n hn _ _ hp=> ?_
 obtain⟨p,hq,hle⟩:=h.low x hx
 rw[h1] at hn
 injection hn with hn
 subst hn
 rw[hq] at hp
 have:p<x.2.low:=hp
 omega
theorem ChainTo.other {nd:Int→Option NodeA} {lv a0:Int} {pre:List (Int×NodeA)} {prev:Option Int} {a:Int} {n:NodeA} (h:ChainTo nd lv a0 pre prev a) (h0:a≠0) (hn:nd a=some n) (hl:n.lv≠lv): ∀r,¬ChainAt nd lv none a0 r:=
 h.no h0 fun m hm h1 _ _=>by rw[hn] at hm;injection hm with hm;exact hl (hm▸h1)
theorem ChainAt.to {nd:Int→Option NodeA} {lv:Int}: ∀{r:List (Int×NodeA)} {prev:Option Int} {a a0:Int} {pre:List (Int×NodeA)},ChainAt nd lv prev a r→ChainTo nd lv a0 pre prev a→ ∃p,ChainTo nd lv a0 (pre++r) p 0
 | [],prev,a,a0,pre,h,ht=>by
  have h':a=0:=h
  subst h'
  exact⟨_,by rw[List.append_nil];exact ht⟩
 | x::r,prev,a,a0,pre,h,ht=>by
  obtain⟨h0,h1,h2,h3,h4,h5,h6⟩:=h
  obtain⟨p,hp⟩:=ChainAt.to h6 (ht.next h0 h2 h3 h4 h5)
  refine⟨p,?_⟩
  have e:x=(a,x.2):=Prod.ext h1 rfl
  rw[List.append_assoc,List.singleton_append,←e] at hp
  exact hp
theorem ChainAt.whole {nd:Int→Option NodeA} {lv a0:Int} {r:List (Int×NodeA)} (h:ChainAt nd lv none a0 r): ∃p,ChainTo nd lv a0 r p 0:=by
 obtain⟨p,hp⟩:=h.to (ChainTo.start nd lv a0)
 exact⟨p,by rwa[List.nil_append] at hp⟩
theorem ChainTo.nodup {nd:Int→Option NodeA} {lv a0:Int} {pre:List (Int×NodeA)} {prev:Option Int} {a:Int} (h:ChainTo nd lv a0 pre prev a):(pre.map (·.1)).Nodup:=by
 unfold List.Nodup
 rw[List.pairwise_map]
 have hr:=h.rise
 have ha:=h.at'
 refine List.Pairwise.imp_of_mem ?_ hr
 intro x y hx hy hlt e
 have h1:=(ha x hx).2.1
 have h2:=(ha y hy).2.1
 rw[e,h2] at h1
 injection h1 with h1
 rw[h1] at hlt
 omega
def highI (row:List (Int×NodeA)) (i:Nat):Int:=((row[i+1]?).map (·.2.low)).getD 0
def hasI (row:List (Int×NodeA)) (i:Nat):Bool:=decide (i+1<row.length)
def actI (row:List (Int×NodeA)) (i:Nat):List (Int×Int):=activeN ((row[i]?).map (·.2) |>.getD zeroN) (highI row i) (hasI row i)
def mayRow (row:List (Int×NodeA)):Prop:= ∀i x,row[i]?=some x→mayN x.2 (highI row i) (hasI row i)=true
def ptrsI (row:List (Int×NodeA)) (i:Nat):List (Int×Int):=((row[i]?).map fun x=>(x.2.low,x.2.fi)).toList++actI row i
def hitI (down:List (Int×NodeA)) (e:Int×Int):Prop:= ∃y∈down,y.1=e.2∧y.2.low=e.1
def leadsI (up down:List (Int×NodeA)):Prop:= ∀i,i<up.length→ ∀e∈ptrsI up i,hitI down e
def RowsAt (nd:Int→Option NodeA):Int→Int→Option (List (Int×NodeA))→List (List (Int×NodeA))→Prop
 | _,_,_,[]=>False
 | lv,first,up,row::rest=>ChainAt nd lv none first row∧mayRow row∧(∀u,up=some u→leadsI u row)∧(if lv=0 then rest=[] else ∃x r,row=x::r∧RowsAt nd (lv-1) x.2.fi (some row) rest)
theorem RowsAt.det {nd:Int→Option NodeA}: ∀{l l':List (List (Int×NodeA))} {lv first:Int} {up:Option (List (Int×NodeA))},RowsAt nd lv first up l→RowsAt nd lv first up l'→l=l'
 | [],_,_,_,_,h,_=>h.elim
 | _::_,[],_,_,_,_,h=>h.elim
 | row::rest,row'::rest',lv,first,up,h,h'=>by
  obtain⟨h1,_,_,h2⟩:=h
  obtain⟨k1,_,_,k2⟩:=h'
  have e:=ChainAt.det h1 k1
  subst e
  by_cases h0:lv=0
  ·rw[if_pos h0] at h2 k2
   rw[h2,k2]
  ·rw[if_neg h0] at h2 k2
   obtain⟨x,r,e1,h3⟩:=h2
   obtain⟨x',r',e2,k3⟩:=k2
   rw[e1] at e2
   injection e2 with e2 e3
   subst e2
   rw[RowsAt.det h3 k3]
end Go.Proofs.YtibiekfjbibpbaaGreat
