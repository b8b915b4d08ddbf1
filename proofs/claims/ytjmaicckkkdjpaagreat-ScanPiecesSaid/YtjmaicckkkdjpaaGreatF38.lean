import Derived.Test.YtjmaicckkkdjpaaGreatF18
/- A scan, plainly: what a step does; a scan over a built image where nobody stores. -/
set_option linter.unusedVariables false
set_option linter.unusedSimpArgs false
namespace Go.Proofs.YtjmaicckkkdjpaaGreat
open Go.RowKit
inductive ScU where
 | walk (x:WkP)
 | read (x:RdP)
 | still (x:StP)
 | last (l:LtP)
structure ScP where
 client:Int
 lo:Int
 hi:Int
 limit:Int
 u:ScU
 at':Int
 leaf:NodeA
 high:Int
 has:Bool
 want:List (Int×Int)
 got:List (Int×ByteArray)
 why:Int
 pairs:List (Int×ByteArray)
 tries:Nat
 done:Bool
 e:Int
def scNew (client lo hi limit:Int):ScP:=⟨client,lo,hi,limit,.walk (wkNew client lo 0),0,zeroN,0,false,[],[],0,[],0,false,0⟩
def ScP.fin (x:ScP) (e:Int):ScP:={ x with done:=true,e:=e }
def ScP.again (x:ScP):ScP:={ x with u:= .walk (wkNew x.client x.lo 0) }
def rngB (lo hi:Int) (y:Int×Int):Bool:=decide (lo≤y.1∧y.1≤hi)
def wantN (n:NodeA) (high:Int) (has:Bool) (lo hi:Int) (m:Nat):List (Int×Int):=((activeN n high has).filter (rngB lo hi)).take m
def ScP.read (x:ScP):ScP:=if x.got.length=x.want.length∨x.why≠0 then{ x with u:= .still (stNew x.at' x.leaf) } else{ x with u:= .read (rdNew (x.want.getD x.got.length (0,0)).2) }
def ScP.land (x:ScP) (y:WkP):ScP:=({ x with at':=y.pa,leaf:=y.pn,high:=y.ph,has:=y.phas,want:=wantN y.pn y.ph y.phas x.lo x.hi (x.limit.toNat-x.pairs.length),got:=[],why:=0 }:ScP).read
def ScP.lasted (x:ScP):ScP:=
 if((x.pairs++x.got).length:Int)=x.limit∨x.has=false∨x.hi<x.high then({ x with pairs:=x.pairs++x.got }:ScP).fin 0 else({ x with pairs:=x.pairs++x.got,lo:=x.high }:ScP).again
def ScP.took (x:ScP) (y:RdP):ScP:=({ x with u:= .read y,got:=x.got++[((x.want.getD x.got.length (0,0)).1,if y.bad=0 then y.s else{ data:= #[] })],why:=y.bad }:ScP).read
def ScP.next (v:List Int) (x:ScP):ScP:=
 if x.done=true then x else if x.limit<1∨256<x.limit∨x.hi<x.lo then x.fin 2 else match x.u with
 | .walk y=>if(y.next v).over=true then(if(y.next v).e≠0 then({ x with u:= .walk (y.next v) }:ScP).fin (y.next v).e else({ x with u:= .walk (y.next v) }:ScP).land (y.next v)) else{ x with u:= .walk (y.next v) }
 | .read y=>if(y.next v).done=true then x.took (y.next v) else{ x with u:= .read (y.next v) }
 | .still y=>if(y.next v).over=true then(if(y.next v).same=false then({ x with u:= .still (y.next v),tries:=x.tries+1 }:ScP).again else if x.why≠0 then({ x with u:= .still (y.next v) }:ScP).fin x.why else{ x with u:= .last ⟨x.client,linesL x.at',false⟩ }) else{ x with u:= .still (y.next v) }
 | .last l=>if l.next.over=true then({ x with u:= .last l.next }:ScP).lasted else{ x with u:= .last l.next }
section
variable {slabs per lag K:Nat} {keys:List Nat} {bs:List Int}
def txtE2 (y:Int×Int):Int×ByteArray:=(y.1,strOfNums (numL y.1.toNat))
def accS (keys:List Nat) (per:Nat) (lo hi:Int) (m r:Nat):List (Int×ByteArray):=((((ents0 keys).take (r*per)).filter (rngB lo hi)).take m).map txtE2
def ansS (keys:List Nat) (lo hi:Int) (m:Nat):List (Int×ByteArray):=(((ents0 keys).filter (rngB lo hi)).take m).map txtE2
theorem take_app {α:Type} (m:Nat) (a b:List α):(a++b).take m=a.take m++b.take (m- (a.take m).length):=by
 rw[List.take_append,List.length_take]
 congr 1
 by_cases h:m≤a.length
 ·rw[Nat.sub_eq_zero_of_le h,show min m a.length=m by omega,Nat.sub_self]
 ·rw[show min m a.length=a.length by omega]
theorem accS_succ (lo hi:Int) (m r:Nat):accS keys per lo hi m (r+1)=accS keys per lo hi m r++(((wsE keys per lag 0 r).filter (rngB lo hi)).take (m- (accS keys per lo hi m r).length)).map txtE2:=by
 have e:(ents0 keys).take ((r+1)*per)=(ents0 keys).take (r*per)++wsE keys per lag 0 r:=by
  rw[wsE_zero,Nat.succ_mul,List.take_add];rfl
 unfold accS
 rw[e,List.filter_append,take_app,List.map_append,List.length_map]
theorem accS_len (lo hi:Int) (m r:Nat):(accS keys per lo hi m r).length≤m:=by unfold accS;rw[List.length_map,List.length_take];omega
theorem Core.allTold (h:Core slabs keys per lag K bs) {lo hi:Int} {m r:Nat} (hr:r<nK keys per lag 0) (hc:(accS keys per lo hi m (r+1)).length=m∨ ¬r+1<nK keys per lag 0∨(r+1<nK keys per lag 0∧hi<lowK keys per lag 0 (r+1))):accS keys per lo hi m (r+1)=ansS keys lo hi m:=by
 have hp:0<per:=by have:=h.p2;omega
 have hlen:(eK keys per lag 0).length=keys.length:=ents0_len keys
 have split:(ents0 keys).filter (rngB lo hi)=((ents0 keys).take ((r+1)*per)).filter (rngB lo hi)++((ents0 keys).drop ((r+1)*per)).filter (rngB lo hi):=by
  rw[←List.filter_append,List.take_append_drop]
 unfold accS ansS
 congr 1
 rw[split]
 rcases hc with hc | hc | ⟨hc,hh⟩
 ·unfold accS at hc
  rw[List.length_map,List.length_take] at hc
  rw[List.take_append,Nat.sub_eq_zero_of_le (by omega),List.take_zero,List.append_nil]
 ·have h1:(eK keys per lag 0).length≤nK keys per lag 0*per:=nRounds_all (eK keys per lag 0) hp
  have h3:nK keys per lag 0≤r+1:=by omega
  have h4:nK keys per lag 0*per≤(r+1)*per:=Nat.mul_le_mul_right _ h3
  have h5:(ents0 keys).length=keys.length:=ents0_len keys
  rw[List.drop_eq_nil_of_le (by omega),List.filter_nil,List.append_nil]
 ·have hE:=h.ent 0
  have hlt:(r+1)*per< (eK keys per lag 0).length:=by
   rcases nRounds_in hp hc with e | e
   ·omega
   ·exact e
  have hnil:((ents0 keys).drop ((r+1)*per)).filter (rngB lo hi)=[]:=by
   rw[List.filter_eq_nil_iff]
   intro y hy hb
   obtain⟨i,hi⟩:=List.mem_iff_getElem?.1 hy
   rw[List.getElem?_drop] at hi
   have h0:(eK keys per lag 0)[(r+1)*per]?=some (eK keys per lag 0)[(r+1)*per]:=List.getElem?_eq_getElem hlt
   have hl:lowK keys per lag 0 (r+1)=((eK keys per lag 0)[(r+1)*per]).1:=by
    show lowR (eK keys per lag 0) per (r+1)=_
    unfold lowR
    rw[if_neg (by omega),List.getD_eq_getElem?_getD,h0];rfl
   have h9:lowK keys per lag 0 (r+1)≤y.1:=by
    rw[hl]
    cases i with
    | zero=>
     have:some y=some (eK keys per lag 0)[(r+1)*per]:=by rw[←h0,←hi];rfl
     injection this with this
     rw[this];exact Int.le_refl _
    | succ i=>exact Int.le_of_lt (hE.lt h0 (show(eK keys per lag 0)[(r+1)*per+(i+1)]?=some y from hi) (by omega))
   unfold rngB at hb
   simp at hb
   omega
  rw[hnil,List.append_nil]
theorem Core.lowUp (h:Core slabs keys per lag K bs) {r s:Nat} (hrs:r<s) (hs:s<nK keys per lag 0):lowK keys per lag 0 r<lowK keys per lag 0 s:=by
 have hp:0<per:=by have:=h.p2;omega
 have hE:=h.ent 0
 have hls:s*per< (eK keys per lag 0).length:=by
  rcases nRounds_in hp hs with e | e
  ·omega
  ·exact e
 have h0:(eK keys per lag 0)[s*per]?=some (eK keys per lag 0)[s*per]:=List.getElem?_eq_getElem hls
 have hl:lowK keys per lag 0 s=((eK keys per lag 0)[s*per]).1:=by
  show lowR (eK keys per lag 0) per s=_
  unfold lowR
  rw[if_neg (by omega),List.getD_eq_getElem?_getD,h0];rfl
 rw[hl]
 have hlt:r*per<s*per:=Nat.mul_lt_mul_of_pos_right hrs hp
 have hr0:(eK keys per lag 0)[r*per]?=some ((eK keys per lag 0)[r*per]'(by omega)):=List.getElem?_eq_getElem (by omega)
 have h1:=hE.lt hr0 h0 hlt
 show lowR (eK keys per lag 0) per r<_
 unfold lowR
 by_cases e:r=0
 ·rw[if_pos e]
  have:=(hE.pos _ (List.mem_of_getElem? hr0)).1
  omega
 ·rw[if_neg e,List.getD_eq_getElem?_getD,hr0];exact h1
theorem Core.lowOne (h:Core slabs keys per lag K bs) {r s:Nat} {q:Int} (hr:r<nK keys per lag 0) (hs:s<nK keys per lag 0) (r1:lowK keys per lag 0 r≤q) (r2:r+1<nK keys per lag 0→q<lowK keys per lag 0 (r+1)) (s1:lowK keys per lag 0 s≤q) (s2:s+1<nK keys per lag 0→q<lowK keys per lag 0 (s+1)):r=s:=by
 have key: ∀{a b:Nat},a<b→b<nK keys per lag 0→lowK keys per lag 0 b≤q→(a+1<nK keys per lag 0→q<lowK keys per lag 0 (a+1))→False:=fun{a b} hab hb h1 h2=>by
  have h3:=h2 (by omega)
  by_cases e:a+1=b
  ·rw[e] at h3;omega
  ·have:=h.lowUp (show a+1<b by omega) hb;omega
 rcases Nat.lt_trichotomy r s with e | e | e
 ·exact(key e hs s1 r2).elim
 ·exact e
 ·exact(key e hr r1 s2).elim
structure ScOn (c lo hi limit:Int) (x:ScP):Prop where
 client:x.client=c
 hi':x.hi=hi
 limit':x.limit=limit
 why:x.why=0
 tries:x.tries=0
 done:x.done=false
 e:x.e=0
 lolo:lo≤x.lo∧x.lo≤hi
structure ScWk (keys:List Nat) (per lag:Nat) (c lo hi limit:Int) (left:Nat) (x:ScP):Prop extends ScOn c lo hi limit x where
 pos:1≤left
 at_: ∀r,r<nK keys per lag 0→lowK keys per lag 0 r≤x.lo→(r+1<nK keys per lag 0→x.lo<lowK keys per lag 0 (r+1))→nK keys per lag 0≤r+left∧x.pairs=accS keys per lo hi limit.toNat r∧ ∀y∈wsE keys per lag 0 r,(x.lo≤y.1↔lo≤y.1)
 room:(x.pairs.length:Int)<limit
structure ScLf (keys:List Nat) (per lag:Nat) (c lo hi limit:Int) (left r:Nat) (x:ScP):Prop extends ScOn c lo hi limit x where
 pos:1≤left
 hr:r<nK keys per lag 0
 lf:nK keys per lag 0≤r+left
 adr:x.at'=(adN keys per lag 0 r:Nat)
 nd:x.leaf=ndF keys per lag 0 r
 has':x.has=decide (r+1<nK keys per lag 0)
 high':x.high=if r+1<nK keys per lag 0 then lowK keys per lag 0 (r+1) else 0
 pairs':x.pairs=accS keys per lo hi limit.toNat r
 room:(x.pairs.length:Int)<limit
 want':x.want=((wsE keys per lag 0 r).filter (rngB lo hi)).take (limit.toNat-x.pairs.length)
 got':x.got=(x.want.take x.got.length).map txtE2
 up:r+1<nK keys per lag 0→x.lo<lowK keys per lag 0 (r+1)
abbrev lfN (keys:List Nat) (per lag K:Nat):Nat:=45*tK keys per lag (K+1)+39
inductive ScSt (keys:List Nat) (per lag K:Nat) (bs:List Int) (c lo hi limit:Int):Nat→ScP→Prop
 | walk (n left:Nat) (x:ScP) (y:WkP) (hx:ScWk keys per lag c lo hi limit left x) (hu:x.u= .walk y) (hy:WkSt keys per lag K (wordsOf bs) c x.lo n y):ScSt keys per lag K bs c lo hi limit (n+38+(left-1)*lfN keys per lag K) x
 | read (n left r j:Nat) (x:ScP) (y:RdP) (hx:ScLf keys per lag c lo hi limit left r x) (hu:x.u= .read y) (hj:j<keys.length) (hw:x.want[x.got.length]?=some ((keys.getD j 0:Int),(vA j:Int))) (hy:RdSt bs keys j n y):ScSt keys per lag K bs c lo hi limit (n+4*(x.want.length-x.got.length-1)+6+(left-1)*lfN keys per lag K) x
 | still (n left r:Nat) (k:Int) (x:ScP) (hx:ScLf keys per lag c lo hi limit left r x) (hu:x.u= .still { stNew (adN keys per lag 0 r:Nat) (ndF keys per lag 0 r) with k:=k }) (hg:x.got.length=x.want.length) (hk:k=2∧n=2∨k=3∧n=1):ScSt keys per lag K bs c lo hi limit (n+4+(left-1)*lfN keys per lag K) x
 | last (n left r i:Nat) (x:ScP) (hx:ScLf keys per lag c lo hi limit left r x) (hu:x.u= .last ⟨c,(linesL (adN keys per lag 0 r:Nat)).drop i,false⟩) (hg:x.got.length=x.want.length) (hi3:i≤3) (hn:n+i=4):ScSt keys per lag K bs c lo hi limit (n+(left-1)*lfN keys per lag K) x
structure ScEnd (keys:List Nat) (lo hi limit:Int) (x:ScP):Prop where
 done:x.done=true
 e:x.e=0
 tries:x.tries=0
 pairs:x.pairs=ansS keys lo hi limit.toNat
theorem ScSt.new (c lo hi limit:Int) (h:Core slabs keys per lag K bs) (hl:1≤limit) (hlo:lo≤hi):ScSt keys per lag K bs c lo hi limit (1+45*tK keys per lag (K+1)+38+(nK keys per lag 0-1)*lfN keys per lag K) (scNew c lo hi limit):=by
 have hn0:0<nK keys per lag 0:=nRounds_pos _ _
 refine .walk _ _ _ (wkNew c lo 0) ⟨⟨rfl,rfl,rfl,rfl,rfl,rfl,rfl,Int.le_refl _,hlo⟩,by omega,fun r hr h1 h2=>⟨by omega,?_,fun y _=>Iff.rfl⟩,by show((0:Nat):Int)<limit;omega⟩ rfl .root
 show[]=accS keys per lo hi limit.toNat r
 unfold accS
 have hnil:((ents0 keys).take (r*per)).filter (rngB lo hi)=[]:=by
  rw[List.filter_eq_nil_iff]
  intro y hy hb
  have hp:0<per:=by have:=h.p2;omega
  have hE:=h.ent 0
  obtain⟨i,hi⟩:=List.mem_iff_getElem?.1 hy
  rw[List.getElem?_take] at hi
  split at hi
  ·rename_i hlt
   by_cases e:r=0
   ·subst e;simp at hlt
   ·have hls:r*per< (eK keys per lag 0).length:=by
     rcases nRounds_in hp hr with e2 | e2
     ·exact absurd e2 e
     ·exact e2
    have h0:(eK keys per lag 0)[r*per]?=some (eK keys per lag 0)[r*per]:=List.getElem?_eq_getElem hls
    have h3:=hE.lt (show(eK keys per lag 0)[i]?=some y from hi) h0 hlt
    have h4:lowR (eK keys per lag 0) per r≤lo:=h1
    unfold lowR at h4
    rw[if_neg e,List.getD_eq_getElem?_getD,h0] at h4
    simp only[Option.getD_some] at h4
    unfold rngB at hb
    simp at hb
    omega
  ·cases hi
 rw[hnil];simp
theorem wsE_len8 (h:Core slabs keys per lag K bs) (r:Nat):(wsE keys per lag 0 r).length≤8:=by
 rw[wsE_zero]
 show(ownK per (eK keys per lag 0) r).length≤8
 have:=ownK_len per r (eK keys per lag 0)
 have:=h.p8
 omega
theorem words4 (h:Base slabs keys per lag K bs) {j:Nat} (hj:j<keys.length):wordsV (txtK keys j).length≤4:=by
 have:=(h.vw hj).2.2.1
 unfold wordsV
 omega
theorem ScLf.go (h:Built slabs keys per lag K bs) {c lo hi limit:Int} {left r:Nat} {x:ScP} (hx:ScLf keys per lag c lo hi limit left r x): ∃n,n≤4*(x.want.length-x.got.length)+6+(left-1)*lfN keys per lag K∧ScSt keys per lag K bs c lo hi limit n x.read∧x.read.done=false:=by
 unfold ScP.read
 have hle:x.got.length≤x.want.length:=by
  have:=congrArg List.length hx.got'
  rw[List.length_map,List.length_take] at this
  omega
 by_cases hg:x.got.length=x.want.length
 ·rw[if_pos (Or.inl hg)]
  exact⟨2+4+(left-1)*lfN keys per lag K,by omega,.still 2 left r 2 _ ⟨⟨hx.client,hx.hi',hx.limit',hx.why,hx.tries,hx.done,hx.e,hx.lolo⟩,hx.pos,hx.hr,hx.lf,hx.adr,hx.nd,hx.has',hx.high',hx.pairs',hx.room,hx.want',hx.got',hx.up⟩ (by show ScU.still (stNew x.at' x.leaf)=_;rw[hx.adr,hx.nd];rfl) hg (Or.inl ⟨rfl,rfl⟩),hx.done⟩
 ·rw[if_neg (by rintro(h1 | h1);exact hg h1;exact h1 hx.why)]
  have hlt:x.got.length<x.want.length:=by omega
  obtain⟨y,hy⟩: ∃y,x.want[x.got.length]?=some y:=⟨_,List.getElem?_eq_getElem hlt⟩
  have hm:y∈wsE keys per lag 0 r:=by
   have h1:=List.mem_of_getElem? hy
   rw[hx.want'] at h1
   exact(List.mem_filter.1 (List.mem_of_mem_take h1)).1
  obtain⟨j,hj,rfl⟩:=h.toCore.leafIn hm
  rw[List.getD_eq_getElem?_getD,hy]
  have h4:=words4 h.toBase hj
  refine⟨_,?_,.read (wordsV (txtK keys j).length) left r j _ (rdNew (vA j:Nat)) ⟨⟨hx.client,hx.hi',hx.limit',hx.why,hx.tries,hx.done,hx.e,hx.lolo⟩,hx.pos,hx.hr,hx.lf,hx.adr,hx.nd,hx.has',hx.high',hx.pairs',hx.room,hx.want',hx.got',hx.up⟩ rfl hj hy (RdSt.new bs keys j),hx.done⟩
  simp only[]
  omega
theorem ScP.alive {x:ScP} (h:x.done=false) (h2: ¬(x.limit<1∨256<x.limit∨x.hi<x.lo)) (v:List Int):x.next v=match x.u with
 | .walk y=>if(y.next v).over=true then(if(y.next v).e≠0 then({ x with u:= .walk (y.next v) }:ScP).fin (y.next v).e else({ x with u:= .walk (y.next v) }:ScP).land (y.next v)) else{ x with u:= .walk (y.next v) }
 | .read y=>if(y.next v).done=true then x.took (y.next v) else{ x with u:= .read (y.next v) }
 | .still y=>if(y.next v).over=true then(if(y.next v).same=false then({ x with u:= .still (y.next v),tries:=x.tries+1 }:ScP).again else if x.why≠0 then({ x with u:= .still (y.next v) }:ScP).fin x.why else{ x with u:= .last ⟨x.client,linesL x.at',false⟩ }) else{ x with u:= .still (y.next v) }
 | .last l=>if l.next.over=true then({ x with u:= .last l.next }:ScP).lasted else{ x with u:= .last l.next }:=by
 unfold ScP.next
 rw[if_neg (by simp[h]),if_neg h2]
theorem still_steps (h:Built slabs keys per lag K bs) {r:Nat} (hr:r<nK keys per lag 0):
  (({ stNew (adN keys per lag 0 r:Nat) (ndF keys per lag 0 r) with k:=2 }:StP).next (wordsOf bs))={ stNew (adN keys per lag 0 r:Nat) (ndF keys per lag 0 r) with k:=3 }∧
  (({ stNew (adN keys per lag 0 r:Nat) (ndF keys per lag 0 r) with k:=3 }:StP).next (wordsOf bs))={ stNew (adN keys per lag 0 r:Nat) (ndF keys per lag 0 r) with k:=3,over:=true }:=by
 have hN:=h.toCore.nodeS (k:=0) hr
 have hW:=h.wat (k:=0) (by omega) hr
 have w2:wdV (wordsOf bs) ((adN keys per lag 0 r:Nat)+8*2)=(ndF keys per lag 0 r).nx:=by
  have:=hW.wd 2 (by omega)
  rw[hN.nx];exact this
 have w3:wdV (wordsOf bs) ((adN keys per lag 0 r:Nat)+8*3)=(ndF keys per lag 0 r).ct:=by
  have:=hW.wd 3 (by omega)
  rw[hN.ct];exact this
 constructor
 ·have hs:decide (wdV (wordsOf bs) ((adN keys per lag 0 r:Nat)+8*2)=if(2:Int)=3 then(ndF keys per lag 0 r).ct else(ndF keys per lag 0 r).nx)=true:=by rw[if_neg (by omega)];exact decide_eq_true w2
  unfold StP.next StP.adr
  rw[if_neg (by simp[stNew])]
  show StP.mk _ _ _ 3 (true&&decide (wdV (wordsOf bs) ((adN keys per lag 0 r:Nat)+8*2)=if(2:Int)=3 then(ndF keys per lag 0 r).ct else(ndF keys per lag 0 r).nx)) (decide ((2:Int)=3))=_
  rw[hs]
  rfl
 ·have hs:decide (wdV (wordsOf bs) ((adN keys per lag 0 r:Nat)+8*3)=if(3:Int)=3 then(ndF keys per lag 0 r).ct else(ndF keys per lag 0 r).nx)=true:=by rw[if_pos rfl];exact decide_eq_true w3
  unfold StP.next StP.adr
  rw[if_neg (by simp[stNew])]
  show StP.mk _ _ _ 3 (true&&decide (wdV (wordsOf bs) ((adN keys per lag 0 r:Nat)+8*3)=if(3:Int)=3 then(ndF keys per lag 0 r).ct else(ndF keys per lag 0 r).nx)) (decide ((3:Int)=3))=_
  rw[hs]
  rfl
theorem ScSt.step (h:Built slabs keys per lag K bs) {c lo hi limit:Int} (hc0:0≤lo) (hl1:1≤limit) (hl2:limit≤256) {n:Nat} {x:ScP} (hx:ScSt keys per lag K bs c lo hi limit n x):
  (∃n',n'<n∧(x.next (wordsOf bs)).done=false∧ScSt keys per lag K bs c lo hi limit n' (x.next (wordsOf bs)))∨ScEnd keys lo hi limit (x.next (wordsOf bs)):=by
 cases hx with
 | walk n left x y hx hu hy=>
  have hal:=ScP.alive hx.done (by rw[hx.limit',hx.hi'];have:=hx.lolo;omega) (wordsOf bs)
  rw[hal,hu]
  simp only[]
  rcases WkSt.step h (by have:=hx.lolo;omega) hy with⟨n',g1,g2⟩ | he
  ·have hov: ¬(y.next (wordsOf bs)).over=true:=by rw[g2.live];simp
   rw[if_neg hov]
   exact Or.inl ⟨_,by omega,hx.done,.walk n' left _ _ ⟨⟨hx.client,hx.hi',hx.limit',hx.why,hx.tries,hx.done,hx.e,hx.lolo⟩,hx.pos,hx.at_,hx.room⟩ rfl g2⟩
  ·obtain⟨e1,e2,_,r,hr,e3,e4,e5,e6,h1,h2⟩:=he
   rw[if_pos e1,if_neg (by rw[e2];simp)]
   left
   obtain⟨a1,a2,a3⟩:=hx.at_ r hr h1 h2
   have hN:=h.toCore.nodeS (k:=0) hr
   have hact:activeN (y.next (wordsOf bs)).pn (y.next (wordsOf bs)).ph (y.next (wordsOf bs)).phas=wsE keys per lag 0 r:=by
    rw[e4,e5,e6]
    refine active_list hN.val (fun hh e he=> ?_)
    have hr1:r+1<nK keys per lag 0:=by simpa using hh
    rw[if_pos hr1]
    obtain⟨i,hi,_,hie⟩:=wsE_mem he
    have hp:0<per:=by have:=h.p2;omega
    have hls:(r+1)*per< (eK keys per lag 0).length:=by
     rcases nRounds_in hp hr1 with e9 | e9
     ·omega
     ·exact e9
    have h0:(eK keys per lag 0)[(r+1)*per]?=some (eK keys per lag 0)[(r+1)*per]:=List.getElem?_eq_getElem hls
    have h9:=(h.ent 0).lt hie h0 (by rw[Nat.succ_mul];omega)
    show e.1<lowR (eK keys per lag 0) per (r+1)
    unfold lowR
    rw[if_neg (by omega),List.getD_eq_getElem?_getD,h0];exact h9
   have hwant:wantN (y.next (wordsOf bs)).pn (y.next (wordsOf bs)).ph (y.next (wordsOf bs)).phas x.lo x.hi (x.limit.toNat-x.pairs.length)=((wsE keys per lag 0 r).filter (rngB lo hi)).take (limit.toNat-x.pairs.length):=by
    unfold wantN
    rw[hact,hx.hi',hx.limit']
    congr 1
    apply List.filter_congr
    intro y' hy'
    unfold rngB
    simp only[a3 y' hy']
   have hL:ScLf keys per lag c lo hi limit left r { ({ x with u:= .walk (y.next (wordsOf bs)) }:ScP) with at':=(y.next (wordsOf bs)).pa,leaf:=(y.next (wordsOf bs)).pn,high:=(y.next (wordsOf bs)).ph,has:=(y.next (wordsOf bs)).phas,want:=wantN (y.next (wordsOf bs)).pn (y.next (wordsOf bs)).ph (y.next (wordsOf bs)).phas x.lo x.hi (x.limit.toNat-x.pairs.length),got:=[],why:=0 }:=
    ⟨⟨hx.client,hx.hi',hx.limit',rfl,hx.tries,hx.done,hx.e,hx.lolo⟩,hx.pos,hr,a1,e3,e4,e5,e6,a2,hx.room,hwant,rfl,h2⟩
   obtain⟨n',q1,q2,q3⟩:=hL.go h
   refine⟨n',?_,q3,q2⟩
   have hwl:(wantN (y.next (wordsOf bs)).pn (y.next (wordsOf bs)).ph (y.next (wordsOf bs)).phas x.lo x.hi (x.limit.toNat-x.pairs.length)).length≤8:=by
    rw[hwant,List.length_take]
    have h8:=wsE_len8 h.toCore r
    have h7:=List.length_filter_le (rngB lo hi) (wsE keys per lag 0 r)
    omega
   have hn1:1≤n:=by cases hy<;>omega
   have q1:n'≤4*((wantN (y.next (wordsOf bs)).pn (y.next (wordsOf bs)).ph (y.next (wordsOf bs)).phas x.lo x.hi (x.limit.toNat-x.pairs.length)).length-0)+6+(left-1)*lfN keys per lag K:=q1
   omega
 | read n left r j x y hx hu hj hw hy=>
  have hal:=ScP.alive hx.done (by rw[hx.limit',hx.hi'];have:=hx.lolo;omega) (wordsOf bs)
  rw[hal,hu]
  simp only[]
  left
  have hlt:=(List.getElem?_eq_some_iff.1 hw).1
  obtain⟨_,_,_,hy2⟩:=hy.step h.toBase hj
  rcases hy2 with⟨n',g1,g2,g3⟩ | ⟨g1,g2,g3⟩
  ·rw[if_neg (by rw[g2];simp)]
   exact⟨n'+4*(x.want.length-x.got.length-1)+6+(left-1)*lfN keys per lag K,by omega,hx.done,.read n' left r j { x with u:= .read (y.next (wordsOf bs)) } (y.next (wordsOf bs)) ⟨⟨hx.client,hx.hi',hx.limit',hx.why,hx.tries,hx.done,hx.e,hx.lolo⟩,hx.pos,hx.hr,hx.lf,hx.adr,hx.nd,hx.has',hx.high',hx.pairs',hx.room,hx.want',hx.got',hx.up⟩ rfl hj hw g3⟩
  ·rw[if_pos g1]
   unfold ScP.took
   rw[g2,g3,if_pos rfl,List.getD_eq_getElem?_getD,hw]
   have hgot:x.got++[((keys.getD j 0:Int),strOfNums (txtK keys j))]=(x.want.take (x.got++[((keys.getD j 0:Int),strOfNums (txtK keys j))]).length).map txtE2:=by
    rw[List.length_append,List.length_singleton,List.take_add_one,hw,List.map_append,←hx.got']
    congr 1
   have hL:ScLf keys per lag c lo hi limit left r { x with u:= .read (y.next (wordsOf bs)),got:=x.got++[((keys.getD j 0:Int),strOfNums (txtK keys j))],why:=0 }:=
    ⟨⟨hx.client,hx.hi',hx.limit',rfl,hx.tries,hx.done,hx.e,hx.lolo⟩,hx.pos,hx.hr,hx.lf,hx.adr,hx.nd,hx.has',hx.high',hx.pairs',hx.room,hx.want',hgot,hx.up⟩
   obtain⟨n',q1,q2,q3⟩:=hL.go h
   refine⟨n',?_,q3,q2⟩
   have q1:n'≤4*(x.want.length- (x.got++[((keys.getD j 0:Int),strOfNums (txtK keys j))]).length)+6+(left-1)*lfN keys per lag K:=q1
   rw[List.length_append,List.length_singleton] at q1
   obtain⟨i,hi,hn,_⟩:=hy
   omega
 | still n left r k x hx hu hg hk=>
  have hal:=ScP.alive hx.done (by rw[hx.limit',hx.hi'];have:=hx.lolo;omega) (wordsOf bs)
  rw[hal,hu]
  simp only[]
  obtain⟨s1,s2⟩:=still_steps h hx.hr
  left
  rcases hk with⟨rfl,rfl⟩ | ⟨rfl,rfl⟩
  ·rw[s1,if_neg (by simp[stNew])]
   exact⟨_,by omega,hx.done,.still 1 left r 3 _ ⟨⟨hx.client,hx.hi',hx.limit',hx.why,hx.tries,hx.done,hx.e,hx.lolo⟩,hx.pos,hx.hr,hx.lf,hx.adr,hx.nd,hx.has',hx.high',hx.pairs',hx.room,hx.want',hx.got',hx.up⟩ rfl hg (Or.inr ⟨rfl,rfl⟩)⟩
  ·rw[s2,if_pos rfl,if_neg (by simp[stNew]),if_neg (by rw[hx.why];simp)]
   exact⟨_,by omega,hx.done,.last 4 left r 0 _ ⟨⟨hx.client,hx.hi',hx.limit',hx.why,hx.tries,hx.done,hx.e,hx.lolo⟩,hx.pos,hx.hr,hx.lf,hx.adr,hx.nd,hx.has',hx.high',hx.pairs',hx.room,hx.want',hx.got',hx.up⟩ (by show ScU.last ⟨x.client,linesL x.at',false⟩=_;rw[hx.adr,hx.client];rfl) hg (by omega) (by omega)⟩
 | last n left r i x hx hu hg hi3 hn=>
  have hal:=ScP.alive hx.done (by rw[hx.limit',hx.hi'];have:=hx.lolo;omega) (wordsOf bs)
  rw[hal,hu]
  simp only[]
  by_cases h3:i=3
  ·subst h3
   have e:(LtP.next ⟨c,(linesL (adN keys per lag 0 r:Nat)).drop 3,false⟩)=⟨c,[],true⟩:=rfl
   rw[e,if_pos rfl]
   have hgw:x.got=x.want.map txtE2:=by
    have:=hx.got'
    rw[hg,List.take_length] at this
    exact this
   have hall:x.pairs++x.got=accS keys per lo hi limit.toNat (r+1):=by
    rw[accS_succ (lag:=lag),hgw,hx.want',hx.pairs']
   unfold ScP.lasted
   simp only[]
   by_cases hend:((x.pairs++x.got).length:Int)=x.limit∨x.has=false∨x.hi<x.high
   ·rw[if_pos hend]
    right
    refine⟨rfl,rfl,hx.tries,?_⟩
    show x.pairs++x.got=_
    rw[hall]
    refine h.toCore.allTold hx.hr ?_
    rw[hall,hx.limit',hx.has',hx.hi',hx.high'] at hend
    rcases hend with e1 | e1 | e1
    ·left;omega
    ·right;left;simpa using e1
    ·by_cases hr1:r+1<nK keys per lag 0
     ·rw[if_pos hr1] at e1;exact Or.inr (Or.inr ⟨hr1,e1⟩)
     ·exact Or.inr (Or.inl hr1)
   ·rw[if_neg hend]
    left
    have hr1:r+1<nK keys per lag 0:=by
     apply Classical.byContradiction
     intro hn1
     exact hend (Or.inr (Or.inl (by rw[hx.has'];simpa using hn1)))
    have hhi:x.high=lowK keys per lag 0 (r+1):=by rw[hx.high',if_pos hr1]
    have hlen:((x.pairs++x.got).length:Int)<limit:=by
     have h1:=accS_len (keys:=keys) (per:=per) lo hi limit.toNat (r+1)
     rw[←hall] at h1
     have h2: ¬((x.pairs++x.got).length:Int)=x.limit:=fun e=>hend (Or.inl e)
     rw[hx.limit'] at h2
     omega
    have hlo2:lowK keys per lag 0 (r+1)≤hi:=by
     have h2: ¬x.hi<x.high:=fun e=>hend (Or.inr (Or.inr e))
     rw[hx.hi',hhi] at h2;omega
    have hp:0<per:=by have:=h.p2;omega
    have hlo1:lo≤lowK keys per lag 0 (r+1):=by
     have h1:=hx.lolo
     have h2:=hx.up hr1
     omega
    have hlf:=hx.lf
    have hL:ScWk keys per lag c lo hi limit (left-1) (({ ({ x with u:= .last ⟨c,[],true⟩ }:ScP) with pairs:=x.pairs++x.got,lo:=x.high }:ScP).again):=by
     refine⟨⟨hx.client,hx.hi',hx.limit',hx.why,hx.tries,hx.done,hx.e,?_⟩,by omega,fun s hs h1 h2=> ?_,hlen⟩
     ·show lo≤x.high∧x.high≤hi
      rw[hhi];exact⟨hlo1,hlo2⟩
     ·have h1:lowK keys per lag 0 s≤x.high:=h1
      have h2:s+1<nK keys per lag 0→x.high<lowK keys per lag 0 (s+1):=h2
      rw[hhi] at h1 h2
      obtain rfl:=h.toCore.lowOne hs hr1 h1 h2 (Int.le_refl _) (fun h9=>h.toCore.lowUp (by omega) h9)
      refine⟨by omega,hall,fun y hy=> ?_⟩
      show x.high≤y.1↔lo≤y.1
      rw[hhi]
      have h8:lowK keys per lag 0 (r+1)≤y.1:=by
       obtain⟨i,hi,_,hie⟩:=wsE_mem hy
       have hls:(r+1)*per< (eK keys per lag 0).length:=by
        rcases nRounds_in hp hr1 with e9 | e9
        ·omega
        ·exact e9
       have h0:(eK keys per lag 0)[(r+1)*per]?=some (eK keys per lag 0)[(r+1)*per]:=List.getElem?_eq_getElem hls
       show lowR (eK keys per lag 0) per (r+1)≤y.1
       unfold lowR
       rw[if_neg (by omega),List.getD_eq_getElem?_getD,h0]
       cases i with
       | zero=>
        have hie:(eK keys per lag 0)[(r+1)*per]?=some y:=hie
        rw[h0] at hie
        injection hie with hie
        rw[←hie];exact Int.le_refl _
       | succ i=>exact Int.le_of_lt ((h.ent 0).lt h0 hie (by omega))
      constructor<;>intro<;>omega
    have hst:=ScSt.walk (bs:=bs) (1+45*tK keys per lag (K+1)) (left-1) _ (wkNew c x.high 0) hL (by show ScU.walk (wkNew x.client x.high 0)=_;rw[hx.client]) .root
    refine⟨_,?_,hx.done,hst⟩
    obtain⟨l,rfl⟩: ∃l,left=l+2:=⟨left-2,by omega⟩
    show 1+45*tK keys per lag (K+1)+38+(l+2-1-1)*lfN keys per lag K<n+(l+2-1)*lfN keys per lag K
    have e2:(l+2-1)*lfN keys per lag K=(l+2-1-1)*lfN keys per lag K+lfN keys per lag K:=by
     rw[show l+2-1=(l+2-1-1)+1 by omega,Nat.succ_mul,show l+2-1-1+1-1=l+2-1-1 by omega]
    rw[e2]
    show _<n+((l+2-1-1)*lfN keys per lag K+(45*tK keys per lag (K+1)+39))
    omega
  ·have e:(LtP.next ⟨c,(linesL (adN keys per lag 0 r:Nat)).drop i,false⟩)=⟨c,(linesL (adN keys per lag 0 r:Nat)).drop (i+1),false⟩:=by
    rcases(by omega:i=0∨i=1∨i=2) with rfl | rfl | rfl<;>rfl
   rw[e,if_neg (by simp)]
   exact Or.inl ⟨_,by omega,hx.done,.last (n-1) left r (i+1) _ ⟨⟨hx.client,hx.hi',hx.limit',hx.why,hx.tries,hx.done,hx.e,hx.lolo⟩,hx.pos,hx.hr,hx.lf,hx.adr,hx.nd,hx.has',hx.high',hx.pairs',hx.room,hx.want',hx.got',hx.up⟩ rfl hg (by omega) (by omega)⟩
end
end Go.Proofs.YtjmaicckkkdjpaaGreat
