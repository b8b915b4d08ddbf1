import Derived.Test.YtjmaicckkkdjpaaGreatM14
/- A get in a built image where nobody stores, plainly. -/
set_option linter.unusedVariables false
set_option linter.unusedSimpArgs false
namespace Go.Proofs.YtjmaicckkkdjpaaGreat
open Go.RowKit
section
variable {slabs per lag K:Nat} {keys:List Nat} {bs:List Int}
def vwX (bs:List Int) (j:Nat):List Nat:=((wordsN bs).drop (vA j/8)).take 8
abbrev txtK (keys:List Nat) (j:Nat):List Int:=numL (keys.getD j 0)
theorem Base.vw (h:Base slabs keys per lag K bs) {j:Nat} (hj:j<keys.length):
  (vwX bs j).length=8∧(vwX bs j).headD 0=(txtK keys j).length∧(txtK keys j).length≤20∧(∀i:Nat,i<8→(wdV (wordsOf bs) ((vA j:Nat)+8*(i:Int))).toNat=(vwX bs j).getD i 0∧inV (wordsOf bs) ((vA j:Nat)+8*(i:Int)))∧
   txtE (txtK keys j).length ((vwX bs j).tail.take (((txtK keys j).length+7)/8))=(strOfNums (txtK keys j),0):=by
 obtain⟨hv,h56,hbt⟩:=h.vs j hj
 have hvin:=h.vin
 have hva:=vA_in (i:=j) (slabs:=slabs) (by omega)
 have hl:=h.len
 have hkk:keys.getD j 0<18446744073709551616:=by
  rw[List.getD_eq_getElem?_getD,List.getElem?_eq_getElem hj];exact h.kk _ (List.getElem_mem _)
 have h20:(txtK keys j).length≤20:=numL_20 hkk
 have hm:=vA_mod j
 obtain⟨q,hq⟩: ∃q,q=vA j/8:=⟨_,rfl⟩
 have h8q:vA j=8*q:=by omega
 rw[h8q] at hv
 have hpv:=parse_valT h.byt (q:=q) h56 (by omega) hv
 have hX:vwX bs j=((wordsN bs).drop q).take 8:=by unfold vwX;rw[hq]
 rw[←hX] at hpv
 have hlen:(vwX bs j).length=8:=by rw[hX,List.length_take,List.length_drop,wordsN_len];omega
 have hget: ∀i:Nat,i<8→(wdV (wordsOf bs) ((vA j:Nat)+8*(i:Int))).toNat=(vwX bs j).getD i 0∧inV (wordsOf bs) ((vA j:Nat)+8*(i:Int)):=by
  intro i hi
  have e:((vA j:Nat):Int)+8*(i:Int)=((8*(q+i):Nat):Int):=by omega
  refine⟨?_,by rw[e];exact inV_of (by omega) (by omega)⟩
  obtain⟨x,h1,h2,h3⟩:=wordsN_at h.byt (k:=q+i) (by omega)
  rw[e,wdV_of (by omega) (by omega),hX,List.getD_eq_getElem?_getD,List.getElem?_take,if_pos hi,List.getElem?_drop,h1]
  have:wdN bs (8*(q+i))=wAt bs (q+i):=rfl
  rw[this]
  show _=x
  omega
 obtain⟨x,r,hxr⟩: ∃x r,vwX bs j=x::r:=by
  cases hc:vwX bs j with
  | nil=>rw[hc] at hlen;simp at hlen
  | cons x r=>exact⟨x,r,rfl⟩
 have hx:x=(txtK keys j).length:=by
  have h1:=(hget 0 (by omega)).1
  rw[hxr] at h1
  have e:((vA j:Nat):Int)+8*((0:Nat):Int)=((vA j:Nat):Int):=by omega
  rw[e,wdV_of (by omega) (by omega)] at h1
  have e2:wdN bs (vA j)=leW (slB bs (8*q) 8):=by rw[h8q];rfl
  have e3:slB bs (8*q) 8=(slB bs (8*q) 64).take 8:=by unfold slB;rw[List.take_take];rfl
  have e4: ∀d:List Int,(valT d).take 8=(List.range 8).map (byteN d.length):=fun d=>rfl
  rw[e2,e3,hv,e4,leW_word (by omega)] at h1
  simp only[List.getD_cons_zero] at h1
  show x=(numL (keys.getD j 0)).length
  omega
 refine⟨hlen,by rw[hxr];exact hx,h20,hget,?_⟩
 rw[hxr] at hpv ⊢
 have hrl:r.length=7:=by rw[hxr] at hlen;simpa using hlen
 unfold parseV at hpv
 have hc:classZ (x:Nat)=1:=by unfold classZ fitsZ;rw[if_neg (by omega),if_pos (by omega)];rfl
 simp only[] at hpv
 have hw:wordsV x≤8:=by unfold wordsV;omega
 rw[if_neg (by omega),if_neg (by rintro(h | h);omega;exact h hc),if_neg (by rw[hrl];omega),textV_eq,hx] at hpv
 injection hpv with hpv
 simp only[Array.mk.injEq,List.cons.injEq,Value.string.injEq,Value.int.injEq,and_true,true_and] at hpv
 exact Prod.ext hpv.1 hpv.2
def RdSt (bs:List Int) (keys:List Nat) (j n:Nat) (y:RdP):Prop:= ∃i,i<wordsV (txtK keys j).length∧n+i=wordsV (txtK keys j).length∧y={ rdNew (vA j:Nat) with l:=(vwX bs j).take i }
theorem RdSt.new (bs:List Int) (keys:List Nat) (j:Nat):RdSt bs keys j (wordsV (txtK keys j).length) (rdNew (vA j:Nat)):=⟨0,by unfold wordsV;omega,by omega,rfl⟩
theorem RdSt.step (h:Base slabs keys per lag K bs) {j n:Nat} (hj:j<keys.length) {y:RdP} (hy:RdSt bs keys j n y):
  inV (wordsOf bs) y.adr∧y.done=false∧y.l.length≤8∧
  ((∃n',n'<n∧(y.next (wordsOf bs)).done=false∧RdSt bs keys j n' (y.next (wordsOf bs)))∨((y.next (wordsOf bs)).done=true∧(y.next (wordsOf bs)).bad=0∧(y.next (wordsOf bs)).s=strOfNums (txtK keys j))):=by
 obtain⟨i,hi,hn,rfl⟩:=hy
 obtain⟨a1,a2,a3,a4,a5⟩:=h.vw hj
 have h8:i<8:=by unfold wordsV at hi;omega
 have hll:((vwX bs j).take i).length=i:=by rw[List.length_take];omega
 have hadr:({ rdNew (vA j:Nat) with l:=(vwX bs j).take i }:RdP).adr=((vA j:Nat):Int)+8*(i:Int):=by unfold RdP.adr;simp only[hll];rfl
 obtain⟨x,hx⟩: ∃x,(vwX bs j)[i]?=some x:=⟨_,List.getElem?_eq_getElem (by omega)⟩
 have happ:(vwX bs j).take i++[x]=(vwX bs j).take (i+1):=by rw[List.take_add_one,hx];rfl
 have hgd:(vwX bs j).getD i 0=x:=by rw[List.getD_eq_getElem?_getD,hx];rfl
 have hhd:((vwX bs j).take (i+1)).headD 0=(txtK keys j).length:=by
  rw[←a2]
  cases vwX bs j with
  | nil=>rfl
  | cons y l=>rfl
 refine⟨by rw[hadr];exact(a4 i h8).2,rfl,by show((vwX bs j).take i).length≤8;omega,?_⟩
 unfold RdP.next
 rw[if_neg (by simp[rdNew]),hadr,(a4 i h8).1,hgd]
 unfold RdP.got
 simp only[happ,hll,hhd]
 rw[if_neg (by omega)]
 by_cases hlt:i+1<wordsV (txtK keys j).length
 ·rw[if_pos hlt]
  exact Or.inl ⟨n-1,by omega,rfl,i+1,hlt,by omega,rfl⟩
 ·rw[if_neg hlt]
  right
  have e:((vwX bs j).take (i+1)).tail=(vwX bs j).tail.take (((txtK keys j).length+7)/8):=by
   have:i=((txtK keys j).length+7)/8:=by unfold wordsV at hi hlt;omega
   rw[←this]
   cases vwX bs j with
   | nil=>simp
   | cons y l=>rfl
  rw[e,a5]
  exact⟨rfl,rfl,rfl⟩
theorem wsE_zero (r:Nat):wsE keys per lag 0 r=ownE keys per lag 0 r:=by unfold wsE;rw[if_pos rfl];rfl
theorem Core.leafIn (h:Core slabs keys per lag K bs) {r:Nat} {e:Int×Int} (he:e∈wsE keys per lag 0 r): ∃j,j<keys.length∧e=((keys.getD j 0:Int),(vA j:Int)):=by
 obtain⟨i,_,_,hie⟩:=wsE_mem he
 have h3:(ents0 keys)[r*per+i]?=some e:=hie
 have h4:=(List.getElem?_eq_some_iff.1 h3).1
 rw[ents0_len] at h4
 rw[ents0_at h4] at h3
 injection h3 with h3
 exact⟨_,h4,h3.symm⟩
theorem Core.leafHas (h:Core slabs keys per lag K bs) {q:Int} {r j:Nat} (hr:r<nK keys per lag 0) (hj:j<keys.length) (hq:(keys.getD j 0:Int)=q) (h1:lowK keys per lag 0 r≤q) (h2:r+1<nK keys per lag 0→q<lowK keys per lag 0 (r+1)):(q,(vA j:Int))∈wsE keys per lag 0 r:=by
 have hp:0<per:=by have:=h.p2;omega
 have hE:=h.ent 0
 have hjE:(eK keys per lag 0)[j]?=some (q,(vA j:Int)):=by rw[←hq];exact ents0_at hj
 have hlen:(eK keys per lag 0).length=keys.length:=ents0_len keys
 have hlo:r*per≤j:=by
  apply Classical.byContradiction
  intro hn
  have hr0:r≠0:=by intro e;subst e;simp at hn
  have hlt:r*per< (eK keys per lag 0).length:=by rcases nRounds_in hp hr with e | e;exact absurd e hr0;exact e
  have:=hE.lt hjE (List.getElem?_eq_getElem hlt) (by omega)
  have h1:lowR (eK keys per lag 0) per r≤q:=h1
  unfold lowR at h1
  rw[if_neg hr0,List.getD_eq_getElem?_getD,List.getElem?_eq_getElem hlt] at h1
  simp only[Option.getD_some] at h1
  omega
 have hhi:j<r*per+per:=by
  apply Classical.byContradiction
  intro hn
  have hr1:r+1<nK keys per lag 0:=nRounds_more hp (by rw[hlen];omega)
  have h3:=h2 hr1
  have hlt:(r+1)*per< (eK keys per lag 0).length:=by rw[hlen,Nat.succ_mul];omega
  have h3:q<lowR (eK keys per lag 0) per (r+1):=h3
  unfold lowR at h3
  rw[if_neg (by omega),List.getD_eq_getElem?_getD,List.getElem?_eq_getElem hlt] at h3
  simp only[Option.getD_some] at h3
  by_cases e:(r+1)*per=j
  ·have h5:(eK keys per lag 0)[(r+1)*per]=(q,(vA j:Int)):=by
    have h6:(eK keys per lag 0)[(r+1)*per]?=some (q,(vA j:Int)):=by rw[e];exact hjE
    rw[List.getElem?_eq_getElem hlt] at h6
    exact Option.some.inj h6
   rw[h5] at h3
   simp at h3
  ·have:=hE.lt (List.getElem?_eq_getElem hlt) hjE (by rw[Nat.succ_mul] at e ⊢;omega)
   simp only[] at this
   omega
 rw[wsE_zero]
 refine List.mem_of_getElem? (i:=j-r*per) ?_
 rw[ownK_at (by omega),show r*per+(j-r*per)=j by omega]
 exact hjE
def ResK (keys:List Nat) (q rc:Int) (rv:ByteArray):Prop:=(∃j,j<keys.length∧(keys.getD j 0:Int)=q∧rc=0∧rv=strOfNums (txtK keys j))∨((∀j,j<keys.length→(keys.getD j 0:Int)≠q)∧rc=5∧rv={ data:= #[] })
theorem Core.find (h:Core slabs keys per lag K bs) {q:Int} {r:Nat} (hr:r<nK keys per lag 0) (h1:lowK keys per lag 0 r≤q) (h2:r+1<nK keys per lag 0→q<lowK keys per lag 0 (r+1)):
  (∃i j,findN (ndF keys per lag 0 r) q=some i∧j<keys.length∧(keys.getD j 0:Int)=q∧(ndF keys per lag 0 r).p i=(vA j:Int)∧i<8)∨(findN (ndF keys per lag 0 r) q=none∧ ∀j,j<keys.length→(keys.getD j 0:Int)≠q):=by
 have hN:=h.nodeS (k:=0) hr
 cases hf:findN (ndF keys per lag 0 r) q with
 | none=>
  right
  refine⟨rfl,fun j hj hc=> ?_⟩
  have h3:=find_none' hf
  rw[hN.val] at h3
  exact h3 _ (h.leafHas hr hj hc h1 h2) rfl
 | some i=>
  left
  obtain⟨f1,f2⟩:=find_some hf
  have hm:((ndF keys per lag 0 r).k i,(ndF keys per lag 0 r).p i)∈wsE keys per lag 0 r:=by rw[←hN.val];exact List.mem_map.2 ⟨i,f1,rfl⟩
  obtain⟨j,hj,he⟩:=h.leafIn hm
  injection he with e1 e2
  exact⟨i,j,rfl,hj,by rw[←e1,f2],e2,places_lt _ i f1⟩
theorem WkSt.live {v:List Int} {c q:Int} {n:Nat} {x:WkP} (h:WkSt keys per lag K v c q n x):x.over=false:=by cases h<;>rfl
inductive GtSt (keys:List Nat) (per lag K:Nat) (bs:List Int) (c q:Int):Nat→GtP→Prop
 | walk (n:Nat) (x:WkP) (hx:WkSt keys per lag K (wordsOf bs) c q n x):GtSt keys per lag K bs c q (n+15) { gtNew c q with u:= .walk x }
 | read (r j n:Nat) (y:RdP) (hr:r<nK keys per lag 0) (hj:j<keys.length) (hq:(keys.getD j 0:Int)=q) (hy:RdSt bs keys j n y):GtSt keys per lag K bs c q (n+6) { gtNew c q with u:= .read y,at':=(adN keys per lag 0 r:Nat),leaf:=ndF keys per lag 0 r }
 | still (r j n:Nat) (k:Int) (hr:r<nK keys per lag 0) (hj:j<keys.length) (hq:(keys.getD j 0:Int)=q) (hk:k=2∧n=2∨k=3∧n=1):
   GtSt keys per lag K bs c q (n+4) { gtNew c q with u:= .still { stNew (adN keys per lag 0 r:Nat) (ndF keys per lag 0 r) with k:=k },at':=(adN keys per lag 0 r:Nat),leaf:=ndF keys per lag 0 r,v:=strOfNums (txtK keys j) }
 | last (r n:Nat) (l:List Int) (rc:Int) (rv v:ByteArray) (hr:r<nK keys per lag 0) (hR:ResK keys q rc rv) (hl: ∃i,i≤3∧l=(linesL (adN keys per lag 0 r:Nat)).drop i∧n+i=4):
   GtSt keys per lag K bs c q n { gtNew c q with u:= .last ⟨c,l,false⟩ rc rv,at':=(adN keys per lag 0 r:Nat),leaf:=ndF keys per lag 0 r,v:=v }
structure GtEnd (keys:List Nat) (q:Int) (x:GtP):Prop where
 done:x.done=true
 res:ResK keys q x.rc x.rv
 tries:x.tries=0
theorem GtSt.lastly (r:Nat) (rc:Int) (rv v:ByteArray) (hr:r<nK keys per lag 0) {c q:Int} (hR:ResK keys q rc rv) (u:GtU) (why:Int) (hw:why=0):
  GtSt keys per lag K bs c q 4 (({ gtNew c q with u:=u,at':=(adN keys per lag 0 r:Nat),leaf:=ndF keys per lag 0 r,v:=v,why:=why }:GtP).lastly rc rv):=by
 subst hw
 exact .last r 4 _ rc rv v hr hR ⟨0,by omega,rfl,rfl⟩
theorem GtSt.step (h:Built slabs keys per lag K bs) {c q:Int} (hq0:0≤q) {n:Nat} {x:GtP} (hx:GtSt keys per lag K bs c q n x):
  (∃n',n'<n∧(x.next (wordsOf bs)).done=false∧GtSt keys per lag K bs c q n' (x.next (wordsOf bs)))∨GtEnd keys q (x.next (wordsOf bs)):=by
 cases hx with
 | walk n y hy=>
  unfold GtP.next
  rw[if_neg (by simp[gtNew])]
  rcases WkSt.step h hq0 hy with⟨n',g1,g2⟩ | he
  ·left
   have hov: ¬(y.next (wordsOf bs)).over=true:=by rw[g2.live];simp
   show ∃m,_∧(if(y.next (wordsOf bs)).over=true then _ else _:GtP).done=false∧GtSt _ _ _ _ _ _ _ m (if(y.next (wordsOf bs)).over=true then _ else _)
   rw[if_neg hov]
   exact⟨n'+15,by omega,rfl,.walk n' _ g2⟩
  ·left
   obtain⟨e1,e2,_,r,hr,e3,e4,_,_,h1,h2⟩:=he
   show ∃m,_∧(if(y.next (wordsOf bs)).over=true then _ else _:GtP).done=false∧GtSt _ _ _ _ _ _ _ m (if(y.next (wordsOf bs)).over=true then _ else _)
   rw[if_pos e1,if_neg (by rw[e2];simp),e3,e4]
   unfold GtP.look
   simp only[]
   rcases h.toCore.find hr h1 h2 with⟨i,j,f1,f2,f3,f4,f5⟩ | ⟨f1,f2⟩
   ·rw[show(gtNew c q).key=q from rfl,f1]
    simp only[f4]
    refine⟨wordsV (txtK keys j).length+6,?_,rfl,.read r j _ _ hr f2 f3 (RdSt.new bs keys j)⟩
    have:=(h.toBase.vw f2).2.2.1
    unfold wordsV
    omega
   ·rw[show(gtNew c q).key=q from rfl,f1]
    exact⟨4,by omega,rfl,GtSt.lastly r 5 _ _ hr (Or.inr ⟨f2,rfl,rfl⟩) _ 0 rfl⟩
 | read r j n y hr hj hq hy=>
  left
  unfold GtP.next
  rw[if_neg (by simp[gtNew])]
  obtain⟨_,_,_,hy2⟩:=hy.step h.toBase hj
  show ∃m,_∧(if(y.next (wordsOf bs)).done=true then _ else _:GtP).done=false∧GtSt _ _ _ _ _ _ _ m (if(y.next (wordsOf bs)).done=true then _ else _)
  rcases hy2 with⟨n',g1,g2,g3⟩ | ⟨g1,g2,g3⟩
  ·rw[if_neg (by rw[g2];simp)]
   exact⟨n'+6,by omega,rfl,.read r j n' _ hr hj hq g3⟩
  ·rw[if_pos g1,if_pos g2,g2,g3]
   obtain⟨i,hi,hn,_⟩:=hy
   exact⟨2+4,by omega,rfl,.still r j 2 2 hr hj hq (Or.inl ⟨rfl,rfl⟩)⟩
 | still r j n k hr hj hq hk=>
  left
  have hN:=h.toCore.nodeS (k:=0) hr
  have hW:=h.wat (k:=0) (by omega) hr
  have w2:wdV (wordsOf bs) ((adN keys per lag 0 r:Nat)+8*2)=(ndF keys per lag 0 r).nx:=by
   have:=hW.wd 2 (by omega)
   rw[hN.nx];exact this
  have w3:wdV (wordsOf bs) ((adN keys per lag 0 r:Nat)+8*3)=(ndF keys per lag 0 r).ct:=by
   have:=hW.wd 3 (by omega)
   rw[hN.ct];exact this
  unfold GtP.next
  rw[if_neg (by simp[gtNew])]
  rcases hk with⟨rfl,rfl⟩ | ⟨rfl,rfl⟩
  ·have e:(({ stNew (adN keys per lag 0 r:Nat) (ndF keys per lag 0 r) with k:=2 }:StP).next (wordsOf bs))={ stNew (adN keys per lag 0 r:Nat) (ndF keys per lag 0 r) with k:=3 }:=by
    have hs:decide (wdV (wordsOf bs) ((adN keys per lag 0 r:Nat)+8*2)=if(2:Int)=3 then(ndF keys per lag 0 r).ct else(ndF keys per lag 0 r).nx)=true:=by rw[if_neg (by omega)];exact decide_eq_true w2
    unfold StP.next StP.adr
    rw[if_neg (by simp[stNew])]
    show StP.mk _ _ _ 3 (true&&decide (wdV (wordsOf bs) ((adN keys per lag 0 r:Nat)+8*2)=if(2:Int)=3 then(ndF keys per lag 0 r).ct else(ndF keys per lag 0 r).nx)) (decide ((2:Int)=3))=_
    rw[hs]
    rfl
   simp only[e]
   rw[if_neg (by simp[stNew])]
   exact⟨1+4,by omega,rfl,.still r j 1 3 hr hj hq (Or.inr ⟨rfl,rfl⟩)⟩
  ·have e:(({ stNew (adN keys per lag 0 r:Nat) (ndF keys per lag 0 r) with k:=3 }:StP).next (wordsOf bs))={ stNew (adN keys per lag 0 r:Nat) (ndF keys per lag 0 r) with k:=3,over:=true }:=by
    have hs:decide (wdV (wordsOf bs) ((adN keys per lag 0 r:Nat)+8*3)=if(3:Int)=3 then(ndF keys per lag 0 r).ct else(ndF keys per lag 0 r).nx)=true:=by rw[if_pos rfl];exact decide_eq_true w3
    unfold StP.next StP.adr
    rw[if_neg (by simp[stNew])]
    show StP.mk _ _ _ 3 (true&&decide (wdV (wordsOf bs) ((adN keys per lag 0 r:Nat)+8*3)=if(3:Int)=3 then(ndF keys per lag 0 r).ct else(ndF keys per lag 0 r).nx)) (decide ((3:Int)=3))=_
    rw[hs]
    rfl
   simp only[e]
   rw[if_pos trivial,if_neg (by simp[stNew]),if_neg (by simp[gtNew])]
   exact⟨4,by omega,rfl,GtSt.lastly r 0 _ _ hr (Or.inl ⟨j,hj,hq,rfl,rfl⟩) _ 0 rfl⟩
 | last r n l rc rv v hr hR hl=>
  unfold GtP.next
  rw[if_neg (by simp[gtNew])]
  obtain⟨i,hi,rfl,hn⟩:=hl
  by_cases h3:i=3
  ·right
   subst h3
   exact⟨rfl,hR,rfl⟩
  ·left
   have e:(LtP.next ⟨c,(linesL (adN keys per lag 0 r:Nat)).drop i,false⟩)=⟨c,(linesL (adN keys per lag 0 r:Nat)).drop (i+1),false⟩:=by
    rcases(by omega:i=0∨i=1∨i=2) with rfl | rfl | rfl<;>rfl
   simp only[e]
   exact⟨n-1,by omega,rfl,.last r (n-1) _ rc rv v hr hR ⟨i+1,by omega,rfl,by omega⟩⟩
end
end Go.Proofs.YtjmaicckkkdjpaaGreat
