import Derived.Test.YtjmaicckkkdjpaaGreatF01
/- What Build lays, plainly: where nodes stand, level by level. -/
set_option linter.unusedVariables false
set_option linter.unusedSimpArgs false
namespace Go.Proofs.YtjmaicckkkdjpaaGreat
open Go.RowKit
def uN (keys:List Nat):Nat:=(keys.length+14)/15
def nA (u t:Nat):Nat:=1024*(u+1+t/5)+64+192*(t % 5)
def nct (t s:Nat):Nat:=min 5 (t-5*(s-1))
structure NSt (slabs:Nat) (keys:List Nat) (t:Nat) (R:AR):Prop where
 ok:AROk R
 sl:R.slabs=slabs
 used:R.used=uN keys+(t+4)/5
 n0:t=0→R.node=0
 n1:t≠0→R.node=uN keys+(t+4)/5∧R.nodes+5*((t+4)/5-1)=t
 top:TopOK R.bs slabs
 hc: ∀s,1≤s→s≤slabs→wdN R.bs (1024*s)=if s≤uN keys then 1 else if s≤uN keys+(t+4)/5 then 3 else 0
 hb: ∀s,1≤s→s≤slabs→wdN R.bs (1024*s+8)=2^ (if s≤uN keys then vct keys.length s else nct t (s-uN keys))-1
 vs: ∀j,j<keys.length→slB R.bs (vA j) 64=valB (keys.getD j 0)
 vin:keys.length≤15*slabs
theorem VSt.nodes {slabs:Nat} {keys:List Nat} {R:AR} (h:VSt slabs keys keys.length R):NSt slabs keys 0 R:=by
 have hu:=h.used
 have h1:=h.ok.us
 have h2:=h.sl
 refine⟨h.ok,h.sl,by rw[hu];unfold uN;omega,fun _=>h.nod,fun h=>absurd rfl h,h.top,fun s s1 s2=> ?_,fun s s1 s2=> ?_,h.vs,by omega⟩
 ·rw[h.hc s s1 s2]
  unfold uN
  by_cases q:s≤(keys.length+14)/15
  ·rw[if_pos q,if_pos q]
  ·rw[if_neg q,if_neg q,if_neg (by omega)]
 ·rw[h.hb s s1 s2]
  by_cases q:s≤uN keys
  ·rw[if_pos q]
  ·rw[if_neg q]
   have e1:vct keys.length s=0:=by unfold vct;unfold uN at q;omega
   have e2:nct 0 (s-uN keys)=0:=by unfold nct;omega
   rw[e1,e2]
theorem nA_in {u t slabs:Nat} (h:t<5*(slabs-u)):1024*(u+1+t/5)+64≤nA u t∧nA u t+192≤1024*(u+1+t/5)+1024∧u+1+t/5≤slabs:=by unfold nA;omega
theorem nA_apart {u t t':Nat} (h:t≠t'):nA u t+192≤nA u t'∨nA u t'+192≤nA u t:=by unfold nA;omega
theorem nA_inj {u t t':Nat} (h:nA u t=nA u t'):t=t':=by unfold nA at h;omega
theorem nA_head (u t s m:Nat) (hs:1≤s) (hm:m≤16):1024*s+m≤nA u t∨nA u t+192≤1024*s:=by
 unfold nA
 have h5:=Nat.mod_lt t (show 0<5 by omega)
 generalize t/5=q at*
 generalize t % 5=r at*
 rcases Nat.lt_or_ge s (u+q+2) with h | h
 ·left;omega
 ·right;omega
theorem nA_val {keys:List Nat} (t:Nat) {j:Nat} (hj:j<keys.length):vA j+64≤nA (uN keys) t:=by
 have h1:j/15+1≤uN keys:=by unfold uN;omega
 unfold nA vA
 generalize uN keys=u at*
 omega
def LaidAt (bs:List Int) (a:Nat) (nd:NodeA):Prop:= ∀i,i<24→wdN bs (a+8*i)=nWords nd i
theorem NSt.node {slabs:Nat} {keys:List Nat} {t:Nat} {R:AR} (h:NSt slabs keys t R) (hr:R.newNode.2≠0):
  NSt slabs keys (t+1) R.newNode.1∧R.newNode.2=nA (uN keys) t∧t<5*(slabs-uN keys)∧ ∀a nd,(∀s,1≤s→a+192≤1024*s∨1024*s+16≤a)→LaidAt R.bs a nd→LaidAt R.newNode.1.bs a nd:=by
 have hok:=h.ok.newNode
 have hL:=h.ok.len
 have hsl:=h.sl
 rw[hsl] at hL
 have hus:=h.ok.us
 obtain⟨u,hu⟩: ∃u,u=uN keys:=⟨_,rfl⟩
 have hused:=h.used
 have hn0:=h.n0
 have hn1:=h.n1
 have hhc:=h.hc
 have hhb:=h.hb
 rw[←hu] at hused hn1 hhc hhb ⊢
 obtain⟨Q,hQ⟩: ∃Q,Q=R.newNode0:=⟨_,rfl⟩
 have hne:Q.node≠0:=by
  intro e
  apply hr
  unfold AR.newNode
  rw[←hQ,if_pos e]
 have key:Q.node=u+t/5+1∧Q.nodes=t % 5∧Q.used=u+t/5+1∧Q.slabs=slabs∧u+t/5+1≤slabs∧Q.bs.length=R.bs.length∧
   (∀a m,(∀s,1≤s→a+m≤1024*s∨1024*s+16≤a)→slB Q.bs a m=slB R.bs a m)∧(∀s,1≤s→s≤slabs→wdN Q.bs (1024*s)=if s≤u then 1 else if s≤u+t/5+1 then 3 else 0)∧(∀s,1≤s→s≤slabs→wdN Q.bs (1024*s+8)=wdN R.bs (1024*s+8)):=by
  by_cases h0:t % 5=0
  ·have hcond:R.node=0∨R.nodes=5:=by
    by_cases hi:t=0
    ·exact Or.inl (hn0 hi)
    ·have:=(hn1 hi).2;right;omega
   have hu2:R.used=u+t/5:=by omega
   unfold AR.newNode0 at hQ
   rw[if_pos hcond] at hQ
   by_cases hfull:R.used=R.slabs
   ·exfalso
    apply hne
    rw[hQ]
    unfold AR.slab
    rw[if_pos hfull]
   ·unfold AR.slab at hQ
    rw[if_neg hfull] at hQ
    have hbs:Q.bs=putW R.bs (1024*(u+t/5+1)) 3:=by rw[hQ,←hu2]
    have hlt:u+t/5+1≤slabs:=by omega
    refine⟨by rw[hQ,←hu2],by rw[hQ,h0],by rw[hQ,←hu2],by rw[hQ];exact hsl,hlt,by rw[hbs,putW_len _ (by omega)],fun a m hd=> ?_,fun s s1 s2=> ?_,fun s s1 s2=> ?_⟩
    ·rw[hbs,slB_putW (by omega) (by have:=hd (u+t/5+1) (by omega);omega)]
    ·rw[hbs]
     by_cases e:s=u+t/5+1
     ·subst e
      rw[wdN_same (by omega) (by omega),if_neg (by omega),if_pos (Nat.le_refl _)];rfl
     ·rw[wdN_other (by omega) (by omega),hhc s s1 s2]
      by_cases q:s≤u
      ·rw[if_pos q,if_pos q]
      ·rw[if_neg q,if_neg q]
       by_cases q:s≤u+t/5
       ·rw[if_pos (by omega),if_pos (by omega)]
       ·rw[if_neg (by omega),if_neg (by omega)]
    ·rw[hbs,wdN_other (by omega) (by omega)]
  ·have hi:t≠0:=by omega
   obtain⟨q1,q2⟩:=hn1 hi
   have hnod:=h.ok.nod
   have hcond: ¬(R.node=0∨R.nodes=5):=by omega
   unfold AR.newNode0 at hQ
   rw[if_neg hcond] at hQ
   subst hQ
   refine⟨by omega,by omega,by omega,hsl,by omega,rfl,fun _ _ _=>rfl,fun s s1 s2=> ?_,fun _ _ _=>rfl⟩
   rw[hhc s s1 s2]
   by_cases q:s≤u
   ·rw[if_pos q,if_pos q]
   ·rw[if_neg q,if_neg q]
    by_cases q:s≤u+t/5+1
    ·rw[if_pos (by omega),if_pos q]
    ·rw[if_neg (by omega),if_neg q]
 obtain⟨q1,q2,q3,q4,q6,q7,q8,q9,q10⟩:=key
 have hnv:R.newNode=({ Q.taken Q.node Q.nodes with nodes:=Q.nodes+1 },1024*Q.node+64+192*Q.nodes):=by
  unfold AR.newNode
  rw[←hQ,if_neg hne]
 rw[hnv] at hok ⊢
 have hbit:(wdN Q.bs (1024*(u+t/5+1)+8)).toNat+2^ (t % 5)=2^ (t % 5+1)-1:=by
  rw[q10 _ (by omega) q6,hhb _ (by omega) q6,if_neg (by omega)]
  have:nct t (u+t/5+1-u)=t % 5:=by unfold nct;omega
  rw[this]
  have h2:(1:Nat)≤2^ (t % 5):=Nat.one_le_two_pow
  have h3:((2:Int)^ (t % 5)-1).toNat=2^ (t % 5)-1:=by
   have:((2:Int)^ (t % 5))=((2^ (t % 5):Nat):Int):=by norm_cast
   rw[this];omega
  rw[h3,Nat.pow_succ];omega
 have hbs:(Q.taken Q.node Q.nodes).bs=putW Q.bs (1024*(u+t/5+1)+8) (2^ (t % 5+1)-1):=by
  show putW _ _ _=_
  rw[q1,q2,hbit]
 have hin:1024*(u+t/5+1)+8+8≤Q.bs.length:=by rw[q7,hL];omega
 have h15:(2:Nat)^ (t % 5+1)≤32768:=pow_small (by omega)
 have far: ∀a m,(∀s,1≤s→a+m≤1024*s∨1024*s+16≤a)→slB (Q.taken Q.node Q.nodes).bs a m=slB R.bs a m:=fun a m hd=>by
  rw[hbs,slB_putW hin (by have:=hd (u+t/5+1) (by omega);omega)]
  exact q8 a m hd
 have hvin:=h.vin
 refine⟨⟨hok,q4,?_,fun h=>by omega,fun _=>⟨?_,?_⟩,?_,fun s s1 s2=> ?_,fun s s1 s2=> ?_,fun j hj=> ?_,hvin⟩,?_,by omega,fun a nd hd hl i hi=> ?_⟩
 ·show Q.used=_
  rw[q3,←hu];omega
 ·show Q.node=_
  rw[q1,←hu];omega
 ·show Q.nodes+1+_=_
  rw[q2];omega
 ·have e: ∀a,a+8≤64→wdN (Q.taken Q.node Q.nodes).bs a=wdN R.bs a:=fun a ha=>by
   rw[wdN_slB,far a 8 (fun s hs=>by omega),←wdN_slB]
  obtain⟨t0,t1,t2,t3,t4,t5,t6⟩:=h.top
  show TopOK (Q.taken Q.node Q.nodes).bs slabs
  refine⟨?_,?_,?_,?_,?_,?_,?_⟩<;>rw[e _ (by omega)]<;>assumption
 ·show wdN (Q.taken Q.node Q.nodes).bs _=_
  rw[hbs,wdN_other hin (by omega),q9 s s1 s2,←hu]
  by_cases q:s≤u
  ·rw[if_pos q,if_pos q]
  ·rw[if_neg q,if_neg q]
   by_cases q:s≤u+t/5+1
   ·rw[if_pos q,if_pos (by omega)]
   ·rw[if_neg q,if_neg (by omega)]
 ·show wdN (Q.taken Q.node Q.nodes).bs _=_
  rw[hbs,←hu]
  by_cases e:s=u+t/5+1
  ·subst e
   rw[wdN_same hin (by omega),if_neg (by omega)]
   have:nct (t+1) (u+t/5+1-u)=t % 5+1:=by unfold nct;omega
   rw[this]
   have h2:(1:Nat)≤2^ (t % 5+1):=Nat.one_le_two_pow
   rw[Int.natCast_sub h2];norm_cast
  ·rw[wdN_other hin (by omega),q10 s s1 s2,hhb s s1 s2]
   by_cases q:s≤u
   ·rw[if_pos q,if_pos q]
   ·rw[if_neg q,if_neg q]
    have:nct (t+1) (s-u)=nct t (s-u):=by unfold nct;omega
    rw[this]
 ·show slB (Q.taken Q.node Q.nodes).bs _ _=_
  rw[far _ _ (fun s hs=>by unfold vA;omega)]
  exact h.vs j hj
 ·show 1024*Q.node+64+192*Q.nodes=_
  rw[q1,q2];unfold nA;omega
 ·show wdN (Q.taken Q.node Q.nodes).bs _=_
  rw[wdN_slB,far _ 8 (fun s hs=>by have:=hd s hs;omega),←wdN_slB]
  exact hl i hi
theorem NSt.rounds {slabs:Nat} {keys:List Nat} {t:Nat} {R:AR} (h:NSt slabs keys t R) (lvl per:Nat) (l:List (Int×Int)): ∀k,R.roomy lvl per l k→
  NSt slabs keys (t+k) (R.rounds lvl per l k).1∧(R.rounds lvl per l k).2=((List.range k).map fun r=>(nA (uN keys) (t+r),ndOf lvl (nA (uN keys) (t+r)) (r==0) (ownK per l r)))∧(0<k→t+k≤5*(slabs-uN keys))∧
   ∀a nd,(∀s,1≤s→a+192≤1024*s∨1024*s+16≤a)→LaidAt R.bs a nd→LaidAt (R.rounds lvl per l k).1.bs a nd
 | 0,_=>⟨h,rfl,fun h=>by omega,fun a nd _ h=>h⟩
 | k+1,hr=>by
  obtain⟨p1,p2,p3,p4⟩:=NSt.rounds h lvl per l k (fun j hj=>hr j (by omega))
  obtain⟨p5,p6,p7,p8⟩:=p1.node (hr k (by omega))
  refine⟨p5,?_,fun _=>by omega,fun a nd hd hl=>p8 a nd hd (p4 a nd hd hl)⟩
  show(R.rounds lvl per l k).2++[_]=_
  rw[p2,List.range_succ,List.map_append,p6];rfl
theorem layTo_far {R:AR} {a:Nat} {nd:NodeA} (ha:a+192≤R.bs.length): ∀i,i≤24→ ∀b m,(b+m≤a∨a+192≤b)→slB (R.layTo a nd i).bs b m=slB R.bs b m
 | 0,_,_,_,_=>rfl
 | i+1,hi,b,m,hd=>by
  have h0:=layTo_bs (R:=R) (nd:=nd) ha i (by omega)
  show slB (putW _ _ _) b m=_
  rw[slB_putW (by rw[h0];omega) (by omega)]
  exact layTo_far ha i (by omega) b m hd
theorem layTo_in {R:AR} {a:Nat} {nd:NodeA} (hn:NdOK nd) (ha:a+192≤R.bs.length): ∀i,i≤24→ ∀j,j<i→wdN (R.layTo a nd i).bs (a+8*j)=nWords nd j
 | 0,_,j,hj=>by omega
 | i+1,hi,j,hj=>by
  have h0:=layTo_bs (R:=R) (nd:=nd) ha i (by omega)
  show wdN (putW _ _ _) _=_
  by_cases e:j=i
  ·subst e
   have hw:=hn.words j
   unfold U64 at hw
   rw[wdN_same (by rw[h0];omega) (by omega)]
   omega
  ·rw[wdN_other (by rw[h0];omega) (by omega)]
   exact layTo_in hn ha i (by omega) j (by omega)
theorem layTo_same (R:AR) (a:Nat) (nd:NodeA): ∀i,(R.layTo a nd i).slabs=R.slabs∧(R.layTo a nd i).used=R.used∧(R.layTo a nd i).node=R.node∧(R.layTo a nd i).nodes=R.nodes
 | 0=>⟨rfl,rfl,rfl,rfl⟩
 | i+1=>layTo_same R a nd i
theorem NSt.lay {slabs:Nat} {keys:List Nat} {t:Nat} {R:AR} (h:NSt slabs keys t R) {t':Nat} (ht:t'<5*(slabs-uN keys)) {nd:NodeA} (hn:NdOK nd):
  NSt slabs keys t (R.lay (nA (uN keys) t') nd)∧LaidAt (R.lay (nA (uN keys) t') nd).bs (nA (uN keys) t') nd∧ ∀t2 nd2,t2≠t'→LaidAt R.bs (nA (uN keys) t2) nd2→LaidAt (R.lay (nA (uN keys) t') nd).bs (nA (uN keys) t2) nd2:=by
 have hL:=h.ok.len
 rw[h.sl] at hL
 have hin:=nA_in ht
 have ha:nA (uN keys) t'+192≤R.bs.length:=by rw[hL];omega
 have far:=fun b m hd=>layTo_far (R:=R) (nd:=nd) ha 24 (Nat.le_refl _) b m hd
 have hs:=layTo_same R (nA (uN keys) t') nd 24
 have hok:=h.ok.lay (nd:=nd) ha (offHead_in hin.1 (by omega))
 unfold AR.lay at hok ⊢
 refine⟨⟨hok,by rw[hs.1];exact h.sl,by rw[hs.2.1];exact h.used,fun e=>by rw[hs.2.2.1];exact h.n0 e,fun e=>by rw[hs.2.2.1,hs.2.2.2];exact h.n1 e,?_,fun s s1 s2=> ?_,fun s s1 s2=> ?_,fun j hj=> ?_,h.vin⟩,layTo_in hn ha 24 (Nat.le_refl _),fun t2 nd2 hne hl i hi=> ?_⟩
 ·have e: ∀a,a+8≤64→wdN (R.layTo (nA (uN keys) t') nd 24).bs a=wdN R.bs a:=fun a ha2=>by rw[wdN_slB,far a 8 (by omega),←wdN_slB]
  obtain⟨t0,t1,t2,t3,t4,t5,t6⟩:=h.top
  refine⟨?_,?_,?_,?_,?_,?_,?_⟩<;>rw[e _ (by omega)]<;>assumption
 ·rw[wdN_slB,far _ 8 (by have:=nA_head (uN keys) t' s 8 s1 (by omega);omega),←wdN_slB];exact h.hc s s1 s2
 ·rw[wdN_slB,far _ 8 (by have:=nA_head (uN keys) t' s 16 s1 (by omega);omega),←wdN_slB];exact h.hb s s1 s2
 ·rw[far _ _ (by have:=nA_val t' hj;omega)];exact h.vs j hj
 ·rw[wdN_slB,far _ 8 (by have:=nA_apart (u:=uN keys) hne;omega),←wdN_slB];exact hl i hi
theorem NSt.layAll {slabs:Nat} {keys:List Nat} {t:Nat}: ∀(row:List (Nat×NodeA)) {R:AR},NSt slabs keys t R→(∀x∈row,NdOK x.2∧ ∃t',t'<5*(slabs-uN keys)∧x.1=nA (uN keys) t')→(row.map (·.1)).Nodup→
  NSt slabs keys t (row.foldl (fun R x=>R.lay x.1 x.2) R)∧(∀x∈row,LaidAt (row.foldl (fun R x=>R.lay x.1 x.2) R).bs x.1 x.2)∧ ∀t2 nd2,nA (uN keys) t2∉row.map (·.1)→LaidAt R.bs (nA (uN keys) t2) nd2→LaidAt (row.foldl (fun R x=>R.lay x.1 x.2) R).bs (nA (uN keys) t2) nd2
 | [],R,h,_,_=>⟨h,fun x hx=>(by cases hx),fun _ _ _ h=>h⟩
 | x::r,R,h,hr,hnd=>by
  obtain⟨hx1,t',ht,hx2⟩:=hr x (List.mem_cons_self ..)
  rw[List.map_cons] at hnd
  obtain⟨hnd1,hnd2⟩:=List.nodup_cons.1 hnd
  obtain⟨p1,p2,p3⟩:=h.lay ht hx1
  rw[List.foldl_cons]
  rw[←hx2] at p1 p2 p3
  obtain⟨q1,q2,q3⟩:=NSt.layAll r p1 (fun y hy=>hr y (List.mem_cons_of_mem _ hy)) hnd2
  refine⟨q1,fun y hy=> ?_,fun t2 nd2 hm hl=> ?_⟩
  ·rcases List.mem_cons.1 hy with rfl | hy
   ·have:=q3 t' y.2 (by rw[←hx2];exact hnd1) (by rw[←hx2];exact p2)
    rw[←hx2] at this
    exact this
   ·exact q2 y hy
  ·rw[List.map_cons,List.mem_cons] at hm
   refine q3 t2 nd2 (fun h=>hm (Or.inr h)) (p3 t2 nd2 (fun e=>hm (Or.inl ?_)) hl)
   rw[hx2,e]
def rowS (u t lvl per:Nat) (l:List (Int×Int)):List (Nat×NodeA):=
 (List.range (nRounds per l)).map fun r=>(nA u (t+r),{ ndOf lvl (nA u (t+r)) (r==0) (ownK per l r) with nx:=if r+1<nRounds per l then(nA u (t+r+1):Int) else 0 })
theorem rowS_len (u t lvl per:Nat) (l:List (Int×Int)):(rowS u t lvl per l).length=nRounds per l:=by unfold rowS;simp
theorem rowS_at {u t lvl per r:Nat} {l:List (Int×Int)} (h:r<nRounds per l):(rowS u t lvl per l)[r]?=some (nA u (t+r),{ ndOf lvl (nA u (t+r)) (r==0) (ownK per l r) with nx:=if r+1<nRounds per l then(nA u (t+r+1):Int) else 0 }):=by
 unfold rowS;rw[List.getElem?_map,List.getElem?_range h];rfl
theorem NSt.level {slabs:Nat} {keys:List Nat} {t:Nat} {R:AR} (h:NSt slabs keys t R) (hbig:R.bs.length≤1000000) {lvl per:Nat} {l:List (Int×Int)} (hl:lvl≤15) (hk: ∀x∈l,U64 x.1∧U64 x.2) (hr:R.roomy lvl per l (nRounds per l)):
  NSt slabs keys (t+nRounds per l) (R.level lvl per l)∧R.levelRow lvl per l=rowS (uN keys) t lvl per l∧t+nRounds per l≤5*(slabs-uN keys)∧(∀x∈rowS (uN keys) t lvl per l,LaidAt (R.level lvl per l).bs x.1 x.2)∧ ∀t2 nd2,t2<t→LaidAt R.bs (nA (uN keys) t2) nd2→LaidAt (R.level lvl per l).bs (nA (uN keys) t2) nd2:=by
 obtain⟨p1,p2,p3,p4⟩:=h.rounds lvl per l _ hr
 have hpos:0<nRounds per l:=by unfold nRounds;omega
 have p3:=p3 hpos
 have hrow:R.levelRow lvl per l=rowS (uN keys) t lvl per l:=by
  unfold AR.levelRow linked linkTo
  rw[p2]
  apply List.ext_getElem?
  intro r
  rw[List.getElem?_mapIdx]
  by_cases hrr:r<nRounds per l
  ·rw[rowS_at hrr,List.getElem?_map,List.getElem?_range hrr]
   simp only[Option.map_some,List.length_map,List.length_range,hrr,true_and]
   congr 2
   by_cases h1:r+1<nRounds per l
   ·rw[if_pos h1,if_pos h1,List.getD_eq_getElem?_getD,List.getElem?_map,List.getElem?_range h1];rfl
   ·rw[if_neg h1,if_neg h1];rfl
  ·rw[List.getElem?_eq_none (by simp;omega),List.getElem?_eq_none (by rw[rowS_len];omega)];rfl
 have hnd:=levelRow_nd h.ok hbig hl hk hr
 rw[hrow] at hnd
 have hlev:R.level lvl per l=(rowS (uN keys) t lvl per l).foldl (fun R x=>R.lay x.1 x.2) (R.rounds lvl per l (nRounds per l)).1:=by
  unfold AR.level AR.layRow
  have:linked (R.rounds lvl per l (nRounds per l)).2=rowS (uN keys) t lvl per l:=hrow
  rw[this,List.take_of_length_le (by rw[rowS_len];exact Nat.le_refl _)]
 have hmem: ∀x∈rowS (uN keys) t lvl per l,∃r,r<nRounds per l∧x.1=nA (uN keys) (t+r):=fun x hx=>by
  unfold rowS at hx
  obtain⟨r,hr,rfl⟩:=List.mem_map.1 hx
  exact⟨r,List.mem_range.1 hr,rfl⟩
 have hnod:((rowS (uN keys) t lvl per l).map (·.1)).Nodup:=by
  unfold rowS
  rw[List.map_map]
  unfold List.Nodup
  rw[List.pairwise_map]
  refine List.Pairwise.imp_of_mem ?_ List.pairwise_lt_range
  intro a b _ _ hab e
  have:=nA_inj e
  omega
 obtain⟨q1,q2,q3⟩:=NSt.layAll _ p1 (fun x hx=>⟨hnd x hx,by
  obtain⟨r,hr,e⟩:=hmem x hx
  exact⟨t+r,by omega,e⟩⟩) hnod
 rw[hlev]
 refine⟨q1,hrow,p3,q2,fun t2 nd2 ht hl=>q3 t2 nd2 (fun hm=> ?_) (p4 _ nd2 (fun s hs=> ?_) hl)⟩
 ·obtain⟨x,hx,e⟩:=List.mem_map.1 hm
  obtain⟨r,_,e2⟩:=hmem x hx
  have:=nA_inj (e2.symm.trans e)
  omega
 ·have:=nA_head (uN keys) t2 s 16 hs (by omega)
  omega
def stk (u per lag:Nat) (l:List (Int×Int)):Nat→Nat×List (Int×Int)
 | 0=>(0,l)
 | k+1=>((stk u per lag l k).1+nRounds per (stk u per lag l k).2,upsOf lag (rowS u (stk u per lag l k).1 k per (stk u per lag l k).2))
def rowK (u per lag:Nat) (l:List (Int×Int)) (k:Nat):List (Nat×NodeA):=rowS u (stk u per lag l k).1 k per (stk u per lag l k).2
theorem lvls_st {slabs per lag:Nat} {keys:List Nat} {R:AR} {l:List (Int×Int)} (h:NSt slabs keys 0 R) (hbig:R.bs.length≤1000000) (hp:2≤per) (hl:l.length≤1000) (hk: ∀x∈l,U64 x.1∧U64 x.2): ∀k,k≤16→(∀j,j<k→R.lvRoom per lag l j)→
  NSt slabs keys (stk (uN keys) per lag l k).1 (R.lvls per lag l k).1∧(R.lvls per lag l k).2.2=(stk (uN keys) per lag l k).2∧(R.lvls per lag l k).2.1=(List.range k).map (rowK (uN keys) per lag l)∧(stk (uN keys) per lag l k).1≤5*(slabs-uN keys)∧
   ∀j,j<k→ ∀x∈rowK (uN keys) per lag l j,LaidAt (R.lvls per lag l k).1.bs x.1 x.2
 | 0,_,_=>⟨h,rfl,rfl,Nat.zero_le _,fun j hj=>by omega⟩
 | k+1,h16,hr=>by
  obtain⟨p1,p2,p3,p4,p5⟩:=lvls_st h hbig hp hl hk k (by omega) (fun j hj=>hr j (by omega))
  obtain⟨_,q2,_,_,q5,_⟩:=lvls_inv h.ok hbig hp hl hk k (by omega) (fun j hj=>hr j (by omega))
  have hroom:=hr k (by omega)
  unfold AR.lvRoom at hroom
  obtain⟨z1,z2,z3,z4,z5⟩:=p1.level (by rw[q2];exact hbig) (by omega) q5 hroom
  rw[p2] at z1 z2 z3 z4 z5
  refine⟨?_,?_,?_,z3,fun j hj x hx=> ?_⟩
  ·show NSt slabs keys _ ((R.lvls per lag l k).1.level k per (R.lvls per lag l k).2.2)
   rw[p2];exact z1
  ·show upsOf lag ((R.lvls per lag l k).1.levelRow k per (R.lvls per lag l k).2.2)=_
   rw[p2,z2];rfl
  ·show(R.lvls per lag l k).2.1++[(R.lvls per lag l k).1.levelRow k per (R.lvls per lag l k).2.2]=_
   rw[p2,z2,p3,List.range_succ,List.map_append];rfl
  ·show LaidAt ((R.lvls per lag l k).1.level k per (R.lvls per lag l k).2.2).bs _ _
   rw[p2]
   by_cases e:j=k
   ·subst e;exact z4 x hx
   ·have hlow: ∀a b,a≤b→(stk (uN keys) per lag l a).1≤(stk (uN keys) per lag l b).1:=fun a b hab=>by
     induction hab with
     | refl=>exact Nat.le_refl _
     | step _ ih=>exact Nat.le_trans ih (Nat.le_add_right _ _)
    have hx2:=hx
    unfold rowK rowS at hx2
    obtain⟨r,hr2,rfl⟩:=List.mem_map.1 hx2
    have hr3:=List.mem_range.1 hr2
    refine z5 _ _ ?_ (p5 j (by omega) _ hx)
    have:=hlow (j+1) k (by omega)
    have e2:(stk (uN keys) per lag l (j+1)).1=(stk (uN keys) per lag l j).1+nRounds per (stk (uN keys) per lag l j).2:=rfl
    omega
end Go.Proofs.YtjmaicckkkdjpaaGreat
