import Derived.Test.YtjmaicckkkdjpaaGreatM01
/- What Build lays, plainly: where values stand, and what stands there. -/
set_option linter.unusedVariables false
set_option linter.unusedSimpArgs false
namespace Go.Proofs.YtjmaicckkkdjpaaGreat
open Go.RowKit
def slB (bs:List Int) (a m:Nat):List Int:=(bs.drop a).take m
theorem slB_eq {bs bs':List Int} {a m:Nat} (h: ∀i,a≤i→i<a+m→bs'[i]?=bs[i]?):slB bs' a m=slB bs a m:=by
 unfold slB
 apply List.ext_getElem?
 intro j
 rw[List.getElem?_take,List.getElem?_take]
 by_cases hj:j<m
 ·rw[if_pos hj,if_pos hj,List.getElem?_drop,List.getElem?_drop,h _ (by omega) (by omega)]
 ·rw[if_neg hj,if_neg hj]
theorem slB_putW {bs:List Int} {a x b m:Nat} (h:a+8≤bs.length) (hd:b+m≤a∨a+8≤b):slB (putW bs a x) b m=slB bs b m:=
 slB_eq fun i h1 h2=>by
  rw[putW_get h]
  rcases hd with hd | hd
  ·rw[if_pos (by omega)]
  ·rw[if_neg (by omega),if_neg (by omega)]
theorem wdN_slB (bs:List Int) (a:Nat):wdN bs a=leW (slB bs a 8):=rfl
theorem bytesTo_get {R:AR} {a:Nat} {l:List Int}: ∀{k i:Nat},i<R.bs.length→(R.bytesTo a l k).bs[i]?=if a≤i∧i<a+k then some (l.getD (i-a) 0) else R.bs[i]?
 | 0,i,hi=>by rw[if_neg (by omega)];rfl
 | k+1,i,hi=>by
  show((R.bytesTo a l k).bs.set (a+k) (l.getD k 0))[i]?=_
  rw[List.getElem?_set,bytesTo_bs,bytesTo_get hi]
  by_cases h:a+k=i
  ·subst h
   rw[if_pos rfl,if_pos hi,if_pos (by omega),Nat.add_sub_cancel_left]
  ·rw[if_neg h]
   by_cases h2:a≤i∧i<a+k
   ·rw[if_pos h2,if_pos (by omega)]
   ·rw[if_neg h2,if_neg (by omega)]
def vA (i:Nat):Nat:=1024*(1+i/15)+64+64*(i % 15)
def valT (d:List Int):List Int:=(List.range 8).map (byteN d.length)++(d++List.replicate (56-d.length) 0)
abbrev valB (key:Nat):List Int:=valT (numL key)
def TopOK (bs:List Int) (slabs:Nat):Prop:=
 wdN bs 0=5929342154728227142∧wdN bs 8=((1024*(slabs+1):Nat):Int)∧wdN bs 24=((18446744073709551615-1024*(slabs+1):Nat):Int)∧wdN bs 32=0∧wdN bs 40=0∧wdN bs 48=0∧wdN bs 56=0
def vct (i s:Nat):Nat:=min 15 (i-15*(s-1))
structure VSt (slabs:Nat) (keys:List Nat) (i:Nat) (R:AR):Prop where
 ok:AROk R
 sl:R.slabs=slabs
 used:R.used=(i+14)/15
 v0:i=0→R.value=0
 v1:i≠0→R.value=(i+14)/15∧R.values+15*((i+14)/15-1)=i
 nod:R.node=0
 top:TopOK R.bs slabs
 hc: ∀s,1≤s→s≤slabs→wdN R.bs (1024*s)=if s≤(i+14)/15 then 1 else 0
 hb: ∀s,1≤s→s≤slabs→wdN R.bs (1024*s+8)=2^vct i s-1
 vs: ∀j,j<i→slB R.bs (vA j) 64=valB (keys.getD j 0)
 zs: ∀j,i≤j→j<15*slabs→slB R.bs (vA j) 64=List.replicate 64 0
theorem put_bs (R:AR) (a x:Nat):(R.put a x).bs=putW R.bs a x:=rfl
theorem slB_zero (m a k:Nat) (h:a+k≤m):slB (List.replicate m 0) a k=List.replicate k 0:=by
 unfold slB
 rw[List.drop_replicate,List.take_replicate]
 congr 1
 omega
theorem VSt.new {slabs:Nat} (keys:List Nat) (h1:1≤slabs) (h64:slabs≤64):VSt slabs keys 0 (AR.new slabs):=by
 obtain⟨ok,ln⟩:=new_ok h1 h64
 have hb:(AR.new slabs).bs=putW (putW (putW (List.replicate (1024*(slabs+1)) 0) 0 5929342154728227142) 8 (1024*(slabs+1))) 24 (18446744073709551615-1024*(slabs+1)):=rfl
 have l0:(List.replicate (1024*(slabs+1)) (0:Int)).length=1024*(slabs+1):=List.length_replicate
 have l1:(putW (List.replicate (1024*(slabs+1)) 0) 0 5929342154728227142).length=1024*(slabs+1):=(putW_len _ (by omega)).trans l0
 have l2:(putW (putW (List.replicate (1024*(slabs+1)) 0) 0 5929342154728227142) 8 (1024*(slabs+1))).length=1024*(slabs+1):=(putW_len _ (by omega)).trans l1
 have far: ∀a m,64≤a→slB (AR.new slabs).bs a m=slB (List.replicate (1024*(slabs+1)) 0) a m:=fun a m ha=>by
  rw[hb,slB_putW (by omega) (by omega),slB_putW (by omega) (by omega),slB_putW (by omega) (by omega)]
 have hz: ∀a,64≤a→wdN (AR.new slabs).bs a=0:=fun a ha=>by rw[wdN_slB,far a 8 ha,←wdN_slB,wdN_zero]
 have hz2: ∀a,32≤a→a+8≤64→wdN (AR.new slabs).bs a=0:=fun a ha hb2=>by
  rw[hb,wdN_other (by omega) (by omega),wdN_other (by omega) (by omega),wdN_other (by omega) (by omega),wdN_zero]
 refine⟨ok,rfl,rfl,fun _=>rfl,fun h=>absurd rfl h,rfl,⟨?_,?_,?_,hz2 32 (by omega) (by omega),hz2 40 (by omega) (by omega),hz2 48 (by omega) (by omega),hz2 56 (by omega) (by omega)⟩,fun s s1 s2=> ?_,fun s s1 s2=> ?_,fun j hj=>absurd hj (Nat.not_lt_zero _),fun j _ hj=> ?_⟩
 ·rw[hb,wdN_other (by omega) (by omega),wdN_other (by omega) (by omega),wdN_same (by omega) (by omega)];rfl
 ·rw[hb,wdN_other (by omega) (by omega),wdN_same (by omega) (by omega)]
 ·rw[hb,wdN_same (by omega) (by omega)]
 ·rw[hz _ (by omega),if_neg (by omega)]
 ·rw[hz _ (by omega)];unfold vct;rw[Nat.zero_sub];rfl
 ·have:vA j+64≤1024*(slabs+1):=by unfold vA;omega
  rw[far _ _ (by unfold vA;omega),slB_zero _ _ _ this]
theorem vA_in {i slabs:Nat} (h:i<15*slabs):1024*(1+i/15)+64≤vA i∧vA i+64≤1024*(1+i/15)+1024∧1+i/15≤slabs:=by unfold vA;omega
theorem vA_apart {i j:Nat} (h:i≠j):vA i+64≤vA j∨vA j+64≤vA i:=by unfold vA;omega
theorem VSt.value {slabs:Nat} {keys:List Nat} {i:Nat} {R:AR} (h:VSt slabs keys i R) (hr:R.newValue.2≠0):
  i<15*slabs∧R.newValue.2=vA i∧R.newValue.1.slabs=slabs∧R.newValue.1.used=(i+1+14)/15∧R.newValue.1.value=(i+1+14)/15∧R.newValue.1.values+15*((i+1+14)/15-1)=i+1∧R.newValue.1.node=0∧
   (∀a m,(∀s,1≤s→a+m≤1024*s∨1024*s+16≤a)→slB R.newValue.1.bs a m=slB R.bs a m)∧
   (∀s,1≤s→s≤slabs→wdN R.newValue.1.bs (1024*s)=if s≤(i+1+14)/15 then 1 else 0)∧
   (∀s,1≤s→s≤slabs→wdN R.newValue.1.bs (1024*s+8)=2^vct (i+1) s-1):=by
 have hL:=h.ok.len
 have hsl:=h.sl
 rw[hsl] at hL
 have hus:=h.ok.us
 obtain⟨Q,hQ⟩: ∃Q,Q=R.newValue0:=⟨_,rfl⟩
 have hne:Q.value≠0:=by
  intro e
  apply hr
  unfold AR.newValue
  rw[←hQ,if_pos e]
 have key:Q.value=i/15+1∧Q.values=i % 15∧Q.used=i/15+1∧Q.slabs=slabs∧Q.node=0∧i/15+1≤slabs∧Q.bs.length=R.bs.length∧
   (∀a m,(∀s,1≤s→a+m≤1024*s∨1024*s+16≤a)→slB Q.bs a m=slB R.bs a m)∧(∀s,1≤s→s≤slabs→wdN Q.bs (1024*s)=if s≤i/15+1 then 1 else 0)∧(∀s,1≤s→s≤slabs→wdN Q.bs (1024*s+8)=2^vct i s-1):=by
  by_cases h0:i % 15=0
  ·have hcond:R.value=0∨R.values=15:=by
    by_cases hi:i=0
    ·exact Or.inl (h.v0 hi)
    ·have:=(h.v1 hi).2;right;omega
   have hu:R.used=i/15:=by have:=h.used;omega
   unfold AR.newValue0 at hQ
   rw[if_pos hcond] at hQ
   by_cases hfull:R.used=R.slabs
   ·exfalso
    apply hne
    rw[hQ]
    unfold AR.slab
    rw[if_pos hfull]
   ·unfold AR.slab at hQ
    rw[if_neg hfull] at hQ
    have hbs:Q.bs=putW R.bs (1024*(i/15+1)) 1:=by rw[hQ,←hu]
    have hlt:i/15+1≤slabs:=by omega
    refine⟨by rw[hQ,←hu],by rw[hQ,h0],by rw[hQ,←hu],by rw[hQ];exact hsl,by rw[hQ];exact h.nod,hlt,by rw[hbs,putW_len _ (by omega)],fun a m hd=> ?_,fun s s1 s2=> ?_,fun s s1 s2=> ?_⟩
    ·rw[hbs,slB_putW (by omega) (by have:=hd (i/15+1) (by omega);omega)]
    ·rw[hbs]
     by_cases e:s=i/15+1
     ·subst e
      rw[wdN_same (by omega) (by omega),if_pos (Nat.le_refl _)];rfl
     ·rw[wdN_other (by omega) (by omega),h.hc s s1 s2]
      by_cases q:s≤i/15
      ·rw[if_pos (by omega),if_pos (by omega)]
      ·rw[if_neg (by omega),if_neg (by omega)]
    ·rw[hbs,wdN_other (by omega) (by omega),h.hb s s1 s2]
  ·have hi:i≠0:=by omega
   obtain⟨q1,q2⟩:=h.v1 hi
   have hcond: ¬(R.value=0∨R.values=15):=by omega
   unfold AR.newValue0 at hQ
   rw[if_neg hcond] at hQ
   subst hQ
   have hu:=h.used
   refine⟨by omega,by omega,by omega,hsl,h.nod,by omega,rfl,fun _ _ _=>rfl,fun s s1 s2=> ?_,h.hb⟩
   rw[h.hc s s1 s2]
   by_cases q:s≤i/15+1
   ·rw[if_pos (by omega),if_pos q]
   ·rw[if_neg (by omega),if_neg q]
 obtain⟨q1,q2,q3,q4,q5,q6,q7,q8,q9,q10⟩:=key
 have hnv:R.newValue=({ Q.taken Q.value Q.values with values:=Q.values+1 },1024*Q.value+64*(Q.values+1)):=by
  unfold AR.newValue
  rw[←hQ,if_neg hne]
 rw[hnv]
 have hbit:(wdN Q.bs (1024*(i/15+1)+8)).toNat+2^ (i % 15)=2^ (i % 15+1)-1:=by
  rw[q10 _ (by omega) q6]
  have:vct i (i/15+1)=i % 15:=by unfold vct;omega
  rw[this]
  have h2:(1:Nat)≤2^ (i % 15):=Nat.one_le_two_pow
  have h3:((2:Int)^ (i % 15)-1).toNat=2^ (i % 15)-1:=by
   have:((2:Int)^ (i % 15))=((2^ (i % 15):Nat):Int):=by norm_cast
   rw[this];omega
  rw[h3,Nat.pow_succ];omega
 have hbs:(Q.taken Q.value Q.values).bs=putW Q.bs (1024*(i/15+1)+8) (2^ (i % 15+1)-1):=by
  show putW _ _ _=_
  rw[q1,q2,hbit]
 have hin:1024*(i/15+1)+8+8≤Q.bs.length:=by rw[q7,hL];omega
 have h15:(2:Nat)^ (i % 15+1)≤32768:=pow_small (by omega)
 refine⟨by omega,?_,q4,?_,?_,?_,q5,fun a m hd=> ?_,fun s s1 s2=> ?_,fun s s1 s2=> ?_⟩
 ·show 1024*Q.value+64*(Q.values+1)=_
  rw[q1,q2];unfold vA;omega
 ·show Q.used=_
  rw[q3];omega
 ·show Q.value=_
  rw[q1];omega
 ·show Q.values+1+_=_
  rw[q2];omega
 ·show slB (Q.taken Q.value Q.values).bs a m=_
  rw[hbs,slB_putW hin (by have:=hd (i/15+1) (by omega);omega)]
  exact q8 a m hd
 ·show wdN (Q.taken Q.value Q.values).bs _=_
  rw[hbs,wdN_other hin (by omega),q9 s s1 s2]
  by_cases q:s≤i/15+1
  ·rw[if_pos q,if_pos (by omega)]
  ·rw[if_neg q,if_neg (by omega)]
 ·show wdN (Q.taken Q.value Q.values).bs _=_
  rw[hbs]
  by_cases e:s=i/15+1
  ·subst e
   rw[wdN_same hin (by omega)]
   have:vct (i+1) (i/15+1)=i % 15+1:=by unfold vct;omega
   rw[this]
   have h2:(1:Nat)≤2^ (i % 15+1):=Nat.one_le_two_pow
   rw[Int.natCast_sub h2];norm_cast
  ·rw[wdN_other hin (by omega),q10 s s1 s2]
   have:vct (i+1) s=vct i s:=by unfold vct;omega
   rw[this]
theorem VSt.one {slabs:Nat} {keys:List Nat} {i:Nat} {R:AR} (h:VSt slabs keys i R) (hk:keys.getD i 0<18446744073709551616) (hr:R.newValue.2≠0):VSt slabs keys (i+1) (R.oneVal (keys.getD i 0))∧R.newValue.2=vA i:=by
 obtain⟨a1,a2,a3,a4,a5,a6,a7,a8,a9,a10⟩:=h.value hr
 obtain⟨ok,ln,_⟩:=oneVal_ok h.ok hk hr
 have hL:R.newValue.1.bs.length=1024*(slabs+1):=by rw[newValue_len h.ok,h.ok.len,h.sl]
 have h20:=numL_20 hk
 obtain⟨d,hd⟩: ∃d,d=numL (keys.getD i 0):=⟨_,rfl⟩
 rw[←hd] at h20
 have hva:=vA_in a1
 have hbs: ∀x,x<1024*(slabs+1)→(R.oneVal (keys.getD i 0)).bs[x]?=if vA i+8≤x∧x<vA i+8+d.length then some (d.getD (x- (vA i+8)) 0) else(putW R.newValue.1.bs (vA i) d.length)[x]?:=by
  intro x hx
  unfold AR.oneVal
  rw[bytesTo_get (by rw[put_bs,putW_len _ (by rw[a2,hL];omega),hL];exact hx),←hd,a2]
  rfl
 have far: ∀a m,a+m≤1024*(slabs+1)→(a+m≤vA i∨vA i+64≤a)→slB (R.oneVal (keys.getD i 0)).bs a m=slB R.newValue.1.bs a m:=fun a m hm hd2=>by
  have e1:slB (R.oneVal (keys.getD i 0)).bs a m=slB (putW R.newValue.1.bs (vA i) d.length) a m:=slB_eq fun x x1 x2=>by
   rw[hbs x (by omega),if_neg (by omega)]
  rw[e1,slB_putW (by rw[hL];omega) (by omega)]
 have sk: ∀j,j<15*slabs→ ∀s,1≤s→vA j+64≤1024*s∨1024*s+16≤vA j:=fun j hj s hs=>by unfold vA;omega
 have hdr: ∀s m,1≤s→m≤16→1024*s+m≤vA i∨vA i+64≤1024*s:=fun s m hs hm=>by unfold vA;omega
 refine⟨⟨ok,?_,?_,fun h=>by omega,fun _=>⟨?_,?_⟩,?_,?_,fun s s1 s2=> ?_,fun s s1 s2=> ?_,fun j hj=> ?_,fun j j1 j2=> ?_⟩,a2⟩
 ·have: ∀(R:AR) a l k,(R.bytesTo a l k).slabs=R.slabs:=fun R a l k=>by induction k with | zero=>rfl | succ k ih=>exact ih
  unfold AR.oneVal;rw[this];exact a3
 ·have: ∀(R:AR) a l k,(R.bytesTo a l k).used=R.used:=fun R a l k=>by induction k with | zero=>rfl | succ k ih=>exact ih
  unfold AR.oneVal;rw[this];exact a4
 ·have: ∀(R:AR) a l k,(R.bytesTo a l k).value=R.value:=fun R a l k=>by induction k with | zero=>rfl | succ k ih=>exact ih
  unfold AR.oneVal;rw[this];exact a5
 ·have: ∀(R:AR) a l k,(R.bytesTo a l k).values=R.values:=fun R a l k=>by induction k with | zero=>rfl | succ k ih=>exact ih
  unfold AR.oneVal;rw[this];exact a6
 ·have: ∀(R:AR) a l k,(R.bytesTo a l k).node=R.node:=fun R a l k=>by induction k with | zero=>rfl | succ k ih=>exact ih
  unfold AR.oneVal;rw[this];exact a7
 ·have e: ∀a,a+8≤64→wdN (R.oneVal (keys.getD i 0)).bs a=wdN R.bs a:=fun a ha=>by
   rw[wdN_slB,far a 8 (by omega) (by omega),a8 a 8 (fun s hs=>by omega),←wdN_slB]
  obtain⟨t0,t1,t2,t3,t4,t5,t6⟩:=h.top
  refine⟨?_,?_,?_,?_,?_,?_,?_⟩<;>rw[e _ (by omega)]<;>assumption
 ·rw[wdN_slB,far _ _ (by omega) (by have:=hdr s 8 s1 (by omega);omega),←wdN_slB];exact a9 s s1 s2
 ·rw[wdN_slB,far _ _ (by omega) (by have:=hdr s 16 s1 (by omega);omega),←wdN_slB];exact a10 s s1 s2
 ·by_cases e:j=i
  ·subst e
   have hz:=h.zs j (Nat.le_refl _) a1
   have hz2:=a8 (vA j) 64 (sk j a1)
   rw[hz] at hz2
   unfold valB valT
   rw[←hd]
   unfold slB at hz2 ⊢
   apply List.ext_getElem?
   intro x
   rw[List.getElem?_take]
   by_cases hx:x<64
   ·rw[if_pos hx,List.getElem?_drop,hbs _ (by omega)]
    have hz3:R.newValue.1.bs[vA j+x]?=some 0:=by
     have:=congrArg (fun l:List Int=>l[x]?) hz2
     simp only[List.getElem?_take,if_pos hx,List.getElem?_drop] at this
     rw[this,List.getElem?_replicate,if_pos hx]
    by_cases h8:x<8
    ·rw[if_neg (by omega),putW_get (by rw[hL];omega),if_neg (by omega),if_pos (by omega),Nat.add_sub_cancel_left,List.getElem?_append_left (by simp;omega),List.getElem?_map,List.getElem?_range h8];rfl
    ·rw[List.getElem?_append_right (by simp;omega)]
     have el:((List.range 8).map (byteN d.length)).length=8:=by simp
     rw[el]
     by_cases hx2:x<8+d.length
     ·rw[if_pos (by omega),List.getElem?_append_left (by omega),List.getD_eq_getElem?_getD,show vA j+x- (vA j+8)=x-8 by omega,List.getElem?_eq_getElem (by omega)];rfl
     ·rw[if_neg (by omega),putW_get (by rw[hL];omega),if_neg (by omega),if_neg (by omega),hz3,List.getElem?_append_right (by omega),List.getElem?_replicate,if_pos (by omega)]
   ·rw[if_neg hx,List.getElem?_eq_none (by simp;omega)]
  ·have hj2:j<15*slabs:=by omega
   have hvj:=vA_in hj2
   rw[far _ _ (by omega) (by have:=vA_apart e;omega),a8 _ _ (sk j hj2)]
   exact h.vs j (by omega)
 ·have hvj:=vA_in j2
  rw[far _ _ (by omega) (by have:=vA_apart (show j≠i by omega);omega),a8 _ _ (sk j j2)]
  exact h.zs j (by omega) j2
theorem vals_st {slabs:Nat} {keys:List Nat} (h1:1≤slabs) (h64:slabs≤64) (hk: ∀x∈keys,x<18446744073709551616): ∀i,i≤keys.length→(AR.new slabs).valsRoomy keys i→VSt slabs keys i ((AR.new slabs).vals keys i).1∧((AR.new slabs).vals keys i).2=(List.range i).map fun j=>((keys.getD j 0:Int),(vA j:Int))
 | 0,_,_=>⟨VSt.new keys h1 h64,rfl⟩
 | i+1,hi,hr=>by
  obtain⟨p1,p2⟩:=vals_st h1 h64 hk i (by omega) (fun j hj=>hr j (by omega))
  have hkk:keys.getD i 0<18446744073709551616:=by
   rw[List.getD_eq_getElem?_getD,List.getElem?_eq_getElem (by omega)]
   exact hk _ (List.getElem_mem _)
  obtain⟨p3,p4⟩:=p1.one hkk (hr i (by omega))
  refine⟨p3,?_⟩
  show((AR.new slabs).vals keys i).2++[_]=_
  rw[p2,List.range_succ,List.map_append,p4];rfl
end Go.Proofs.YtjmaicckkkdjpaaGreat
