/- A built image may be, plainly: its values, its headers; nothing is leaked, nothing is at fault. -/
import Derived.Test.YtibiekfjbibpbaaGreatSndE
import Derived.Test.YtibiekfjbibpbaaGreatPlnM
set_option linter.unusedVariables false
set_option linter.unusedSimpArgs false
namespace Go.Proofs.YtibiekfjbibpbaaGreat
open Go.RowKit
theorem flat_own (per:Nat) (l:List (Int×Int)): ∀n,(List.range n).flatMap (ownK per l)=l.take (n*per)
 | 0=>by simp
 | n+1=>by
  rw[List.range_succ,List.flatMap_append,flat_own per l n,Nat.succ_mul,List.take_add]
  simp[ownK]
theorem ones_bit (n j:Nat):hasB (2^n-1) j=decide (j<n):=by unfold hasB;exact Nat.testBit_two_pow_sub_one n j
theorem ones_in {n:Nat} {j:Fin 64} (h:j∈q0t (2^n-1)):j.val<n:=by
 unfold q0t at h
 have:=(List.mem_filter.1 h).2
 rw[ones_bit] at this
 simpa using this
section
variable {slabs per lag K:Nat} {keys:List Nat} {bs:List Int}
theorem Base.head (h:Base slabs keys per lag K bs) {s:Nat} (s1:1≤s) (s2:s≤slabs):
  (s≤uN keys∧q1u bs s=1∧q4r bs s=2^vct keys.length s-1)∨(uN keys<s∧s≤uN keys+(tK keys per lag (K+1)+4)/5∧q1u bs s=3∧q4r bs s=2^nct (tK keys per lag (K+1)) (s-uN keys)-1)∨(q1u bs s=0∧q4r bs s=2^0-1):=by
 have hc:=h.hc s s1 s2
 have hb:=h.hb s s1 s2
 have ec:q1u bs s=(wdN bs (1024*s)).toNat:=rfl
 have eb:q4r bs s=(wdN bs (1024*s+8)).toNat:=rfl
 have pw: ∀n:Nat,((2:Int)^n-1).toNat=2^n-1:=fun n=>by
  have h2:(1:Nat)≤2^n:=Nat.one_le_two_pow
  have:((2:Int)^n)=((2^n:Nat):Int):=by norm_cast
  rw[this];omega
 by_cases q:s≤uN keys
 ·rw[if_pos q] at hc hb
  exact Or.inl ⟨q,by rw[ec,hc];rfl,by rw[eb,hb,pw]⟩
 ·rw[if_neg q] at hc hb
  by_cases q2:s≤uN keys+(tK keys per lag (K+1)+4)/5
  ·rw[if_pos q2] at hc
   exact Or.inr (Or.inl ⟨by omega,q2,by rw[ec,hc];rfl,by rw[eb,hb,pw]⟩)
  ·rw[if_neg q2] at hc
   have:nct (tK keys per lag (K+1)) (s-uN keys)=0:=by
    unfold nct
    generalize tK keys per lag (K+1)=T at*
    omega
   rw[this] at hb
   exact Or.inr (Or.inr ⟨by rw[ec,hc];rfl,by rw[eb,hb];rfl⟩)
theorem Base.ns (h:Base slabs keys per lag K bs):nsI bs=slabs:=by unfold nsI;rw[h.sz];omega
theorem Base.slabsok (h:Base slabs keys per lag K bs):z0p bs:=by
 refine⟨by rw[h.sz];have:=h.s1;omega,fun s s1 s2=> ?_⟩
 rw[h.ns] at s2
 unfold q2k q4y
 rcases h.head s1 (by omega) with⟨_,e1,e2⟩ | ⟨_,_,e1,e2⟩ | ⟨e1,e2⟩
 ·rw[e1,e2,decide_eq_true (by omega),Bool.true_and,List.all_eq_true]
  intro j hj
  have:=ones_in hj
  have h2:vct keys.length s≤15:=by unfold vct;omega
  have h3:q0m ((1:Nat):Int)=15:=rfl
  rw[h3];simp only[decide_eq_true_eq];omega
 ·rw[e1,e2,decide_eq_true (by omega),Bool.true_and,List.all_eq_true]
  intro j hj
  have:=ones_in hj
  have h2:nct (tK keys per lag (K+1)) (s-uN keys)≤5:=by unfold nct;omega
  have h3:q0m ((3:Nat):Int)=5:=rfl
  rw[h3];simp only[decide_eq_true_eq];omega
 ·rw[e1,e2,decide_eq_true (by omega),Bool.true_and,List.all_eq_true]
  intro j hj
  have:=ones_in hj
  omega
theorem Base.sup (h:Base slabs keys per lag K bs):x3q bs:=by
 have hlt:=h.tlt (k:=K) (r:=0) (by omega) (nRounds_pos _ _)
 rw[Nat.add_zero] at hlt
 have h1:=h.tin
 have h2:=nA_in (u:=uN keys) (t:=tK keys per lag K) (slabs:=slabs) (by omega)
 have h64:=h.s64
 have h01:=h.s1
 obtain⟨t0,t1,t2,t3,t4,t5,t6⟩:=h.top
 have w0:wAt bs 0=5929342154728227142:=t0
 have w1:wAt bs 1=((1024*(slabs+1):Nat):Int):=t1
 have w2:wAt bs 2=(nA (uN keys) (tK keys per lag K):Int):=h.root
 have w3:wAt bs 3=((18446744073709551615-1024*(slabs+1):Nat):Int):=t2
 have w4:wAt bs 4=0:=t3
 have w5:wAt bs 5=0:=t4
 have w6:wAt bs 6=0:=t5
 have w7:wAt bs 7=0:=t6
 unfold x3q
 rw[w0,w1,w2,w3,w4,w5,w6,w7,h.len]
 have hs:=h.sz
 rw[h.len] at hs
 have hn:((18446744073709551615-1024*(slabs+1):Nat):Int)=notZ ((1024*(slabs+1):Nat):Int):=by unfold notZ;omega
 refine⟨?_,?_⟩
 ·unfold q3p
  rw[hn];simp
 ·unfold mayZ
  rw[hs,slab_nA (by omega),(idx_nA (by omega)).2,decide_eq_true (by omega),decide_eq_true (by omega)]
  simp
def rowsI (keys:List Nat) (per lag K:Nat) (bs:List Int):List (List (Int×NodeA)):=(List.range (K+1)).reverse.map (rowI keys per lag bs)
theorem rowsI_last:(rowsI keys per lag K bs).getLast?=some (rowI keys per lag bs 0):=by
 unfold rowsI
 rw[List.range_succ_eq_map,List.reverse_cons,List.map_append]
 simp
theorem allA_in {a:Int} (ha:a∈allA (rowsI keys per lag K bs)): ∃k r,k<K+1∧r<nK keys per lag k∧a=(nA (uN keys) (tK keys per lag k+r):Int):=by
 unfold allA rowsI at ha
 obtain⟨row,hr,hx⟩:=List.mem_flatMap.1 ha
 obtain⟨k,hk,rfl⟩:=List.mem_map.1 hr
 obtain⟨x,hx2,rfl⟩:=List.mem_map.1 hx
 obtain⟨i,hi⟩:=List.mem_iff_getElem?.1 hx2
 have hin:=(List.getElem?_eq_some_iff.1 hi).1
 rw[rowI_len] at hin
 rw[rowI_at hin] at hi
 injection hi with hi
 exact⟨k,i,by simpa using hk,hin,by rw[←hi]⟩
theorem in_allA {k r:Nat} (hk:k<K+1) (hr:r<nK keys per lag k):(nA (uN keys) (tK keys per lag k+r):Int)∈allA (rowsI keys per lag K bs):=by
 unfold allA rowsI
 refine List.mem_flatMap.2 ⟨_,List.mem_map.2 ⟨k,by simpa using hk,rfl⟩,List.mem_map.2 ⟨_,List.mem_of_getElem? (rowI_at hr),rfl⟩⟩
theorem tK_find (T:Nat): ∀K,T<tK keys per lag (K+1)→ ∃k r,k<K+1∧r<nK keys per lag k∧T=tK keys per lag k+r
 | 0,h=>⟨0,T,by omega,by have e:tK keys per lag (0+1)=0+nK keys per lag 0:=rfl;omega,by show T=0+T;omega⟩
 | K+1,h=>by
  by_cases hl:T<tK keys per lag (K+1)
  ·obtain⟨k,r,h1,h2,h3⟩:=tK_find T K hl
   exact⟨k,r,by omega,h2,h3⟩
  ·have e:tK keys per lag (K+1+1)=tK keys per lag (K+1)+nK keys per lag (K+1):=rfl
   exact⟨K+1,T-tK keys per lag (K+1),by omega,by omega,by omega⟩
variable {ws:Nat→Nat→List (Int×Int)}
theorem Rdb.allE (h:Rdb slabs keys per lag K bs ws):allE (rowI keys per lag bs 0)=(List.range (nK keys per lag 0)).flatMap (ws 0):=by
 unfold Go.Proofs.YtibiekfjbibpbaaGreat.allE
 rw[rowI_len]
 have:(List.range (nK keys per lag 0)).map (actI (rowI keys per lag bs 0))=(List.range (nK keys per lag 0)).map (ws 0):=
  List.map_congr_left fun r hr=>h.act (by omega) (List.mem_range.1 hr)
 rw[List.flatMap_def,this,←List.flatMap_def]
def entJ (keys:List Nat) (j:Nat):Int×Int:=((keys.getD j 0:Int),(vA j:Int))
def pairJ (keys:List Nat) (j:Nat):Int×ByteArray:=((keys.getD j 0:Int),strOfNums (numL (keys.getD j 0)))
theorem Built.flat (h:Built slabs keys per lag K bs):(List.range (nK keys per lag 0)).flatMap (wsE keys per lag 0)=(List.range keys.length).map (entJ keys):=by
 have e1:(List.range (nK keys per lag 0)).flatMap (wsE keys per lag 0)=(List.range (nK keys per lag 0)).flatMap (ownK per (ents0 keys)):=by
  have e0:wsE keys per lag 0=ownK per (ents0 keys):=by
   funext r
   unfold wsE
   rw[if_pos rfl];rfl
  rw[e0]
 rw[e1,flat_own]
 exact List.take_of_length_le (nRounds_all (ents0 keys) (per:=per) (by have:=h.p2;omega))
def pairs0 (keys:List Nat):List (Int×ByteArray):=(List.range keys.length).map (pairJ keys)
theorem pairs0_len (keys:List Nat):(pairs0 keys).length=keys.length:=by unfold pairs0;simp
theorem pairs0_at {j:Nat} (h:j<keys.length):(pairs0 keys)[j]?=some ((keys.getD j 0:Int),strOfNums (numL (keys.getD j 0))):=by unfold pairs0;rw[List.getElem?_map,List.getElem?_range h];rfl
theorem vA_inj {i j:Nat} (h:vA i=vA j):i=j:=by
 rcases Nat.lt_trichotomy i j with h1 | h1 | h1
 ·have:=vA_apart (show i≠j by omega);omega
 ·exact h1
 ·have:=vA_apart (show i≠j by omega);omega
theorem Base.vals (h:Base slabs keys per lag K bs): ∀(js done:List Nat),(∀j∈js,j<keys.length)→(done++js).Nodup→q4m bs (allA (rowsI keys per lag K bs)++(done.map (entJ keys)).map (·.2)) (js.map (entJ keys)) (js.map (pairJ keys))
 | [],_,_,_=>rfl
 | j::js,done,hlt,hnd=>by
  have hj:=hlt j (List.mem_cons_self ..)
  have hvin:=h.vin
  have hva:=vA_in (i:=j) (slabs:=slabs) (by omega)
  have hkj:keys.getD j 0<18446744073709551616:=by
   rw[List.getD_eq_getElem?_getD,List.getElem?_eq_getElem hj];exact h.kk _ (List.getElem_mem _)
  rw[List.map_cons,List.map_cons]
  refine⟨strOfNums (numL (keys.getD j 0)),js.map (pairJ keys),⟨fun hm=> ?_,Or.inl (h.clsV hj),?_⟩,rfl,?_⟩
  ·rcases List.mem_append.1 hm with hm | hm
   ·obtain⟨k,r,_,_,e⟩:=allA_in hm
    have e2:vA j=nA (uN keys) (tK keys per lag k+r):=by exact_mod_cast (show((vA j:Nat):Int)=_ from e)
    have:=nA_val (keys:=keys) (tK keys per lag k+r) hj
    omega
   ·obtain⟨e,he,e2⟩:=List.mem_map.1 hm
    obtain⟨i,hi,rfl⟩:=List.mem_map.1 he
    have e3:vA i=vA j:=by exact_mod_cast (show((vA i:Nat):Int)=(vA j:Nat) from e2)
    have e4:=vA_inj e3
    subst e4
    exact(List.nodup_append.1 hnd).2.2 i hi i (List.mem_cons_self ..) rfl
  ·show q2m (clsI bs (vA j:Nat)) (blkN bs (vA j:Nat))=_
   unfold blkN
   rw[h.clsV hj]
   have hq:vA j=8*(vA j/8):=by unfold vA;omega
   have hl:=h.len
   have:=parse_valB h.byt (q:=vA j/8) hkj (by omega) (by rw[←hq];exact h.vs j hj)
   have e:((vA j:Nat):Int)/8=((vA j/8:Nat):Int):=by omega
   rw[e,Int.toNat_natCast]
   exact this
  ·have ih:=Base.vals h js (done++[j]) (fun i hi=>hlt i (List.mem_cons_of_mem _ hi)) (by simpa using hnd)
   rw[List.map_append,List.map_append,←List.append_assoc] at ih
   exact ih
theorem Rdb.whole (h:Rdb slabs keys per lag K bs ws) {js:List Nat} (hf:(List.range (nK keys per lag 0)).flatMap (ws 0)=js.map (entJ keys)) (hlt: ∀j∈js,j<keys.length) (hnd:js.Nodup):q1a bs (rowsI keys per lag K bs) (js.map (pairJ keys)):=by
 refine⟨h.slabsok,h.sup,?_,⟨_,rowsI_last,?_⟩⟩
 ·have e:wAt bs 2=(nA (uN keys) (tK keys per lag K):Nat):=h.root
  obtain⟨q1,q2,_⟩:=(h.node (k:=K) (r:=0) (by omega) (nRounds_pos _ _)).1
  rw[Nat.add_zero] at q1 q2
  rw[e]
  refine⟨_,q1,?_⟩
  rw[q2]
  exact h.rows K (by omega) none (fun u hu=>by cases hu)
 ·rw[h.allE,hf]
  have:=h.vals js [] hlt (by simpa using hnd)
  simpa using this
theorem Built.allE (h:Built slabs keys per lag K bs):Go.Proofs.YtibiekfjbibpbaaGreat.allE (rowI keys per lag bs 0)=ents0 keys:=by rw[h.rdb.allE,h.flat];rfl
theorem Built.whole (h:Built slabs keys per lag K bs):q1a bs (rowsI keys per lag K bs) (pairs0 keys):=
 h.rdb.whole h.flat (fun j hj=>List.mem_range.1 hj) List.nodup_range
def ReachB (keys:List Nat) (per lag K:Nat) (js:List Nat) (R:List Int):Prop:=(∀t,t<tK keys per lag (K+1)→(nA (uN keys) t:Int)∈R)∧(∀j∈js,(vA j:Int)∈R)∧ ∀a∈R,(∃t,t<tK keys per lag (K+1)∧a=(nA (uN keys) t:Int))∨ ∃j∈js,a=(vA j:Int)
theorem Rdb.reach (h:Rdb slabs keys per lag K bs ws) {js:List Nat} (hf:(List.range (nK keys per lag 0)).flatMap (ws 0)=js.map (entJ keys)) {R:List Int} (hp:R.Perm (allA (rowsI keys per lag K bs)++(Go.Proofs.YtibiekfjbibpbaaGreat.allE (rowI keys per lag bs 0)).map (·.2))):ReachB keys per lag K js R:=by
 rw[h.allE,hf] at hp
 refine⟨fun t ht=>hp.mem_iff.2 (List.mem_append.2 (Or.inl ?_)),fun j hj=>hp.mem_iff.2 (List.mem_append.2 (Or.inr (List.mem_map.2 ⟨entJ keys j,List.mem_map.2 ⟨j,hj,rfl⟩,rfl⟩))),fun a ha=> ?_⟩
 ·obtain⟨k,r,h1,h2,rfl⟩:=tK_find t K ht
  exact in_allA h1 h2
 ·rcases List.mem_append.1 (hp.mem_iff.1 ha) with ha | ha
  ·obtain⟨k,r,h1,h2,e⟩:=allA_in ha
   exact Or.inl ⟨_,h.tlt h1 h2,e⟩
  ·obtain⟨e,he,rfl⟩:=List.mem_map.1 ha
   obtain⟨j,hj,rfl⟩:=List.mem_map.1 he
   exact Or.inr ⟨j,hj,rfl⟩
theorem Base.inUse (h:Base slabs keys per lag K bs) {a:Int}:a∈refA bs (nsI bs)↔(∃t,t<tK keys per lag (K+1)∧a=(nA (uN keys) t:Int))∨ ∃j,j<keys.length∧a=(vA j:Int):=by
 have h64:=h.s64
 have htin:=h.tin
 have hvin:=h.vin
 rw[x2y,h.ns]
 constructor
 ·rintro⟨s,s1,s2,hu⟩
  unfold useA at hu
  obtain⟨j,hj,rfl⟩:=List.mem_map.1 hu
  rcases h.head (s:=s) (by omega) (by omega) with⟨q,c1,c2⟩ | ⟨q,q2,c1,c2⟩ | ⟨c1,c2⟩
  ·rw[c2] at hj
   have hj2:=ones_in hj
   have hv:vct keys.length s≤15∧vct keys.length s≤keys.length-15*(s-1):=by unfold vct;omega
   right
   refine⟨15*(s-1)+j.val,by omega,?_⟩
   rw[c1]
   have b1:q0m ((1:Nat):Int)=15:=rfl
   have b2:q0e ((1:Nat):Int)=64:=rfl
   unfold q0c
   rw[b1,b2,if_pos (by omega)]
   have d1:(15*(s-1)+j.val)/15=s-1:=by omega
   have d2:(15*(s-1)+j.val)% 15=j.val:=by omega
   unfold vA
   rw[d1,d2]
   omega
  ·rw[c2] at hj
   have hj2:=ones_in hj
   have hv:nct (tK keys per lag (K+1)) (s-uN keys)≤5∧nct (tK keys per lag (K+1)) (s-uN keys)≤tK keys per lag (K+1)-5*(s-uN keys-1):=by unfold nct;omega
   left
   refine⟨5*(s-uN keys-1)+j.val,by omega,?_⟩
   rw[c1]
   have b1:q0m ((3:Nat):Int)=5:=rfl
   have b2:q0e ((3:Nat):Int)=192:=rfl
   unfold q0c
   rw[b1,b2,if_pos (by omega)]
   have d1:(5*(s-uN keys-1)+j.val)/5=s-uN keys-1:=by omega
   have d2:(5*(s-uN keys-1)+j.val)% 5=j.val:=by omega
   unfold nA
   rw[d1,d2]
   omega
  ·rw[c2] at hj
   have:=ones_in hj
   omega
 ·have bit: ∀(s n i:Nat),q4r bs s=2^n-1→i<n→(hi:i<64)→(⟨i,hi⟩:Fin 64)∈q0t (q4r bs s):=fun s n i hb hin hi=>by
   unfold q0t
   refine List.mem_filter.2 ⟨List.mem_finRange _,?_⟩
   rw[hb,ones_bit];simpa using hin
  rintro(⟨t,ht,rfl⟩ | ⟨j,hj,rfl⟩)
  ·have h2:=nA_in (u:=uN keys) (t:=t) (slabs:=slabs) (by omega)
   refine⟨uN keys+1+t/5,by omega,h2.2.2,?_⟩
   have hca:=h.hc (uN keys+1+t/5) (by omega) h2.2.2
   rw[if_neg (by omega),if_pos (by omega)] at hca
   have ec:q1u bs (uN keys+1+t/5)=3:=by
    have:q1u bs (uN keys+1+t/5)=(wdN bs (1024*(uN keys+1+t/5))).toNat:=rfl
    rw[this,hca];rfl
   rcases h.head (s:=uN keys+1+t/5) (by omega) h2.2.2 with⟨q,_⟩ | ⟨_,_,_,c2⟩ | ⟨c1,_⟩
   ·omega
   ·have hn:t % 5<nct (tK keys per lag (K+1)) (uN keys+1+t/5-uN keys):=by unfold nct;omega
    unfold useA
    refine List.mem_map.2 ⟨⟨t % 5,by omega⟩,bit _ _ _ c2 hn (by omega),?_⟩
    rw[ec]
    have b1:q0m ((3:Nat):Int)=5:=rfl
    have b2:q0e ((3:Nat):Int)=192:=rfl
    unfold q0c
    simp only[]
    rw[b1,b2,if_pos (by omega)]
    unfold nA
    omega
   ·omega
  ·have hju:1+j/15≤uN keys:=by unfold uN;omega
   have hus:=h.uin
   refine⟨1+j/15,by omega,by omega,?_⟩
   rcases h.head (s:=1+j/15) (by omega) (by omega) with⟨_,c1,c2⟩ | ⟨q,_⟩ | ⟨c1,_⟩
   ·have hn:j % 15<vct keys.length (1+j/15):=by unfold vct;omega
    unfold useA
    refine List.mem_map.2 ⟨⟨j % 15,by omega⟩,bit _ _ _ c2 hn (by omega),?_⟩
    rw[c1]
    have b1:q0m ((1:Nat):Int)=15:=rfl
    have b2:q0e ((1:Nat):Int)=64:=rfl
    unfold q0c
    simp only[]
    rw[b1,b2,if_pos (by omega)]
    unfold vA
    omega
   ·omega
   ·exfalso
    have hca:=h.hc (1+j/15) (by omega) (by omega)
    rw[if_pos hju] at hca
    have ec:q1u bs (1+j/15)=(wdN bs (1024*(1+j/15))).toNat:=rfl
    rw[ec,hca] at c1
    cases c1
theorem Base.leaks (h:Base slabs keys per lag K bs) {js:List Nat} {R:List Int} (hR:ReachB keys per lag K js R):((∀j,j<keys.length→j∈js)→z8p bs R=[])∧ ∀p,p<keys.length→p∉js→(∀j,j<keys.length→j≠p→j∈js)→(z8p bs R).length=1:=by
 have hrise:=x6t (bs:=bs) (k:=nsI bs) (by rw[h.ns];exact h.s64) (fun i h1 h2=>h.slabsok.2 i h1 (by omega))
 rw[x8e]
 refine⟨fun hall=> ?_,fun p hp hpn hall=> ?_⟩
 ·rw[List.filter_eq_nil_iff]
  intro a ha
  rcases h.inUse.1 ha with⟨t,ht,rfl⟩ | ⟨j,hj,rfl⟩
  ·simpa using hR.1 t ht
  ·simpa using hR.2.1 j (hall j hj)
 ·have hmem:(vA p:Int)∈refA bs (nsI bs):=h.inUse.2 (Or.inr ⟨p,hp,rfl⟩)
  have hnR:(vA p:Int)∉R:=fun hm=>by
   rcases hR.2.2 _ hm with⟨t,ht,e⟩ | ⟨j,hj,e⟩
   ·have e2:vA p=nA (uN keys) t:=by exact_mod_cast (show((vA p:Nat):Int)=_ from e)
    have:=nA_val (keys:=keys) t hp
    omega
   ·have e2:vA p=vA j:=by exact_mod_cast (show((vA p:Nat):Int)=(vA j:Nat) from e)
    rw[vA_inj e2] at hpn
    exact hpn hj
  have e:(refA bs (nsI bs)).filter (fun a=>decide (a∉R))=(refA bs (nsI bs)).filter (fun a=>a==(vA p:Int)):=by
   refine List.filter_congr fun a ha=> ?_
   by_cases hap:a=(vA p:Int)
   ·rw[hap];simp[hnR]
   ·have:a∈R:=by
     rcases h.inUse.1 ha with⟨t,ht,rfl⟩ | ⟨j,hj,rfl⟩
     ·exact hR.1 t ht
     ·exact hR.2.1 j (hall j hj (fun e=>hap (by rw[e])))
    simp[this,hap]
  have hnd:(refA bs (nsI bs)).Nodup:=List.Pairwise.imp (fun hab=>by omega) hrise
  rw[e,←List.countP_eq_length_filter]
  have h1:=hnd.count (a:=(vA p:Int))
  rw[if_pos hmem] at h1
  exact h1
theorem Base.used (h:Base slabs keys per lag K bs) {js:List Nat} (hlt: ∀j∈js,j<keys.length) {R:List Int} (hR:ReachB keys per lag K js R):(R.filter fun a=> ! x3m bs a)=[]:=by
 rw[List.filter_eq_nil_iff]
 intro a ha
 have hcl:clsI bs a≠0:=by
  rcases hR.2.2 a ha with⟨t,ht,rfl⟩ | ⟨j,hj,rfl⟩
  ·rw[h.clsN ht];decide
  ·rw[h.clsV (hlt j hj)];decide
 have hin:a∈refA bs (nsI bs):=h.inUse.2 (by
  rcases hR.2.2 a ha with⟨t,ht,rfl⟩ | ⟨j,hj,rfl⟩
  ·exact Or.inl ⟨t,ht,rfl⟩
  ·exact Or.inr ⟨j,hlt j hj,rfl⟩)
 rw[v2b hcl h.slabsok.2]
 simp[hin]
theorem Base.nodes:q2y (rowsI keys per lag K bs)=(tK keys per lag (K+1):Int):=by
 unfold q2y rowsI
 congr 1
 rw[List.map_map,List.map_reverse,List.sum_reverse]
 have: ∀k,((List.range k).map (List.length∘rowI keys per lag bs)).sum=tK keys per lag k:=by
  intro k
  induction k with
  | zero=>rfl
  | succ k ih=>rw[List.range_succ,List.map_append,List.sum_append,ih];simp[rowI_len];rfl
 exact this (K+1)
end
end Go.Proofs.YtibiekfjbibpbaaGreat
