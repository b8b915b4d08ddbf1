import Derived.Test.YtjmaicckkkdjpaaGreatF51
import Derived.Test.YtjmaicckkkdjpaaGreatF13
set_option linter.unusedVariables false
set_option linter.unusedSimpArgs false
/- A built image may be, plainly. -/
namespace Go.Proofs.YtjmaicckkkdjpaaGreat
open Go.RowKit
section
variable {slabs per lag K:Nat} {keys:List Nat} {bs:List Int}
abbrev ownE (keys:List Nat) (per lag k r:Nat):List (Int×Int):=ownK per (eK keys per lag k) r
def wsE (keys:List Nat) (per lag k r:Nat):List (Int×Int):=(ownE keys per lag k r).drop (if k=0 then 0 else 1)
theorem ownK_at {per r i:Nat} {l:List (Int×Int)} (hi:i<per):(ownK per l r)[i]?=l[r*per+i]?:=by
 unfold ownK;rw[List.getElem?_take,if_pos hi,List.getElem?_drop]
theorem ownK_len (per r:Nat) (l:List (Int×Int)):(ownK per l r).length≤per:=by unfold ownK;rw[List.length_take];omega
theorem wsE_mem {k r:Nat} {e:Int×Int} (h:e∈wsE keys per lag k r): ∃i,i<per∧(k≠0→0<i)∧(eK keys per lag k)[r*per+i]?=some e:=by
 unfold wsE at h
 obtain⟨i,hi⟩:=List.mem_iff_getElem?.1 h
 rw[List.getElem?_drop] at hi
 have h1:=(List.getElem?_eq_some_iff.1 hi).1
 have h2:(ownE keys per lag k r).length≤per:=ownK_len _ _ _
 refine⟨(if k=0 then 0 else 1)+i,by omega,fun h0=>by rw[if_neg h0];omega,?_⟩
 rw[←ownK_at (by omega)];exact hi
theorem Core.ent (h:Core slabs keys per lag K bs) (k:Nat):EntOK k (eK keys per lag k):=eK_ok lag h.rise (by have:=h.p2;omega) k
theorem own_first (h:Core slabs keys per lag K bs) {k r:Nat} (hk:k≠0) (hr:r<nK keys per lag k): ∃e ws,ownE keys per lag k r=e::ws∧(eK keys per lag k)[r*per]?=some e∧e.1=lowR (eK keys per lag k) per r:=by
 have hp:0<per:=by have:=h.p2;omega
 obtain⟨x,rr,hx,h0⟩:=(h.ent k).ne hk
 have hlt:r*per< (eK keys per lag k).length:=by
  rcases nRounds_in hp hr with e | e
  ·rw[e,hx];simp
  ·exact e
 obtain⟨e,he⟩: ∃e,(eK keys per lag k)[r*per]?=some e:=⟨_,List.getElem?_eq_getElem hlt⟩
 have h1:(ownE keys per lag k r)[0]?=some e:=by rw[ownK_at hp,Nat.add_zero];exact he
 cases hc:ownE keys per lag k r with
 | nil=>rw[hc] at h1;cases h1
 | cons y ws=>
  rw[hc] at h1
  have:y=e:=by simpa using h1
  subst this
  refine⟨y,ws,rfl,he,?_⟩
  unfold lowR
  by_cases hr0:r=0
  ·rw[if_pos hr0]
   rw[hr0,Nat.zero_mul,hx] at he
   have:x=y:=by simpa using he
   rw[←this];exact h0
  ·rw[if_neg hr0,List.getD_eq_getElem?_getD,he];rfl
def fiE (keys:List Nat) (per lag k r:Nat):Int:=if k=0 then(nA (uN keys) (tK keys per lag k+r):Int) else((ownE keys per lag k r).getD 0 (0,0)).2
theorem Core.tlt (h:Core slabs keys per lag K bs) {k r:Nat} (hk:k<K+1) (hr:r<nK keys per lag k):tK keys per lag k+r<tK keys per lag (K+1):=by
 have h1:=stk_le keys per lag (a:=k+1) (b:=K+1) (by omega)
 have h2:tK keys per lag (k+1)=tK keys per lag k+nK keys per lag k:=rfl
 omega
abbrev ndS (keys:List Nat) (per lag k r:Nat):NodeA:={ ndOf k (nA (uN keys) (tK keys per lag k+r)) (r==0) (ownK per (eK keys per lag k) r) with nx:=if r+1<nK keys per lag k then(nA (uN keys) (tK keys per lag k+r+1):Int) else 0 }
theorem Core.wsok (h:Core slabs keys per lag K bs) {k r:Nat} {ws:List (Int×Int)} (hs:ws.Sublist (wsE keys per lag k r)) (hr:r<nK keys per lag k):
  ws.length≤8∧(∀e∈ws,e.2≠0∧e.2≠fiE keys per lag k r∧lowR (eK keys per lag k) per r≤e.1∧(k≠0→lowR (eK keys per lag k) per r<e.1)∧ ∀r',r<r'→r'<nK keys per lag k→e.1<lowR (eK keys per lag k) per r')∧
   (ws.map (·.2)).Nodup∧ws.Pairwise fun a b=>a.1<b.1:=by
 have hp:0<per:=by have:=h.p2;omega
 have hE:=h.ent k
 have h8:=h.p8
 have hsub:(wsE keys per lag k r).Sublist (eK keys per lag k):=by
  unfold wsE ownE ownK
  exact(List.drop_sublist _ _).trans ((List.take_sublist _ _).trans (List.drop_sublist _ _))
 refine⟨?_,fun e he=> ?_,(List.Sublist.map _ (hs.trans hsub)).nodup hE.nd,List.Pairwise.sublist (hs.trans hsub) hE.rise⟩
 ·have h1:(ownE keys per lag k r).length≤per:=ownK_len _ _ _
  have h2:=hs.length_le
  unfold wsE at h2;rw[List.length_drop] at h2;omega
 ·obtain⟨i,hi,hi0,hie⟩:=wsE_mem (hs.subset he)
  have hpos:=hE.pos e (List.mem_of_getElem? hie)
  have hlow:lowR (eK keys per lag k) per r≤e.1∧(k≠0→lowR (eK keys per lag k) per r<e.1):=by
   by_cases hk0:k=0
   ·refine⟨?_,fun h=>absurd hk0 h⟩
    unfold lowR
    by_cases hr0:r=0
    ·rw[if_pos hr0];exact hpos.1
    ·rw[if_neg hr0]
     have hlt:=(List.getElem?_eq_some_iff.1 hie).1
     by_cases hi2:i=0
     ·subst hi2
      rw[Nat.add_zero] at hie
      rw[List.getD_eq_getElem?_getD,hie];exact Int.le_refl _
     ·have:=hE.lt (i:=r*per) (j:=r*per+i) (List.getElem?_eq_getElem (by omega)) hie (by omega)
      rw[List.getD_eq_getElem?_getD,List.getElem?_eq_getElem (by omega)]
      exact Int.le_of_lt this
   ·obtain⟨y,ws,_,hy,hy1⟩:=own_first h hk0 hr
    have:=hE.lt hy hie (by have:=hi0 hk0;omega)
    rw[hy1] at this
    exact⟨Int.le_of_lt this,fun _=>this⟩
  refine⟨by omega,?_,hlow.1,hlow.2,fun r' h1 h2=> ?_⟩
  ·unfold fiE
   by_cases hk0:k=0
   ·rw[if_pos hk0]
    subst hk0
    have h3:(ents0 keys)[r*per+i]?=some e:=hie
    have h4:=(List.getElem?_eq_some_iff.1 h3).1
    rw[ents0_len] at h4
    rw[ents0_at h4] at h3
    injection h3 with h3
    rw[←h3]
    intro e2
    have e3:vA (r*per+i)=nA (uN keys) (tK keys per lag 0+r):=by exact_mod_cast (show((vA (r*per+i):Nat):Int)=_ from e2)
    have:=nA_val (keys:=keys) (tK keys per lag 0+r) h4
    omega
   ·rw[if_neg hk0]
    obtain⟨y,ws,ho,hy,_⟩:=own_first h hk0 hr
    rw[ho]
    show e.2≠y.2
    obtain⟨a1,a2⟩:=List.getElem?_eq_some_iff.1 hy
    obtain⟨b1,b2⟩:=List.getElem?_eq_some_iff.1 hie
    have:=List.pairwise_iff_getElem.1 hE.nd (r*per) (r*per+i) (by simpa using a1) (by simpa using b1) (by have:=hi0 hk0;omega)
    simp only[List.getElem_map] at this
    rw[a2,b2] at this
    exact fun e=>this e.symm
  ·have h3:r'*per< (eK keys per lag k).length:=by rcases nRounds_in hp h2 with h | h<;>omega
   have h4:(r+1)*per≤r'*per:=Nat.mul_le_mul_right _ h1
   have h5:=hE.lt hie (List.getElem?_eq_getElem h3) (by rw[Nat.succ_mul] at h4;omega)
   unfold lowR
   rw[if_neg (by omega),List.getD_eq_getElem?_getD,List.getElem?_eq_getElem h3]
   exact h5
variable {ws:Nat→Nat→List (Int×Int)}
end
end Go.Proofs.YtjmaicckkkdjpaaGreat
/- A built image's headers, as slab.Of wants them. -/
namespace Go.Proofs.YtjmaicckkkdjpaaGreat
open Go.RowKit
theorem ones_bitG (n j:Nat):hasB (2^n-1) j=decide (j<n):=by unfold hasB;exact Nat.testBit_two_pow_sub_one n j
theorem ones_inG {n:Nat} {j:Fin 64} (h:j∈setBits (2^n-1)):j.val<n:=by
 unfold setBits at h
 have:=(List.mem_filter.1 h).2
 rw[ones_bitG] at this
 simpa using this
section
variable {slabs per lag K:Nat} {keys:List Nat} {bs:List Int}
theorem Core.headG (h:Core slabs keys per lag K bs) {s:Nat} (s1:1≤s) (s2:s≤slabs):
  (s≤uN keys∧clsAt bs s=1∧bitAt bs s=2^vct keys.length s-1)∨(uN keys<s∧s≤uN keys+(tK keys per lag (K+1)+4)/5∧clsAt bs s=3∧bitAt bs s=2^nct (tK keys per lag (K+1)) (s-uN keys)-1)∨(clsAt bs s=0∧bitAt bs s=2^0-1):=by
 have hc:=h.hc s s1 s2
 have hb:=h.hb s s1 s2
 have ec:clsAt bs s=(wdN bs (1024*s)).toNat:=rfl
 have eb:bitAt bs s=(wdN bs (1024*s+8)).toNat:=rfl
 have pw: ∀n:Nat,((2:Int)^n-1).toNat=2^n-1:=fun n=>by
  have h2:(1:Nat)≤2^n:=Nat.one_le_two_pow
  have:((2:Int)^n)=((2^n:Nat):Int):=by norm_cast
  rw[this];omega
 by_cases q:s≤uN keys
 ·rw[if_pos q] at hc hb
  exact Or.inl ⟨q,by rw[ec,hc];rfl,by rw[eb,hb,pw]⟩
 ·rw[if_neg q] at hc hb
  by_cases q2:s≤uN keys+(tK keys per lag (K+1)+4)/5
  ·rw[if_pos q2] at hc
   exact Or.inr (Or.inl ⟨by omega,q2,by rw[ec,hc];rfl,by rw[eb,hb,pw]⟩)
  ·rw[if_neg q2] at hc
   have:nct (tK keys per lag (K+1)) (s-uN keys)=0:=by
    unfold nct
    generalize tK keys per lag (K+1)=T at*
    omega
   rw[this] at hb
   exact Or.inr (Or.inr ⟨by rw[ec,hc];rfl,by rw[eb,hb];rfl⟩)
theorem Core.heads (h:Core slabs keys per lag K bs): ∀s,1≤s→s≤slabs→headOK bs s=true:=by
 intro s s1 s2
 unfold headOK mayBits
 rcases h.headG s1 s2 with⟨_,e1,e2⟩ | ⟨_,_,e1,e2⟩ | ⟨e1,e2⟩
 ·rw[e1,e2,decide_eq_true (by omega),Bool.true_and,List.all_eq_true]
  intro j hj
  have:=ones_inG hj
  have h2:vct keys.length s≤15:=by unfold vct;omega
  have h3:blocksZ ((1:Nat):Int)=15:=rfl
  rw[h3];simp only[decide_eq_true_eq];omega
 ·rw[e1,e2,decide_eq_true (by omega),Bool.true_and,List.all_eq_true]
  intro j hj
  have:=ones_inG hj
  have h2:nct (tK keys per lag (K+1)) (s-uN keys)≤5:=by unfold nct;omega
  have h3:blocksZ ((3:Nat):Int)=5:=rfl
  rw[h3];simp only[decide_eq_true_eq];omega
 ·rw[e1,e2,decide_eq_true (by omega),Bool.true_and,List.all_eq_true]
  intro j hj
  have:=ones_inG hj
  omega
end
end Go.Proofs.YtjmaicckkkdjpaaGreat
/- A walk in a built image where nobody stores, plainly. -/
namespace Go.Proofs.YtjmaicckkkdjpaaGreat
open Go.RowKit
theorem wdV_of {bs:List Int} {a:Nat} (h8:a % 8=0) (h:a+8≤bs.length):wdV (wordsOf bs) (a:Int)=wdN bs a:=by
 have h1:((a:Int)/8).toNat=a/8:=by omega
 unfold wdV wordsOf
 rw[h1,List.getD_eq_getElem?_getD,List.getElem?_map,List.getElem?_range (by omega)]
 show wAt bs (a/8)=_
 unfold wAt
 rw[show 8*(a/8)=a by omega]
 rfl
theorem inV_of {bs:List Int} {a:Nat} (h8:a % 8=0) (h:a+8≤bs.length):inV (wordsOf bs) (a:Int):=by
 unfold inV wordsOf
 rw[List.length_map,List.length_range]
 omega
theorem nA_mod (u t:Nat):nA u t % 64=0:=by unfold nA;omega
theorem vA_mod (j:Nat):vA j % 64=0:=by unfold vA;omega
section
variable {slabs per lag K:Nat} {keys:List Nat} {bs:List Int}
abbrev adN (keys:List Nat) (per lag k r:Nat):Nat:=nA (uN keys) (tK keys per lag k+r)
abbrev wdS (keys:List Nat) (per lag k r:Nat):Nat→Int:=nWords (ndS keys per lag k r)
def ndF (keys:List Nat) (per lag k r:Nat):NodeA:=nodeOf (cutW (wdS keys per lag k r))
abbrev lowK (keys:List Nat) (per lag k r:Nat):Int:=lowR (eK keys per lag k) per r
theorem wdS_k (k r i:Nat):wdS keys per lag k r (8+2*i)=((wsE keys per lag k r).getD i (0,0)).1:=by
 rw[show 8+2*i=2*i+8 by omega]
 show(if(2*i)% 2=0 then(ndS keys per lag k r).k (2*i/2) else _)=_
 rw[if_pos (by omega),show 2*i/2=i by omega]
 rfl
theorem wdS_p (k r i:Nat):wdS keys per lag k r (9+2*i)=((wsE keys per lag k r).getD i (0,0)).2:=by
 rw[show 9+2*i=(2*i+1)+8 by omega]
 show(if(2*i+1)% 2=0 then _ else(ndS keys per lag k r).p ((2*i+1)/2))=_
 rw[if_neg (by omega),show(2*i+1)/2=i by omega]
 rfl
theorem Core.cut (h:Core slabs keys per lag K bs) {k r:Nat} (hr:r<nK keys per lag k) (i:Nat) (hi:i<24):cutW (wdS keys per lag k r) i=wdS keys per lag k r i:=by
 have he:=endW_odd (wdS keys per lag k r)
 obtain⟨a1,a2,_⟩:=h.wsok (List.Sublist.refl (wsE keys per lag k r)) hr
 unfold cutW
 by_cases h5:i=5∨i=6∨i=7
 ·rw[if_pos h5];rcases h5 with rfl | rfl | rfl<;>rfl
 rw[if_neg h5]
 by_cases hle:i≤endW (wdS keys per lag k r)
 ·rw[if_pos hle]
 rw[if_neg hle]
 obtain⟨c,hc⟩: ∃c,endW (wdS keys per lag k r)=9+2*c:=⟨(endW (wdS keys per lag k r)-9)/2,by omega⟩
 have h0:=endW_is (wdS keys per lag k r) (by omega)
 rw[hc,wdS_p] at h0
 have hcl:(wsE keys per lag k r).length≤c:=by
  apply Classical.byContradiction
  intro hn
  have hlt:c< (wsE keys per lag k r).length:=by omega
  rw[List.getD_eq_getElem?_getD,List.getElem?_eq_getElem hlt] at h0
  exact(a2 _ (List.getElem_mem hlt)).1 h0
 have hz: ∀j,c≤j→(wsE keys per lag k r).getD j (0,0)=(0,0):=fun j hj=>by
  rw[List.getD_eq_getElem?_getD,List.getElem?_eq_none (by omega)];rfl
 by_cases hp:i % 2=0
 ·obtain⟨j,rfl⟩: ∃j,i=8+2*j:=⟨(i-8)/2,by omega⟩
  rw[wdS_k,hz j (by omega)]
 ·obtain⟨j,rfl⟩: ∃j,i=9+2*j:=⟨(i-9)/2,by omega⟩
  rw[wdS_p,hz j (by omega)]
structure NodeS (keys:List Nat) (per lag k r:Nat) (n:NodeA):Prop where
 lv:n.lv=k
 low:n.low=lowK keys per lag k r
 nx:n.nx=(if r+1<nK keys per lag k then(adN keys per lag k (r+1):Int) else 0)
 ct:n.ct=0
 fi:n.fi=fiE keys per lag k r
 k': ∀i,i<8→n.k i=((wsE keys per lag k r).getD i (0,0)).1
 p': ∀i,i<8→n.p i=((wsE keys per lag k r).getD i (0,0)).2
 len:lenN n=(wsE keys per lag k r).length
 val:validN n=wsE keys per lag k r
theorem Core.nodeS (h:Core slabs keys per lag K bs) {k r:Nat} (hr:r<nK keys per lag k):NodeS keys per lag k r (ndF keys per lag k r):=by
 have hp:0<per:=by have:=h.p2;omega
 obtain⟨a1,a2,a3,_⟩:=h.wsok (List.Sublist.refl (wsE keys per lag k r)) hr
 have hc:=h.cut hr
 have hk: ∀i,i<8→(ndF keys per lag k r).k i=((wsE keys per lag k r).getD i (0,0)).1:=fun i hi=>(hc (8+2*i) (by omega)).trans (wdS_k k r i)
 have hpp: ∀i,i<8→(ndF keys per lag k r).p i=((wsE keys per lag k r).getD i (0,0)).2:=fun i hi=>(hc (9+2*i) (by omega)).trans (wdS_p k r i)
 have hfi:(ndF keys per lag k r).fi=fiE keys per lag k r:=hc 4 (by omega)
 obtain⟨v1,v2⟩:=valid_list (n:=ndF keys per lag k r) (ws:=wsE keys per lag k r) a1 (fun i e he=>by
   have hi:=(List.getElem?_eq_some_iff.1 he).1
   rw[hk i (by omega),hpp i (by omega),List.getD_eq_getElem?_getD,he];exact⟨rfl,rfl⟩)
  (fun hl=>by rw[hpp _ hl,List.getD_eq_getElem?_getD,List.getElem?_eq_none (Nat.le_refl _)];rfl) (fun e he=>(a2 e he).1) (fun e he=>by rw[hfi];exact(a2 e he).2.1) a3
 refine⟨?_,?_,hc 2 (by omega),hc 3 (by omega),hfi,hk,hpp,v1,v2⟩
 ·show cutW (wdS keys per lag k r) 0-tagN=_
  rw[hc 0 (by omega)]
  show tagN+(k:Int)-tagN=_
  omega
 ·exact(hc 1 (by omega)).trans (rowS_low (u:=uN keys) (t:=tK keys per lag k) (lvl:=k) hp)
theorem Built.wd (h:Built slabs keys per lag K bs) {k r:Nat} (hk:k<K+1) (hr:r<nK keys per lag k) (i:Nat) (hi:i<24):wdN bs (adN keys per lag k r+8*i)=wdS keys per lag k r i:=h.laid k hk _ (List.mem_of_getElem? (rowS_at hr)) i hi
theorem Core.adN_in (h:Core slabs keys per lag K bs) {k r:Nat} (hk:k<K+1) (hr:r<nK keys per lag k):adN keys per lag k r+192≤bs.length∧1088≤adN keys per lag k r∧adN keys per lag k r≤70000:=by
 have h1:=h.tin
 have h2:=h.tlt hk hr
 have h3:=nA_in (u:=uN keys) (t:=tK keys per lag k+r) (slabs:=slabs) (by omega)
 have h4:=h.len
 have h5:=h.s64
 show nA (uN keys) (tK keys per lag k+r)+192≤_∧1088≤nA (uN keys) (tK keys per lag k+r)∧nA (uN keys) (tK keys per lag k+r)≤_
 omega
theorem Core.vu (h:Core slabs keys per lag K bs): ∀y∈wordsOf bs,U64 y:=by
 intro x hx
 obtain⟨i,_,rfl⟩:=List.mem_map.1 hx
 have h1:=leW_bounds (bs:=(bs.drop (8*i)).take 8) (fun y hy=>h.byt y (List.mem_of_mem_drop (List.mem_of_mem_take hy)))
 have h2:(2:Int)^ (8*((bs.drop (8*i)).take 8).length)≤2^64:=by
  have h3:8*((bs.drop (8*i)).take 8).length≤64:=by rw[List.length_take];omega
  exact_mod_cast Nat.pow_le_pow_right (by omega) h3
 refine⟨h1.1,?_⟩
 show leW ((bs.drop (8*i)).take 8)≤_
 omega
theorem Core.nx_wd (h:Core slabs keys per lag K bs) (k r:Nat):wdS keys per lag k r 2=if r+1<nK keys per lag k then(adN keys per lag k (r+1):Int) else 0:=rfl
theorem Built.wat (h:Built slabs keys per lag K bs) {k r:Nat} (hk:k<K+1) (hr:r<nK keys per lag k):WAt (wordsOf bs) (adN keys per lag k r:Nat) (wdS keys per lag k r):=by
 obtain⟨b1,b2,b3⟩:=h.adN_in hk hr
 have hm:adN keys per lag k r % 64=0:=nA_mod _ _
 have hl:=h.len
 have h15:=h.k15
 refine⟨⟨by omega,by omega,by omega⟩,?_,fun i hi=> ?_,h.vu,fun hn=> ?_,?_⟩
 ·unfold wordsOf;rw[List.length_map,List.length_range];omega
 ·rw[show((adN keys per lag k r:Nat):Int)+8*(i:Int)=((adN keys per lag k r+8*i:Nat):Int) by omega,wdV_of (by omega) (by omega)]
  exact h.wd hk hr i hi
 ·rw[h.nx_wd] at hn ⊢
  by_cases hr1:r+1<nK keys per lag k
  ·rw[if_pos hr1]
   obtain⟨c1,c2,c3⟩:=h.adN_in hk hr1
   have hm1:adN keys per lag k (r+1)% 64=0:=nA_mod _ _
   rw[show((adN keys per lag k (r+1):Nat):Int)+8=((adN keys per lag k (r+1)+8:Nat):Int) by omega]
   exact inV_of (by omega) (by omega)
  ·rw[if_neg hr1] at hn;exact absurd rfl hn
 ·show tagN≤tagN+(k:Int)∧tagN+(k:Int)≤tagN+15
  omega
theorem Built.has (h:Built slabs keys per lag K bs) {k r:Nat} (hk:k<K+1) (hr:r<nK keys per lag k):
  hasV (wdS keys per lag k r)=decide (r+1<nK keys per lag k)∧highV (wordsOf bs) (wdS keys per lag k r)=(if r+1<nK keys per lag k then lowK keys per lag k (r+1) else 0):=by
 have hp:0<per:=by have:=h.p2;omega
 unfold hasV highV
 rw[h.nx_wd]
 by_cases hr1:r+1<nK keys per lag k
 ·have h0:((adN keys per lag k (r+1):Nat):Int)≠0:=by show((nA _ _:Nat):Int)≠0;unfold nA;omega
  obtain⟨c1,c2,c3⟩:=h.adN_in hk hr1
  have hm1:adN keys per lag k (r+1)% 64=0:=nA_mod _ _
  rw[if_pos hr1,if_pos hr1,if_pos h0,decide_eq_true hr1,decide_eq_true h0]
  refine⟨rfl,?_⟩
  rw[show((adN keys per lag k (r+1):Nat):Int)+8=((adN keys per lag k (r+1)+8*1:Nat):Int) by omega,wdV_of (by omega) (by omega),h.wd hk hr1 1 (by omega)]
  exact rowS_low (u:=uN keys) (t:=tK keys per lag k) (lvl:=k) (r:=r+1) (l:=eK keys per lag k) hp
 ·rw[if_neg hr1,if_neg hr1,if_neg (by simp),decide_eq_false hr1]
  exact⟨by simp,rfl⟩
theorem Built.rootV (h:Built slabs keys per lag K bs):wdV (wordsOf bs) 16=(adN keys per lag K 0:Nat):=by
 have hl:=h.len
 have:=wdV_of (bs:=bs) (a:=16) (by omega) (by omega)
 exact this.trans h.root
def leftN (keys:List Nat) (per lag k r:Nat):Nat:=nK keys per lag k-r-1+tK keys per lag k
inductive WkSt (keys:List Nat) (per lag K:Nat) (v:List Int) (c q:Int):Nat→WkP→Prop
 | root:WkSt keys per lag K v c q (1+45*tK keys per lag (K+1)) (wkNew c q 0)
 | snap (k r n:Nat) (s:SnP) (lo t:Int) (hk:k<K+1) (hr:r<nK keys per lag k) (hlow:lowK keys per lag k r≤q) (hs:SnSt v (adN keys per lag k r:Nat) (wdS keys per lag k r) n s):
   WkSt keys per lag K v c q (n+2+45*leftN keys per lag k r) { wkNew c q 0 with pa:=(adN keys per lag k r:Nat),low:=lo,dest:=t,u:= .snap s }
 | hop (k r n:Nat) (l:List Int) (lo t:Int) (hk:k<K+1) (hr:r+1<nK keys per lag k) (hlow:lowK keys per lag k (r+1)≤q) (hl:l=[((adN keys per lag k r:Nat):Int)]∧n=2∨l=[]∧n=1):
   WkSt keys per lag K v c q (n+45*leftN keys per lag k r) { wkNew c q 0 with pa:=(adN keys per lag k r:Nat),pn:=ndF keys per lag k r,ph:=lowK keys per lag k (r+1),phas:=true,low:=lo,dest:=t,u:= .hop ⟨c,l,false⟩ }
structure WkEnd (keys:List Nat) (per lag:Nat) (c q:Int) (x:WkP):Prop where
 over:x.over=true
 e:x.e=0
 client:x.client=c∧x.key=q∧x.level=0
 at': ∃r,r<nK keys per lag 0∧x.pa=(adN keys per lag 0 r:Nat)∧x.pn=ndF keys per lag 0 r∧x.phas=decide (r+1<nK keys per lag 0)∧x.ph=(if r+1<nK keys per lag 0 then lowK keys per lag 0 (r+1) else 0)∧lowK keys per lag 0 r≤q∧(r+1<nK keys per lag 0→q<lowK keys per lag 0 (r+1))
theorem tK_succ (keys:List Nat) (per lag k:Nat):tK keys per lag (k+1)=tK keys per lag k+nK keys per lag k:=rfl
theorem Built.come (h:Built slabs keys per lag K bs) {c q:Int} {k r:Nat} (hk:k<K+1) (hr:r<nK keys per lag k) (hlow:lowK keys per lag k r≤q) (x:WkP) (hx:x.client=c∧x.key=q∧x.level=0∧x.over=false∧x.e=0):WkSt keys per lag K (wordsOf bs) c q (45+45*leftN keys per lag k r) (x.come (adN keys per lag k r:Nat)):=by
 obtain⟨h1,h2,h3,h4,h5⟩:=hx
 have:=WkSt.snap (v:=wordsOf bs) (c:=c) k r 43 (snNew (adN keys per lag k r:Nat)) x.low x.dest hk hr hlow .counts
 obtain⟨x1,x2,x3,x4,x5,x6,x7,x8,x9,x10,x11,x12⟩:=x
 subst h1 h2 h3 h4 h5
 exact this
structure LandAt (keys:List Nat) (per lag:Nat) (c q:Int) (k r:Nat) (x:WkP):Prop where
 client:x.client=c
 key:x.key=q
 level:x.level=0
 pa:x.pa=(adN keys per lag k r:Nat)
 pn:x.pn=ndF keys per lag k r
 ph:x.ph=if r+1<nK keys per lag k then lowK keys per lag k (r+1) else 0
 phas:x.phas=decide (r+1<nK keys per lag k)
 over:x.over=false
 e:x.e=0
theorem Built.look (h:Built slabs keys per lag K bs) {c q:Int} (hq:0≤q) {k r:Nat} (hk:k<K+1) (hr:r<nK keys per lag k) (hlow:lowK keys per lag k r≤q) {x:WkP} (hx:LandAt keys per lag c q k r x):
  (∃n',n'<3+45*leftN keys per lag k r∧WkSt keys per lag K (wordsOf bs) c q n' x.look)∨WkEnd keys per lag c q x.look:=by
 have hN:=h.nodeS (k:=k) hr
 have hp:0<per:=by have:=h.p2;omega
 obtain⟨x1,x2,x3,x4,x5,x6,x7,x8,x9,x10,x11,x12⟩:=x
 obtain⟨rfl,rfl,rfl,rfl,rfl,rfl,rfl,rfl,rfl⟩:=hx
 unfold WkP.look
 simp only[]
 by_cases hh:r+1<nK keys per lag k∧lowK keys per lag k (r+1)≤x2
 ·left
  rw[if_pos ⟨decide_eq_true hh.1,by rw[if_pos hh.1];exact hh.2⟩]
  have:=WkSt.hop (v:=wordsOf bs) (c:=x1) (q:=x2) k r 2 _ x8 x9 hk hh.1 hh.2 (Or.inl ⟨rfl,rfl⟩)
  refine⟨2+45*leftN keys per lag k r,by omega,?_⟩
  rw[if_pos hh.1,decide_eq_true hh.1]
  exact this
 ·rw[if_neg (by rintro⟨g1,g2⟩;rw[if_pos (of_decide_eq_true g1)] at g2;exact hh ⟨of_decide_eq_true g1,g2⟩)]
  by_cases hk0:k=0
  ·right
   subst hk0
   rw[if_neg (by rw[hN.lv];simp),if_neg (by rw[hN.lv];simp)]
   exact⟨rfl,rfl,⟨rfl,rfl,rfl⟩,r,hr,rfl,rfl,rfl,rfl,hlow,fun g=>by have:=hh;omega⟩
  ·left
   obtain⟨j,rfl⟩: ∃j,k=j+1:=⟨k-1,by omega⟩
   rw[if_pos (by rw[hN.lv];omega)]
   obtain⟨y,ws,ho,hy,hy1⟩:=own_first h.toCore (Nat.succ_ne_zero j) hr
   have hch: ∃e∈eK keys per lag (j+1),childN (ndF keys per lag (j+1) r) x2=e.2∧e.1≤x2:=by
    rcases child_in (n:=ndF keys per lag (j+1) r) x2 with h1 | ⟨e,h1,h2,h3⟩
    ·refine⟨y,List.mem_of_getElem? hy,?_,by rw[hy1];exact hlow⟩
     rw[h1,hN.fi]
     unfold fiE
     rw[if_neg (Nat.succ_ne_zero j),ho];rfl
    ·rw[hN.val] at h1
     obtain⟨i,_,_,hie⟩:=wsE_mem h1
     exact⟨e,List.mem_of_getElem? hie,h2,h3⟩
   obtain⟨e,he,h2,h3⟩:=hch
   obtain⟨r',hr',rfl⟩:=eK_in hp he
   have h2':childN (ndF keys per lag (j+1) r) x2=(adN keys per lag j r':Nat):=h2
   rw[h2']
   refine⟨45+45*leftN keys per lag j r',?_,h.come (c:=x1) (q:=x2) (k:=j) (r:=r') (by omega) hr' h3 _ ⟨rfl,rfl,rfl,rfl,rfl⟩⟩
   have:=tK_succ keys per lag j
   unfold leftN
   omega
theorem WkSt.step (h:Built slabs keys per lag K bs) {c q:Int} (hq:0≤q) {n:Nat} {x:WkP} (hx:WkSt keys per lag K (wordsOf bs) c q n x):(∃n',n'<n∧WkSt keys per lag K (wordsOf bs) c q n' (x.next (wordsOf bs)))∨WkEnd keys per lag c q (x.next (wordsOf bs)):=by
 have hp:0<per:=by have:=h.p2;omega
 cases hx with
 | root=>
  left
  have hpos:=nRounds_pos per (eK keys per lag K)
  have hcome:=h.come (c:=c) (q:=q) (k:=K) (r:=0) (by omega) hpos (by show lowR _ _ 0≤q;unfold lowR;rw[if_pos rfl];exact hq) (wkNew c q 0) ⟨rfl,rfl,rfl,rfl,rfl⟩
  refine⟨45+45*leftN keys per lag K 0,?_,?_⟩
  ·have:=tK_succ keys per lag K
   have h2:0<nK keys per lag K:=hpos
   unfold leftN;omega
  ·unfold WkP.next
   rw[if_neg (by simp[wkNew])]
   show WkSt _ _ _ _ _ _ _ _ ((wkNew c q 0).come (wdV (wordsOf bs) 16))
   rw[h.rootV]
   exact hcome
 | snap k r n s lo t hk hr hlow hs=>
  have hW:=h.wat hk hr
  have hok:=hs.ok hW
  obtain⟨z1,z2⟩:=h.has hk hr
  unfold WkP.next
  rw[if_neg (by simp[wkNew])]
  rcases hs.step hW with⟨n',hn',hs'⟩ | he
  ·left
   have hov: ¬(s.next (wordsOf bs)).over=true:=by rw[(hs'.ok hW).1.live];simp
   show ∃m,_∧WkSt _ _ _ _ _ _ _ m (if(s.next (wordsOf bs)).over=true then _ else _)
   rw[if_neg hov]
   exact⟨n'+2+45*leftN keys per lag k r,by omega,.snap k r n' _ lo t hk hr hlow hs'⟩
  ·show(∃m,_∧WkSt _ _ _ _ _ _ _ m (if(s.next (wordsOf bs)).over=true then _ else _))∨WkEnd _ _ _ _ _ (if(s.next (wordsOf bs)).over=true then _ else _)
   rw[he,if_pos (show(snEnd (wordsOf bs) (adN keys per lag k r:Nat) (wdS keys per lag k r)).over=true from rfl)]
   have hland:LandAt keys per lag c q k r (({ wkNew c q 0 with pa:=(adN keys per lag k r:Nat),low:=lo,dest:=t,u:= .snap s }:WkP).land (snEnd (wordsOf bs) (adN keys per lag k r:Nat) (wdS keys per lag k r))):=by
    refine⟨rfl,rfl,rfl,rfl,rfl,?_,z1,rfl,rfl⟩
    show(if hasV (wdS keys per lag k r)=true then highV (wordsOf bs) (wdS keys per lag k r) else 0)=_
    rw[z1,z2]
    by_cases g:r+1<nK keys per lag k
    ·rw[decide_eq_true g,if_pos rfl]
    ·rw[decide_eq_false g,if_neg (by simp),if_neg g]
   rcases h.look hq hk hr hlow hland with⟨n',g1,g2⟩ | g
   ·exact Or.inl ⟨n',by omega,g2⟩
   ·exact Or.inr g
 | hop k r n l lo t hk hr hlow hl=>
  left
  unfold WkP.next
  rw[if_neg (by simp[wkNew])]
  rcases hl with⟨rfl,rfl⟩ | ⟨rfl,rfl⟩
  ·exact⟨1+45*leftN keys per lag k r,by omega,.hop k r 1 [] lo t hk hr hlow (Or.inr ⟨rfl,rfl⟩)⟩
  ·have hN:=h.nodeS (k:=k) (r:=r) (by omega)
   have hnx:(ndF keys per lag k r).nx=(adN keys per lag k (r+1):Nat):=by rw[hN.nx,if_pos hr]
   refine⟨45+45*leftN keys per lag k (r+1),by unfold leftN;omega,?_⟩
   show WkSt _ _ _ _ _ _ _ _ (WkP.come _ (ndF keys per lag k r).nx)
   rw[hnx]
   exact h.come hk hr hlow _ ⟨rfl,rfl,rfl,rfl,rfl⟩
end
end Go.Proofs.YtjmaicckkkdjpaaGreat
