/- A built image whose leaf is being turned, store by store, plainly: it may be; one key has gone. -/
import Derived.Test.YtibiekfjbibpbaaGreatSndF
set_option linter.unusedVariables false
set_option linter.unusedSimpArgs false
namespace Go.Proofs.YtibiekfjbibpbaaGreat
open Go.RowKit
def idxT (n pos j:Nat):Nat:=if j=0 then 9+2*pos else if j+1=2*(n-pos) then 9+2*(n-1) else 8+2*pos+(j-1)
def wdT (n pos:Nat) (ahead:Int) (own:List (Int×Int)) (j:Nat):Int:=
 if j=0 then ahead else if j+1=2*(n-pos) then 0 else if j % 2=1 then(own.getD (pos+j/2+1) (0,0)).1 else(own.getD (pos+j/2) (0,0)).2
def tornB (bs:List Int) (a n pos:Nat) (ahead:Int) (own:List (Int×Int)):Nat→List Int
 | 0=>bs
 | s+1=>putW (tornB bs a n pos ahead own s) (a+8*idxT n pos s) (wdT n pos ahead own s).toNat
def kT (n pos:Nat) (own:List (Int×Int)) (s i:Nat):Int:=if pos≤i∧i+1<n∧1+2*(i-pos)<s then(own.getD (i+1) (0,0)).1 else(own.getD i (0,0)).1
def pT (n pos:Nat) (ahead:Int) (own:List (Int×Int)) (s i:Nat):Int:=
 if i+1=n∧2*(n-pos)≤s then 0 else if pos≤i∧i+1<n∧2+2*(i-pos)<s then(own.getD (i+1) (0,0)).2 else if i=pos∧0<s then ahead else(own.getD i (0,0)).2
theorem kT_zero (n pos:Nat) (own:List (Int×Int)) (i:Nat):kT n pos own 0 i=(own.getD i (0,0)).1:=by unfold kT;rw[if_neg (by omega)]
theorem pT_zero {n pos:Nat} (ahead:Int) (own:List (Int×Int)) (i:Nat) (h:pos<n):pT n pos ahead own 0 i=(own.getD i (0,0)).2:=by unfold pT;rw[if_neg (by omega),if_neg (by omega),if_neg (by omega)]
theorem torn_step {n pos s:Nat} {ahead:Int} {own:List (Int×Int)} (hp:pos<n) (hs:s<2*(n-pos)) (i:Nat):
  (kT n pos own (s+1) i=if idxT n pos s=8+2*i then wdT n pos ahead own s else kT n pos own s i)∧(pT n pos ahead own (s+1) i=if idxT n pos s=9+2*i then wdT n pos ahead own s else pT n pos ahead own s i):=by
 by_cases h0:s=0
 ·subst h0
  have e1:idxT n pos 0=9+2*pos:=rfl
  have e2:wdT n pos ahead own 0=ahead:=rfl
  rw[e1,e2]
  refine⟨?_,?_⟩
  ·rw[if_neg (by omega)];unfold kT;rw[if_neg (by omega),if_neg (by omega)]
  ·unfold pT
   rw[if_neg (by omega),if_neg (by omega),if_neg (show ¬(i+1=n∧2*(n-pos)≤0) by omega),if_neg (show ¬(pos≤i∧i+1<n∧2+2*(i-pos)<0) by omega),if_neg (show ¬(i=pos∧0<0) by omega)]
   by_cases h:i=pos
   ·rw[if_pos ⟨h,by omega⟩,if_pos (by omega)]
   ·rw[if_neg (by omega),if_neg (by omega)]
 ·by_cases hl:s+1=2*(n-pos)
  ·have e1:idxT n pos s=9+2*(n-1):=by unfold idxT;rw[if_neg h0,if_pos hl]
   have e2:wdT n pos ahead own s=0:=by unfold wdT;rw[if_neg h0,if_pos hl]
   rw[e1,e2]
   refine⟨?_,?_⟩
   ·rw[if_neg (by omega)]
    unfold kT
    by_cases h:pos≤i∧i+1<n∧1+2*(i-pos)<s
    ·rw[if_pos h,if_pos (by omega)]
    ·rw[if_neg h,if_neg (by omega)]
   ·unfold pT
    by_cases h:i+1=n
    ·rw[if_pos ⟨h,by omega⟩,if_pos (by omega)]
    ·rw[if_neg (by omega),if_neg (show ¬9+2*(n-1)=9+2*i by omega),if_neg (show ¬(i+1=n∧2*(n-pos)≤s) by omega)]
     by_cases h2:pos≤i∧i+1<n∧2+2*(i-pos)<s
     ·rw[if_pos h2,if_pos (by omega)]
     ·rw[if_neg h2,if_neg (by omega)]
      by_cases h3:i=pos
      ·rw[if_pos ⟨h3,by omega⟩,if_pos ⟨h3,by omega⟩]
      ·rw[if_neg (by omega),if_neg (by omega)]
  ·have e1:idxT n pos s=8+2*pos+(s-1):=by unfold idxT;rw[if_neg h0,if_neg hl]
   rw[e1]
   refine⟨?_,?_⟩
   ·by_cases h:8+2*pos+(s-1)=8+2*i
    ·rw[if_pos h]
     unfold kT wdT
     rw[if_pos (by omega),if_neg h0,if_neg hl,if_pos (by omega),show pos+s/2+1=i+1 by omega]
    ·rw[if_neg h]
     unfold kT
     by_cases h2:pos≤i∧i+1<n∧1+2*(i-pos)<s
     ·rw[if_pos h2,if_pos (by omega)]
     ·rw[if_neg h2,if_neg (by omega)]
   ·by_cases h:8+2*pos+(s-1)=9+2*i
    ·rw[if_pos h]
     unfold pT wdT
     rw[if_neg (by omega),if_pos (by omega),if_neg h0,if_neg hl,if_neg (by omega),show pos+s/2=i+1 by omega]
    ·rw[if_neg h]
     unfold pT
     rw[if_neg (by omega),if_neg (show ¬(i+1=n∧2*(n-pos)≤s) by omega)]
     by_cases h2:pos≤i∧i+1<n∧2+2*(i-pos)<s
     ·rw[if_pos h2,if_pos (by omega)]
     ·rw[if_neg h2,if_neg (by omega)]
      by_cases h3:i=pos
      ·rw[if_pos ⟨h3,by omega⟩,if_pos ⟨h3,by omega⟩]
      ·rw[if_neg (by omega),if_neg (by omega)]
theorem torn_valid {n pos s:Nat} {own:List (Int×Int)} {nd:NodeA} (hn:own.length=n) (h8:n≤8) (hp:pos<n) (h1:1≤s) (hs:s≤2*(n-pos)) (hk: ∀i,i<8→nd.k i=kT n pos own s i∧nd.p i=pT n pos (if pos=0 then nd.fi else(own.getD (pos-1) (0,0)).2) own s i) (hfi0:nd.fi≠0) (hnz: ∀e∈own,e.2≠0) (hfi: ∀e∈own,e.2≠nd.fi) (hd:(own.map (·.2)).Nodup):
  lenN nd≤(own.eraseIdx pos).length+1∧q0r nd=own.eraseIdx pos:=by
 have hsub:(own.eraseIdx pos).Sublist own:=List.eraseIdx_sublist _ _
 have hlen:(own.eraseIdx pos).length=n-1:=by rw[List.length_eraseIdx,if_pos (by omega),hn]
 have hget: ∀i e,(own.eraseIdx pos)[i]?=some e→i<n-1∧own.getD (if i<pos then i else i+1) (0,0)=e:=fun i e he=>by
  have hi:=(List.getElem?_eq_some_iff.1 he).1
  rw[hlen] at hi
  refine⟨hi,?_⟩
  rw[List.getElem?_eraseIdx] at he
  rw[List.getD_eq_getElem?_getD]
  split at he
  ·rename_i h;rw[if_pos h,he];rfl
  ·rename_i h;rw[if_neg h,he];rfl
 have hnz': ∀e∈own.eraseIdx pos,e.2≠0:=fun e he=>hnz e (hsub.subset he)
 have hfi': ∀e∈own.eraseIdx pos,e.2≠nd.fi:=fun e he=>hfi e (hsub.subset he)
 have hd':((own.eraseIdx pos).map (·.2)).Nodup:=(hsub.map _).nodup hd
 by_cases hl:s=2*(n-pos)
 ·obtain⟨q1,q2⟩:=valid_list (n:=nd) (ws:=own.eraseIdx pos) (by omega) (fun i e he=>by
   obtain⟨hi,ge⟩:=hget i e he
   obtain⟨k1,k2⟩:=hk i (by omega)
   rw[k1,k2]
   unfold kT pT
   rw[if_neg (show ¬(i+1=n∧2*(n-pos)≤s) by omega)]
   by_cases hip:i<pos
   ·rw[if_pos hip] at ge
    rw[if_neg (by omega),if_neg (by omega),if_neg (by omega),ge];exact⟨rfl,rfl⟩
   ·rw[if_neg hip] at ge
    rw[if_pos (by omega),if_pos (by omega),ge];exact⟨rfl,rfl⟩) (fun h=>by
   rw[hlen]
   rw[(hk (n-1) (by omega)).2]
   unfold pT
   rw[if_pos (by omega)]) hnz' hfi' hd'
  exact⟨by omega,q2⟩
 ·obtain⟨q,hq⟩: ∃q,q=(s-1)/2:=⟨_,rfl⟩
  obtain⟨q1,q2⟩:=valid_skip (n:=nd) (ws:=own.eraseIdx pos) (c:=pos+q) (by omega) (by omega) (fun i e hic he=>by
   obtain⟨hi,ge⟩:=hget i e he
   obtain⟨k1,k2⟩:=hk i (by omega)
   rw[k1,k2]
   unfold kT pT
   rw[if_neg (show ¬(i+1=n∧2*(n-pos)≤s) by omega)]
   by_cases hip:i<pos
   ·rw[if_pos hip] at ge
    rw[if_neg (by omega),if_neg (by omega),if_neg (by omega),ge];exact⟨rfl,rfl⟩
   ·rw[if_neg hip] at ge
    rw[if_pos (by omega),if_pos (by omega),ge];exact⟨rfl,rfl⟩) (fun i e hci he=>by
   obtain⟨hi,ge⟩:=hget i e he
   obtain⟨k1,k2⟩:=hk (i+1) (by omega)
   rw[k1,k2]
   rw[if_neg (by omega)] at ge
   unfold kT pT
   rw[if_neg (show ¬(i+1+1=n∧2*(n-pos)≤s) by omega),if_neg (by omega),if_neg (by omega),if_neg (by omega),ge];exact⟨rfl,rfl⟩) (by
   rw[(hk (pos+q) (by omega)).2]
   unfold x0f
   by_cases hq0:q=0
   ·subst hq0
    rw[Nat.add_zero]
    have e1:pT n pos (if pos=0 then nd.fi else(own.getD (pos-1) (0,0)).2) own s pos=if pos=0 then nd.fi else(own.getD (pos-1) (0,0)).2:=by
     unfold pT
     rw[if_neg (by omega),if_neg (by omega),if_pos ⟨rfl,by omega⟩]
    rw[e1]
    by_cases hp0:pos=0
    ·rw[if_pos hp0,if_pos hp0]
    ·rw[if_neg hp0,if_neg hp0,(hk (pos-1) (by omega)).2]
     unfold pT
     rw[if_neg (by omega),if_neg (by omega),if_neg (by omega)]
   ·rw[if_neg (show ¬pos+q=0 by omega),(hk (pos+q-1) (by omega)).2]
    unfold pT
    rw[if_neg (show ¬(pos+q+1=n∧2*(n-pos)≤s) by omega),if_neg (show ¬(pos≤pos+q∧pos+q+1<n∧2+2*(pos+q-pos)<s) by omega),if_neg (show ¬(pos+q=pos∧0<s) by omega),if_neg (show ¬(pos+q-1+1=n∧2*(n-pos)≤s) by omega),if_pos (by omega),show pos+q-1+1=pos+q by omega]) hfi0 (fun h=>by
   rw[hlen,show n-1+1=n by omega,(hk n (by omega)).2]
   unfold pT
   rw[if_neg (by omega),if_neg (by omega),if_neg (by omega),List.getD_eq_getElem?_getD,List.getElem?_eq_none (by omega)];rfl) hnz' hfi' hd'
  exact⟨by omega,q2⟩
section
variable {slabs per lag K:Nat} {keys:List Nat} {bs:List Int}
theorem Base.putN (h:Base slabs keys per lag K bs) {t x w:Nat} (ht:t<5*(slabs-uN keys)) (h1:nA (uN keys) t≤x) (h2:x+8≤nA (uN keys) t+192):Base slabs keys per lag K (putW bs x w):=by
 have hin:=nA_in ht
 have hl:=h.len
 have hx:x+8≤bs.length:=by omega
 have hT:=stk_le keys per lag (a:=K) (b:=K+1) (by omega)
 refine⟨h.s1,h.s64,h.kk,h.rise,h.p2,h.p8,h.k15,by rw[q3n _ hx];exact hl,q7z h.byt _ _,h.top.put (by omega) hx,?_,fun s s1 s2=> ?_,fun s s1 s2=> ?_,fun j hj=> ?_,h.vin,h.tin⟩
 ·rw[z2z hx (by omega)];exact h.root
 ·rw[z2z hx (by have:=nA_head (uN keys) t s 8 s1 (by omega);omega)];exact h.hc s s1 s2
 ·rw[z2z hx (by have:=nA_head (uN keys) t s 16 s1 (by omega);omega)];exact h.hb s s1 s2
 ·rw[slB_putW hx (by have:=nA_val (keys:=keys) t hj;omega)];exact h.vs j hj
structure TornAt (slabs:Nat) (keys:List Nat) (per lag K r0 pos s:Nat) (bs:List Int):Prop extends Base slabs keys per lag K bs where
 rest: ∀j,j<K+1→ ∀x∈rowK (uN keys) per lag (ents0 keys) j,x.1≠nA (uN keys) r0→LaidAt bs x.1 x.2
 head: ∀i,i<8→ ∀x,(rowK (uN keys) per lag (ents0 keys) 0)[r0]?=some x→wdN bs (nA (uN keys) r0+8*i)=q9g x.2 i
 ks: ∀i,i<8→wdN bs (nA (uN keys) r0+8*(8+2*i))=kT (ownE keys per lag 0 r0).length pos (ownE keys per lag 0 r0) s i
 ps: ∀i,i<8→wdN bs (nA (uN keys) r0+8*(9+2*i))=pT (ownE keys per lag 0 r0).length pos (if pos=0 then(nA (uN keys) r0:Int) else((ownE keys per lag 0 r0).getD (pos-1) (0,0)).2) (ownE keys per lag 0 r0) s i
theorem Built.own0 (h:Built slabs keys per lag K bs) {r0:Nat} (hr:r0<nK keys per lag 0):wsE keys per lag 0 r0=ownE keys per lag 0 r0:=by unfold wsE;rw[if_pos rfl];rfl
theorem Built.torn (h:Built slabs keys per lag K bs) {r0 pos:Nat} (hr:r0<nK keys per lag 0) (hp:pos< (ownE keys per lag 0 r0).length):TornAt slabs keys per lag K r0 pos 0 bs:=by
 have e0:tK keys per lag 0+r0=r0:=Nat.zero_add _
 obtain⟨x0,hx0,hx1⟩: ∃x0,(rowK (uN keys) per lag (ents0 keys) 0)[r0]?=some x0∧x0.1=nA (uN keys) r0:=⟨_,rowS_at hr,by show nA _ (tK keys per lag 0+r0)=_;rw[e0]⟩
 have hl2:=h.laid 0 (by omega) x0 (List.mem_of_getElem? hx0)
 rw[hx1] at hl2
 obtain⟨n1,n2⟩:=h.node (k:=0) (by omega) hr
 rw[e0,h.own0 hr] at n2
 have hk: ∀i,i<8→wdN bs (nA (uN keys) r0+8*(8+2*i))=((ownE keys per lag 0 r0).getD i (0,0)).1∧wdN bs (nA (uN keys) r0+8*(9+2*i))=((ownE keys per lag 0 r0).getD i (0,0)).2:=fun i hi=>by
  obtain⟨a1,a2⟩:=n2 i hi
  refine⟨?_,?_⟩
  ·rw[←a1,←nodeF_at];rfl
  ·rw[←a2,←nodeF_at];rfl
 refine⟨h.toBase,fun j hj x hx _=>h.laid j hj x hx,fun i hi x hx=> ?_,fun i hi=> ?_,fun i hi=> ?_⟩
 ·rw[hx0] at hx
  injection hx with hx
  rw[←hx]
  exact hl2 i (by omega)
 ·rw[(hk i hi).1,kT_zero]
 ·rw[(hk i hi).2,pT_zero _ _ _ hp]
theorem Base.own_U (h:Base slabs keys per lag K bs) {r0:Nat} (i:Nat):U64 ((ownE keys per lag 0 r0).getD i (0,0)).1∧U64 ((ownE keys per lag 0 r0).getD i (0,0)).2:=by
 unfold U64
 rw[List.getD_eq_getElem?_getD]
 cases hc:(ownE keys per lag 0 r0)[i]? with
 | none=>exact⟨⟨by decide,by decide⟩,⟨by decide,by decide⟩⟩
 | some e=>
  obtain⟨q,_,hq⟩:=ownK_mem (List.mem_of_getElem? hc)
  have hq':(ents0 keys)[r0*per+q]?=some e:=hq
  have hlt:=(List.getElem?_eq_some_iff.1 hq').1
  rw[ents0_len] at hlt
  rw[ents0_at hlt] at hq'
  injection hq' with hq'
  have hkj:keys.getD (r0*per+q) 0<18446744073709551616:=by
   rw[List.getD_eq_getElem?_getD,List.getElem?_eq_getElem hlt];exact h.kk _ (List.getElem_mem _)
  have hva:=vA_in (i:=r0*per+q) (slabs:=slabs) (by have:=h.vin;omega)
  have h64:=h.s64
  show((0:Int)≤e.1∧_)∧((0:Int)≤e.2∧_)
  rw[←hq']
  simp only[Option.getD_some]
  omega
theorem wdT_U (h:Base slabs keys per lag K bs) {r0 pos:Nat} (hr:nA (uN keys) r0<18446744073709551616) (n s:Nat):U64 (wdT n pos (if pos=0 then(nA (uN keys) r0:Int) else((ownE keys per lag 0 r0).getD (pos-1) (0,0)).2) (ownE keys per lag 0 r0) s):=by
 unfold wdT
 have z:U64 (0:Int):=⟨by decide,by decide⟩
 split
 ·split
  ·unfold U64;omega
  ·exact(h.own_U _).2
 ·split
  ·exact z
  ·split
   ·exact(h.own_U _).1
   ·exact(h.own_U _).2
abbrev wdE (keys:List Nat) (per lag r0 pos s:Nat):Int:=wdT (ownE keys per lag 0 r0).length pos (if pos=0 then(nA (uN keys) r0:Int) else((ownE keys per lag 0 r0).getD (pos-1) (0,0)).2) (ownE keys per lag 0 r0) s
theorem TornAt.next {r0 pos s:Nat} (h:TornAt slabs keys per lag K r0 pos s bs) (hr:r0<nK keys per lag 0) (hp:pos< (ownE keys per lag 0 r0).length) (hs:s<2*((ownE keys per lag 0 r0).length-pos)):
  TornAt slabs keys per lag K r0 pos (s+1) (putW bs (nA (uN keys) r0+8*idxT (ownE keys per lag 0 r0).length pos s) (wdE keys per lag r0 pos s).toNat):=by
 have e0:tK keys per lag 0+r0=r0:=Nat.zero_add _
 have hlt:=h.tlt (k:=0) (by omega) hr
 rw[e0] at hlt
 have htin:=h.tin
 have h64:=h.s64
 have hl:=h.len
 have hin:=nA_in (u:=uN keys) (t:=r0) (slabs:=slabs) (by omega)
 have h8:(ownE keys per lag 0 r0).length≤8:=by have:=ownK_len per r0 (eK keys per lag 0);have:=h.p8;exact Nat.le_trans (ownK_len _ _ _) this
 have hU:=wdT_U h.toBase (r0:=r0) (pos:=pos) (by omega) (ownE keys per lag 0 r0).length s
 obtain⟨n,hn⟩: ∃n,n=(ownE keys per lag 0 r0).length:=⟨_,rfl⟩
 have hks:=h.ks
 have hps:=h.ps
 obtain⟨w,hw⟩: ∃w,w=wdE keys per lag r0 pos s:=⟨_,rfl⟩
 have hU':U64 w:=by rw[hw];exact hU
 have hw2:=hw
 unfold wdE at hw2
 rw[←hw]
 rw[←hn] at hp hs h8 hks hps hw2 ⊢
 obtain⟨q,hq⟩: ∃q,q=idxT n pos s:=⟨_,rfl⟩
 have hq2:8≤q∧q≤23:=by rw[hq];unfold idxT;split;omega;split<;>omega
 rw[←hq]
 have hx:nA (uN keys) r0+8*q+8≤bs.length:=by omega
 unfold U64 at hU'
 refine⟨h.toBase.putN (t:=r0) (by omega) (by omega) (by omega),fun j hj x hx1 hne i hi=> ?_,fun i hi x hx1=> ?_,fun i hi=> ?_,fun i hi=> ?_⟩
 ·have hx2:=hx1
  unfold rowK rowS at hx2
  obtain⟨r,_,rfl⟩:=List.mem_map.1 hx2
  have hne2:(stk (uN keys) per lag (ents0 keys) j).1+r≠r0:=fun e=>hne (by show nA _ _=_;rw[e])
  rw[z2z hx (by have:=nA_apart (u:=uN keys) hne2;show _∨_≤nA _ _+_;show nA _ _+_+_≤_∨_;omega)]
  exact h.rest j hj _ hx1 hne i hi
 ·rw[z2z hx (by omega)];exact h.head i hi x hx1
 ·rw[←hn,(torn_step (ahead:=if pos=0 then(nA (uN keys) r0:Int) else((ownE keys per lag 0 r0).getD (pos-1) (0,0)).2) hp hs i).1,←hw2,←hq]
  by_cases e:q=8+2*i
  ·rw[if_pos e,←e,v0q hx (by omega)];omega
  ·rw[if_neg e,z2z hx (by omega)];exact hks i hi
 ·rw[←hn,(torn_step (ahead:=if pos=0 then(nA (uN keys) r0:Int) else((ownE keys per lag 0 r0).getD (pos-1) (0,0)).2) hp hs i).2,←hw2,←hq]
  by_cases e:q=9+2*i
  ·rw[if_pos e,←e,v0q hx (by omega)];omega
  ·rw[if_neg e,z2z hx (by omega)];exact hps i hi
def wsT (keys:List Nat) (per lag r0 pos k r:Nat):List (Int×Int):=if k=0∧r=r0 then(wsE keys per lag k r).eraseIdx pos else wsE keys per lag k r
theorem TornAt.rdb {r0 pos s:Nat} (h:TornAt slabs keys per lag K r0 pos s bs) (hr:r0<nK keys per lag 0) (hp:pos< (ownE keys per lag 0 r0).length) (h1:1≤s) (hs:s≤2*((ownE keys per lag 0 r0).length-pos)):Rdb slabs keys per lag K bs (wsT keys per lag r0 pos):=by
 have e0:tK keys per lag 0+r0=r0:=Nat.zero_add _
 have h8:(ownE keys per lag 0 r0).length≤8:=Nat.le_trans (ownK_len _ _ _) h.p8
 have hw0:wsE keys per lag 0 r0=ownE keys per lag 0 r0:=by unfold wsE;rw[if_pos rfl];rfl
 refine⟨h.toBase,fun{k r} hk hrr=> ?_,fun k r=> ?_⟩
 ·by_cases hkr:k=0∧r=r0
  ·obtain⟨rfl,rfl⟩:=hkr
   have hN:=h.nodeH (k:=0) hk hrr (fun i hi=>by
    have:=h.head i hi _ (rowS_at hrr)
    rw[e0]
    exact this)
   refine⟨hN,?_⟩
   unfold wsT
   rw[if_pos ⟨rfl,rfl⟩,hw0]
   obtain⟨a1,a2,a3,a4⟩:=h.wsok (k:=0) (List.Sublist.refl _) hrr
   rw[hw0] at a2 a3
   have hfi:(nRd bs (nA (uN keys) (tK keys per lag 0+r))).fi=(nA (uN keys) r:Int):=by rw[hN.fi];unfold fiE;rw[if_pos rfl,e0]
   refine torn_valid rfl h8 hp h1 hs (fun i hi=> ?_) (by rw[hN.fi];exact h.fi0 hrr) (fun e he=>(a2 e he).1) (fun e he=>by rw[hN.fi];exact(a2 e he).2.1) a3
   rw[hfi,e0]
   exact⟨(nodeF_at bs (nA (uN keys) r) (8+2*i)).trans (h.ks i hi),(nodeF_at bs (nA (uN keys) r) (9+2*i)).trans (h.ps i hi)⟩
  ·have hl:LaidAt bs (nA (uN keys) (tK keys per lag k+r)) (ndS keys per lag k r):=by
    refine h.rest k hk _ (List.mem_of_getElem? (rowS_at hrr)) (fun e=> ?_)
    have e2:=nA_inj (show nA (uN keys) (tK keys per lag k+r)=nA (uN keys) r0 from e)
    by_cases hk0:k=0
    ·subst hk0
     have e3:tK keys per lag 0+r=r:=Nat.zero_add _
     rw[e3] at e2
     exact hkr ⟨rfl,e2⟩
    ·have:=stk_le keys per lag (a:=1) (b:=k) (by omega)
     have e3:tK keys per lag 1=0+nK keys per lag 0:=rfl
     omega
   have hv:=h.validL hk hrr hl
   unfold wsT
   rw[if_neg hkr]
   exact⟨(h.nodeL hk hrr hl).1,by rw[hv.1];omega,hv.2⟩
 ·unfold wsT
  split
  ·exact List.eraseIdx_sublist _ _
  ·exact List.Sublist.refl _
theorem torn_flat (hp2:0<per) {r0 pos:Nat} (hr:r0<nK keys per lag 0) (hp:pos< (ownE keys per lag 0 r0).length):(List.range (nK keys per lag 0)).flatMap (wsT keys per lag r0 pos 0)=((List.range keys.length).eraseIdx (r0*per+pos)).map (entJ keys):=by
 obtain⟨d,hd⟩: ∃d,nK keys per lag 0=r0+(d+1):=⟨nK keys per lag 0-r0-1,by omega⟩
 have hw0: ∀r,wsE keys per lag 0 r=ownK per (ents0 keys) r:=fun r=>by unfold wsE;rw[if_pos rfl];rfl
 have hfull:(List.range (nK keys per lag 0)).flatMap (ownK per (ents0 keys))=ents0 keys:=by
  rw[flat_own];exact List.take_of_length_le (nRounds_all (ents0 keys) hp2)
 have hsplit: ∀f:Nat→List (Int×Int),(List.range (nK keys per lag 0)).flatMap f=(List.range r0).flatMap f++(f r0++(List.range' (r0+1) d).flatMap f):=fun f=>by
  rw[hd,List.range_eq_range',←List.range'_append_1,Nat.zero_add,List.flatMap_append,List.range'_succ,List.flatMap_cons,←List.range_eq_range']
 have hA:(List.range r0).flatMap (wsT keys per lag r0 pos 0)=(List.range r0).flatMap (ownK per (ents0 keys)):=by
  rw[List.flatMap_def,List.flatMap_def]
  congr 1
  refine List.map_congr_left fun r hr2=> ?_
  have:=List.mem_range.1 hr2
  unfold wsT
  rw[if_neg (by omega),hw0]
 have hC:(List.range' (r0+1) d).flatMap (wsT keys per lag r0 pos 0)=(List.range' (r0+1) d).flatMap (ownK per (ents0 keys)):=by
  rw[List.flatMap_def,List.flatMap_def]
  congr 1
  refine List.map_congr_left fun r hr2=> ?_
  have:=(List.mem_range'_1.1 hr2).1
  unfold wsT
  rw[if_neg (by omega),hw0]
 have hB:wsT keys per lag r0 pos 0 r0=(ownK per (ents0 keys) r0).eraseIdx pos:=by unfold wsT;rw[if_pos ⟨rfl,rfl⟩,hw0]
 have hlenA:((List.range r0).flatMap (ownK per (ents0 keys))).length=r0*per:=by
  rw[flat_own,List.length_take]
  have h1:=(List.getElem?_eq_some_iff.1 (List.getElem?_eq_getElem hp)).1
  have h2:(ownK per (ents0 keys) r0).length≤(ents0 keys).length-r0*per:=by unfold ownK;rw[List.length_take,List.length_drop];omega
  have h3:pos< (ownK per (ents0 keys) r0).length:=hp
  omega
 have hp':pos< (ownK per (ents0 keys) r0).length:=hp
 rw[hsplit,hA,hB,hC]
 have e1:((List.range keys.length).eraseIdx (r0*per+pos)).map (entJ keys)=(ents0 keys).eraseIdx (r0*per+pos):=by
  apply List.ext_getElem?
  intro i
  rw[List.getElem?_map,List.getElem?_eraseIdx,List.getElem?_eraseIdx]
  unfold ents0
  split<;>rw[List.getElem?_map]<;>rfl
 rw[e1]
 conv=>rhs;rw[←hfull,hsplit (ownK per (ents0 keys))]
 rw[List.eraseIdx_append_of_length_le (by rw[hlenA];omega),hlenA,Nat.add_sub_cancel_left,List.eraseIdx_append_of_lt_length hp']
end
end Go.Proofs.YtibiekfjbibpbaaGreat
