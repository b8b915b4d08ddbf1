import Derived.Test.YtjmaicckkkdjpaaGreatM11
/- Three gets side by side, plainly: what holds while they step in whichever turns. -/
set_option linter.unusedVariables false
set_option linter.unusedSimpArgs false
namespace Go.Proofs.YtjmaicckkkdjpaaGreat
open Go.RowKit
theorem fenceA_no {A:MA} (h:A.lines=[]) (c:Nat):fenceA A c=A:=by
 obtain⟨v,i,l⟩:=A
 subst h
 unfold fenceA
 congr 1
 exact List.ext_getElem? fun j=>by simp[List.getElem?_mapIdx]
theorem eff_quiet (x:GtP) {A:MA} (h:A.lines=[]):x.eff A=A:=by
 have hl: ∀l:LtP,l.eff A=A:=fun l=>by
  unfold LtP.eff
  split
  ·rfl
  ·split
   ·obtain⟨v,i,ls⟩:=A
    subst h
    rfl
   ·exact fenceA_no h _
 unfold GtP.eff
 split
 ·unfold WkP.eff
  split
  ·rfl
  ·split
   ·exact hl _
   ·rfl
 ·exact hl _
 ·rfl
structure Quiet (M:MemS) (V:List Int):Prop where
 view:M.view=V
 image:M.image=V
 lines:M.lines=[]
theorem Quiet.next {M M':MemS} {V:List Int} (h:Quiet M V) (x:GtP) (ha:absM M'=x.eff (absM M)):Quiet M' V:=by
 have hl:(absM M).lines=[]:=by show M.lines.map absL=[];rw[h.lines];rfl
 rw[eff_quiet x hl] at ha
 have h1:=congrArg MA.view ha
 have h2:=congrArg MA.image ha
 have h3:=congrArg MA.lines ha
 have h4:M'.lines.map absL=[]:=by
  have:M'.lines.map absL=(absM M).lines:=h3
  rw[this,hl]
 exact⟨h1.trans h.view,h2.trans h.image,List.map_eq_nil_iff.1 h4⟩
def GmC (keys:List Nat) (per lag K:Nat) (bs:List Int) (S0:Nat) (c:Nat) (q:Int) (x:GtP) (dn:Bool) (n:Nat):Prop:=
 (dn=false∧ ∃l,GtSt keys per lag K bs c q l x∧n+l≤S0)∨(dn=true∧GtEnd keys q x∧n≤S0)
def updF {α:Type} (f:Nat→α) (c:Nat) (v:α):Nat→α:=fun d=>if d=c then v else f d
theorem updF_at {α:Type} (f:Nat→α) (c:Nat) (v:α):updF f c v c=v:=if_pos rfl
theorem updF_ne {α:Type} (f:Nat→α) {c d:Nat} (v:α) (h:d≠c):updF f c v d=f d:=if_neg h
structure GmW (W2:World) (L0:Nat) (si m:Nat) (MB:MB) (M0:MemS) (V:List Int) (k:Nat) (gs:Nat→Nat) (W:World) (xs:Nat→GtP) (fs:Nat→List Nat) (M:MemS):Prop where
 inn: ∀c,c<k→WkIn W si m (gs c) MB M 0 (fs c)
 is: ∀c,c<k→GtIs W si m (gs c) (xs c) (fs c)
 ap: ∀c d,c<k→d<k→c≠d→ ∀z∈gs c::fs c,z∉gs d::fs d
 lo: ∀c,c<k→ ∀z∈gs c::fs c,L0≤z
 quiet:Quiet M V
 foot: ∀y∈footM m MB M,y∈footM m MB M0∨L0≤y
 sl:si<W2.heap.size
 fl: ∀y∈footM m MB M0,y<W2.heap.size
 hL:W2.heap.size≤L0
 since: ∃ks,(∀y∈ks,W2.heap.size≤y∨y∈footM m MB M0)∧Only ks W2 W
theorem GmW.lt {W2 W:World} {L0 si m:Nat} {MB:MB} {M0 M:MemS} {V:List Int} {k:Nat} {gs:Nat→Nat} {xs:Nat→GtP} {fs:Nat→List Nat} (h:GmW W2 L0 si m MB M0 V k gs W xs fs M) {c:Nat} (hc:c<k): ∀z∈gs c::fs c,z<W.heap.size:=fun z hz=>by
 have h1:=(h.is c hc).lt
 rcases List.mem_cons.1 hz with rfl | hz
 ·exact h1.1
 ·exact h1.2 z hz
theorem GmW.far {W2 W:World} {L0 si m:Nat} {MB:MB} {M0 M:MemS} {V:List Int} {k:Nat} {gs:Nat→Nat} {xs:Nat→GtP} {fs:Nat→List Nat} (h:GmW W2 L0 si m MB M0 V k gs W xs fs M) {c:Nat} (hc:c<k): ∀z∈gs c::fs c,z∉footM m MB M:=fun z hz=>by
 have h1:=h.inn c hc
 rcases List.mem_cons.1 hz with rfl | hz
 ·exact h1.gm
 ·exact h1.fm z hz
theorem GmW.only {W2 W W':World} {L0 si m:Nat} {MB:MB} {M0 M:MemS} {V:List Int} {k:Nat} {gs:Nat→Nat} {xs:Nat→GtP} {fs:Nat→List Nat} (h:GmW W2 L0 si m MB M0 V k gs W xs fs M) {ks:List Nat} (ho:Only ks W W') (hk: ∀y∈ks,W2.heap.size≤y∧y<L0):GmW W2 L0 si m MB M0 V k gs W' xs fs M:=by
 have h1:si∉ks:=fun hm=>by have:=(hk _ hm).1;have:=h.sl;omega
 have h2: ∀y∈footM m MB M,y∉ks:=fun y hy hm=>by
  have h3:=hk _ hm
  rcases h.foot y hy with h4 | h4
  ·have:=h.fl y h4;omega
  ·omega
 have h5: ∀c,c<k→ ∀z∈gs c::fs c,z∉ks:=fun c hc z hz hm=>by have:=h.lo c hc z hz;have:=(hk _ hm).2;omega
 refine⟨fun c hc=> ?_,fun c hc=>(h.is c hc).only ho (h5 c hc _ (List.mem_cons_self ..)) (fun z hz=>h5 c hc z (List.mem_cons_of_mem _ hz)),h.ap,h.lo,h.quiet,h.foot,h.sl,h.fl,h.hL,?_⟩
 ·have hi:=h.inn c hc
  exact⟨hi.mem.only ho h2,hi.st,hi.few,(ho.cell (p:=⟨si,0,none⟩) hi.sil h1).trans hi.sc,Nat.lt_of_lt_of_le hi.sil ho.size,hi.sig,hi.sif,hi.sim,hi.gm,hi.fm⟩
 ·obtain⟨js,g1,g2⟩:=h.since
  exact⟨js++ks,fun y hy=>(List.mem_append.1 hy).elim (g1 y) (fun hy=>Or.inl (hk y hy).1),(g2.mono (fun y hy=>List.mem_append_left _ hy)).trans ho (fun y hy=>Or.inl (List.mem_append_right _ hy))⟩
theorem GmW.bel {W2 W W':World} {L0 si m:Nat} {MB:MB} {M0 M:MemS} {V:List Int} {k:Nat} {gs:Nat→Nat} {xs:Nat→GtP} {fs:Nat→List Nat} (h:GmW W2 L0 si m MB M0 V k gs W xs fs M) (hb:Below W.heap.size W W'):GmW W2 L0 si m MB M0 V k gs W' xs fs M:=h.only (Only.of_below hb []) (by simp)
theorem GmW.make {W2 W W':World} {L0 si m:Nat} {MB:MB} {M0 M:MemS} {V:List Int} {k:Nat} {gs:Nat→Nat} {xs:Nat→GtP} {fs:Nat→List Nat} (h:GmW W2 L0 si m MB M0 V k gs W xs fs M) {X:World} (hX:Below W.heap.size W X) (hin: ∀Y g f,Below W.heap.size W Y→W.heap.size≤g→(∀z∈f,W.heap.size≤z)→WkIn Y si m g MB M 0 f) {g:Nat} {f:List Nat} {x:GtP} (hg:X.heap.size≤g) (hi:GtIs W' si m g x f) (hf: ∀z∈f,X.heap.size≤z) (hb:Below X.heap.size X W') (hW:L0≤W.heap.size):GmW W2 L0 si m MB M0 V (k+1) (updF gs k g) W' (updF xs k x) (updF fs k f) M:=by
 have hs:=hX.size
 have hbb:=bx hX hb
 have h':=h.bel hbb
 have new: ∀z∈g::f,W.heap.size≤z:=fun z hz=>by
  rcases List.mem_cons.1 hz with rfl | hz
  ·omega
  ·have:=hf z hz;omega
 refine⟨fun c hc=> ?_,fun c hc=> ?_,fun c d hc hd hcd z hz hm=> ?_,fun c hc z hz=> ?_,h.quiet,h.foot,h.sl,h.fl,h.hL,h'.since⟩
 ·by_cases e:c=k
  ·subst e;rw[updF_at,updF_at];exact hin W' g f hbb (by omega) (fun z hz=>by have:=hf z hz;omega)
  ·rw[updF_ne _ _ e,updF_ne _ _ e];exact h'.inn c (by omega)
 ·by_cases e:c=k
  ·subst e;rw[updF_at,updF_at,updF_at];exact hi
  ·rw[updF_ne _ _ e,updF_ne _ _ e,updF_ne _ _ e];exact h'.is c (by omega)
 ·by_cases e:c=k
  ·subst e
   rw[updF_at,updF_at] at hz
   rw[updF_ne _ _ (Ne.symm hcd),updF_ne _ _ (Ne.symm hcd)] at hm
   have h1:=h.lt (show d<c by omega) z hm
   have h2:=new z hz
   omega
  ·rw[updF_ne _ _ e,updF_ne _ _ e] at hz
   by_cases e2:d=k
   ·subst e2
    rw[updF_at,updF_at] at hm
    have h1:=h.lt (show c<d by omega) z hz
    have h2:=new z hm
    omega
   ·rw[updF_ne _ _ e2,updF_ne _ _ e2] at hm
    exact h.ap c d (by omega) (by omega) hcd z hz hm
 ·by_cases e:c=k
  ·subst e
   rw[updF_at,updF_at] at hz
   have:=new z hz
   omega
  ·rw[updF_ne _ _ e,updF_ne _ _ e] at hz
   exact h.lo c (by omega) z hz
theorem GmW.step {W2 W W':World} {L0 si m:Nat} {MB:MB} {M0 M M':MemS} {V:List Int} {k:Nat} {gs:Nat→Nat} {xs:Nat→GtP} {fs:Nat→List Nat} (h:GmW W2 L0 si m MB M0 V k gs W xs fs M) {c:Nat} (hc:c<k) {x':GtP} {f':List Nat} (hM:MSt m MB 0 W M W' M' ((xs c).eff (absM M)) (gs c::fs c)) (hI:GtIs W' si m (gs c) x' f') (hf: ∀y∈f',y∈fs c∨(W.heap.size≤y∧y∉footM m MB M')) (hW:L0≤W.heap.size):GmW W2 L0 si m MB M0 V k gs W' (updF xs c x') (updF fs c f') M'∧(∀y,y<W.heap.size→y∉gs c::fs c++footM m MB M→y∉footM m MB M'∧ ∀d,d<k→(y∉gs d::fs d)→y∉gs d::updF fs c f' d):=by
 have hlt:=(h.is c hc).lt
 have hic:=(h.inn c hc).next hlt.1 hlt.2 hM hf
 have no: ∀d,d<k→d≠c→ ∀z∈gs d::fs d,z∉gs c::fs c++footM m MB M:=fun d hd e z hz hm=>by
  rcases List.mem_append.1 hm with h1 | h1
  ·exact h.ap d c hd hc e z hz h1
  ·exact h.far hd z hz h1
 have far2: ∀{y:Nat},y<W.heap.size→y∉footM m MB M→y∉footM m MB M':=fun hy hn hm=>by
  rcases hM.foot _ hm with h1 | h1
  ·exact hn h1
  ·omega
 refine⟨⟨fun d hd=> ?_,fun d hd=> ?_,fun d e hd he hde z hz hm=> ?_,fun d hd z hz=> ?_,h.quiet.next _ hM.abs,fun y hy=> ?_,h.sl,h.fl,h.hL,?_⟩,fun y hy hn=>⟨far2 hy (fun hm=>hn (List.mem_append_right _ hm)),fun d hd hd2 hm=> ?_⟩⟩
 ·by_cases e:d=c
  ·subst e;rw[updF_at];exact hic
  ·rw[updF_ne _ _ e]
   have hi:=h.inn d hd
   have hl:=(h.is d hd).lt
   exact⟨hic.mem,hic.st,hic.few,hic.sc,hic.sil,hi.sig,hi.sif,hic.sim,far2 hl.1 hi.gm,fun y hy=>far2 (hl.2 y hy) (hi.fm y hy)⟩
 ·by_cases e:d=c
  ·subst e;rw[updF_at,updF_at];exact hI
  ·rw[updF_ne _ _ e,updF_ne _ _ e]
   exact(h.is d hd).only hM.only (no d hd e _ (List.mem_cons_self ..)) (fun z hz=>no d hd e z (List.mem_cons_of_mem _ hz))
 ·have old: ∀{a:Nat},a<k→ ∀{y:Nat},y∈gs a::updF fs c f' a→y∈gs a::fs a∨(a=c∧W.heap.size≤y):=fun{a} ha {y} hy=>by
   by_cases ea:a=c
   ·subst ea
    rw[updF_at] at hy
    rcases List.mem_cons.1 hy with rfl | hy
    ·exact Or.inl (List.mem_cons_self ..)
    ·rcases hf y hy with h1 | h1
     ·exact Or.inl (List.mem_cons_of_mem _ h1)
     ·exact Or.inr ⟨rfl,h1.1⟩
   ·rw[updF_ne _ _ ea] at hy;exact Or.inl hy
  rcases old hd hz with h1 | ⟨rfl,h1⟩
  ·rcases old he hm with h2 | ⟨rfl,h2⟩
   ·exact h.ap d e hd he hde z h1 h2
   ·have:=h.lt hd z h1;omega
  ·rcases old he hm with h2 | ⟨rfl,h2⟩
   ·have:=h.lt he z h2;omega
   ·exact hde rfl
 ·by_cases e:d=c
  ·subst e
   rw[updF_at] at hz
   rcases List.mem_cons.1 hz with rfl | hz
   ·exact h.lo d hd _ (List.mem_cons_self ..)
   ·rcases hf z hz with h1 | h1
    ·exact h.lo d hd _ (List.mem_cons_of_mem _ h1)
    ·omega
  ·rw[updF_ne _ _ e] at hz;exact h.lo d hd z hz
 ·rcases hM.foot y hy with h1 | h1
  ·exact h.foot y h1
  ·exact Or.inr (by omega)
 ·obtain⟨js,h1,h2⟩:=h.since
  refine⟨js++(gs c::fs c++footM m MB M),fun y hy=> ?_,(h2.mono (fun y hy=>List.mem_append_left _ hy)).trans hM.only (fun y hy=>Or.inl (List.mem_append_right _ hy))⟩
  rcases List.mem_append.1 hy with hy | hy
  ·exact h1 y hy
  ·rcases List.mem_append.1 hy with hy | hy
   ·exact Or.inl (Nat.le_trans h.hL (h.lo c hc y hy))
   ·exact(h.foot y hy).symm.imp (fun q=>Nat.le_trans h.hL q) id
 ·by_cases e:d=c
  ·subst e
   rw[updF_at] at hm
   rcases List.mem_cons.1 hm with rfl | hm
   ·exact hd2 (List.mem_cons_self ..)
   ·rcases hf y hm with h1 | h1
    ·exact hd2 (List.mem_cons_of_mem _ h1)
    ·omega
  ·rw[updF_ne _ _ e] at hm;exact hd2 hm
theorem GmC.step {slabs per lag K:Nat} {keys:List Nat} {bs:List Int} (hB:Built slabs keys per lag K bs) {S0 c:Nat} {q:Int} {x:GtP} {n:Nat} (hq:U64 q) (hc:c≤64) (h:GmC keys per lag K bs S0 c q x false n):GtOK (wordsOf bs) x∧GmC keys per lag K bs S0 c q (x.next (wordsOf bs)) (x.next (wordsOf bs)).done (n+1)∧n+1≤S0∧((x.next (wordsOf bs)).done=true→(x.next (wordsOf bs)).rc=0∨(x.next (wordsOf bs)).rc=5):=by
 rcases h with⟨_,l,hs,hl⟩ | ⟨h,_⟩
 ·obtain⟨h1,h2⟩:=hs.ok hB ⟨by omega,by omega⟩ hq
  rcases hs.step hB hq.1 with⟨l',a,b,d⟩ | hE
  ·exact⟨h2,Or.inl ⟨b,l',d,by omega⟩,by omega,fun h=>by rw[b] at h;cases h⟩
  ·refine⟨h2,Or.inr ⟨hE.done,hE,by omega⟩,by omega,fun _=> ?_⟩
   have hr:=hE.res
   unfold ResK at hr
   rcases hr with⟨j,_,_,h3,_⟩ | ⟨_,h3,_⟩
   ·exact Or.inl h3
   ·exact Or.inr h3
 ·cases h
def turnsN (c i:Nat):Nat:=(i+2-c)/3
theorem turnsN_succ {c i:Nat} (hc:c<3):turnsN c (i+1)=turnsN c i+(if i % 3=c then 1 else 0):=by
 unfold turnsN
 split<;>omega
theorem GmW.off {W2 W:World} {L0 si m:Nat} {MB:MB} {M0 M:MemS} {V:List Int} {k:Nat} {gs:Nat→Nat} {xs:Nat→GtP} {fs:Nat→List Nat} (h:GmW W2 L0 si m MB M0 V k gs W xs fs M) {y:Nat} (h1:W2.heap.size≤y) (h2:y<L0) {c:Nat} (hc:c<k):y∉gs c::fs c++footM m MB M:=fun hm=>by
 rcases List.mem_append.1 hm with hm | hm
 ·have:=h.lo c hc y hm;omega
 ·rcases h.foot y hm with h3 | h3
  ·have:=h.fl y h3;omega
  ·omega
def Cells3 (W:World) (A:Nat) (t:TypeId) (k:Nat) (v:Nat→Value):Prop:= ∃cs,Blk W A t cs∧cs.size=3∧ ∀c,c<k→cs[c]?=some (v c)
theorem Cells3.cell {W:World} {A:Nat} {t:TypeId} {k:Nat} {v:Nat→Value} (h:Cells3 W A t k v) {c:Nat} (hc:c<k):W.cell? ⟨A,c,none⟩=some (v c):=by
 obtain⟨cs,h1,_,h3⟩:=h
 rw[h1.cell,h3 c hc]
theorem Cells3.any {W:World} {A:Nat} {t:TypeId} {k:Nat} {v:Nat→Value} (h:Cells3 W A t k v) {c:Nat} (hc:c<3): ∃u,W.cell? ⟨A,c,none⟩=some u:=by
 obtain⟨cs,h1,h2,_⟩:=h
 exact⟨_,by rw[h1.cell,Array.getElem?_eq_getElem (by omega)]⟩
theorem Cells3.frozen {W:World} {A:Nat} {t:TypeId} {k:Nat} {v:Nat→Value} (h:Cells3 W A t k v) (c:Nat):W.frozen? ⟨A,c,none⟩=false:=by
 obtain⟨cs,h1,_⟩:=h
 exact h1.frozen c
theorem Cells3.only {W W':World} {A:Nat} {t:TypeId} {k:Nat} {v:Nat→Value} (h:Cells3 W A t k v) {ks:List Nat} (ho:Only ks W W') (hn:A∉ks):Cells3 W' A t k v:=by
 obtain⟨cs,h1,h2,h3⟩:=h
 exact⟨cs,ho.blk h1 hn,h2,h3⟩
theorem Cells3.set_ {W:World} {A:Nat} {t:TypeId} {k k':Nat} {v v':Nat→Value} (h:Cells3 W A t k v) {c:Nat} (hc:c<3) {u:Value} (hk: ∀d,d<k'→(d=c∧v' d=u)∨(d≠c∧d<k∧v' d=v d)):Cells3 (W.setCell ⟨A,c,none⟩ u) A t k' v':=by
 obtain⟨cs,h1,h2,h3⟩:=h
 refine⟨_,h1.set_ c u,by simpa using h2,fun d hd=> ?_⟩
 rcases hk d hd with⟨rfl,e⟩ | ⟨e1,e2,e3⟩
 ·rw[Array.getElem?_setIfInBounds,if_pos rfl,if_pos (by omega),e]
 ·rw[Array.getElem?_setIfInBounds,if_neg (Ne.symm e1),h3 d e2,e3]
structure GmX (W2:World) (si m:Nat) (MB:MB) (V:List Int) (k:Nat) (gs:Nat→Nat) (W:World) (xs:Nat→GtP) (fs:Nat→List Nat) (M:MemS) (dn:Nat→Bool) (n:Nat→Nat):Prop where
 w:GmW W2 (W2.heap.size+3) si m MB (freshM V) V k gs W xs fs M
 a8:Cells3 W W2.heap.size 55 k (fun c=>ptrV (gs c))
 a9:Cells3 W (W2.heap.size+1) 56 3 (fun c=> .int .i64 (n c:Int))
 a10:Cells3 W (W2.heap.size+2) 57 3 (fun c=> .bool (dn c))
theorem GmX.size {W2 W:World} {si m:Nat} {MB:MB} {V:List Int} {k:Nat} {gs:Nat→Nat} {xs:Nat→GtP} {fs:Nat→List Nat} {M:MemS} {dn:Nat→Bool} {n:Nat→Nat} (h:GmX W2 si m MB V k gs W xs fs M dn n):W2.heap.size+3≤W.heap.size:=by
 obtain⟨cs,h1,_⟩:=h.a10
 have:=h1.lt
 omega
theorem GmX.make {W2 W W' X:World} {si m:Nat} {MB:MB} {V:List Int} {k:Nat} {gs:Nat→Nat} {xs:Nat→GtP} {fs:Nat→List Nat} {M:MemS} {dn:Nat→Bool} {n:Nat→Nat} (h:GmX W2 si m MB V k gs W xs fs M dn n) (hk:k<3) (hX:Below W.heap.size W X) (hin: ∀Y g f,Below W.heap.size W Y→W.heap.size≤g→(∀z∈f,W.heap.size≤z)→WkIn Y si m g MB M 0 f) {g:Nat} {f:List Nat} {x:GtP} (hg:X.heap.size≤g) (hi:GtIs W' si m g x f) (hf: ∀z∈f,X.heap.size≤z) (hb:Below X.heap.size X W') {Y:World} (hY:Below W'.heap.size W' Y):GmX W2 si m MB V (k+1) (updF gs k g) (Y.setCell ⟨W2.heap.size,k,none⟩ (ptrV g)) (updF xs k x) (updF fs k f) M dn n:=by
 have h1:=(h.w.make hX hin hg hi hf hb h.size).bel hY
 have hs:=h.size
 have hall:=bx (bx hX hb) hY
 have ho:Only [W2.heap.size] Y (Y.setCell ⟨W2.heap.size,k,none⟩ (ptrV g)):=(Only.refl _ _).setCell (Or.inl (by simp)) _
 have hbo:Only [] W Y:=Only.of_below hall []
 refine⟨h1.only ho (fun y hy=>by simp at hy;omega),?_,(h.a9.only hbo (by simp)).only ho (by simp),(h.a10.only hbo (by simp)).only ho (by simp)⟩
 refine(h.a8.only hbo (by simp)).set_ hk (fun d hd=> ?_)
 by_cases e:d=k
 ·subst e;exact Or.inl ⟨rfl,by rw[updF_at]⟩
 ·exact Or.inr ⟨e,by omega,by rw[updF_ne _ _ e]⟩
theorem GmX.step {W2 W W':World} {si m:Nat} {MB:MB} {V:List Int} {gs:Nat→Nat} {xs:Nat→GtP} {fs:Nat→List Nat} {M M':MemS} {dn:Nat→Bool} {n:Nat→Nat} (h:GmX W2 si m MB V 3 gs W xs fs M dn n) {c:Nat} (hc:c<3) {x':GtP} {f':List Nat} (hM:MSt m MB 0 W M W' M' ((xs c).eff (absM M)) (gs c::fs c)) (hI:GtIs W' si m (gs c) x' f') (hf: ∀y∈f',y∈fs c∨(W.heap.size≤y∧y∉footM m MB M')):GmX W2 si m MB V 3 gs W' (updF xs c x') (updF fs c f') M' dn n:=by
 have h1:=(h.w.step hc hM hI hf h.size).1
 exact⟨h1,h.a8.only hM.only (h.w.off (Nat.le_refl _) (by omega) hc),h.a9.only hM.only (h.w.off (by omega) (by omega) hc),h.a10.only hM.only (h.w.off (by omega) (by omega) hc)⟩
theorem GmX.setn {W2 W:World} {si m:Nat} {MB:MB} {V:List Int} {k:Nat} {gs:Nat→Nat} {xs:Nat→GtP} {fs:Nat→List Nat} {M:MemS} {dn:Nat→Bool} {n:Nat→Nat} (h:GmX W2 si m MB V k gs W xs fs M dn n) {c:Nat} (hc:c<3) (a:Nat):GmX W2 si m MB V k gs (W.setCell ⟨W2.heap.size+1,c,none⟩ (.int .i64 (a:Int))) xs fs M dn (updF n c a):=by
 have ho:Only [W2.heap.size+1] W (W.setCell ⟨W2.heap.size+1,c,none⟩ (.int .i64 (a:Int))):=(Only.refl _ _).setCell (Or.inl (by simp)) _
 refine⟨h.w.only ho (fun y hy=>by simp at hy;omega),h.a8.only ho (by simp),?_,h.a10.only ho (by simp)⟩
 refine h.a9.set_ hc (fun d hd=> ?_)
 by_cases e:d=c
 ·subst e;exact Or.inl ⟨rfl,by rw[updF_at]⟩
 ·exact Or.inr ⟨e,by omega,by rw[updF_ne _ _ e]⟩
theorem GmX.setd {W2 W:World} {si m:Nat} {MB:MB} {V:List Int} {k:Nat} {gs:Nat→Nat} {xs:Nat→GtP} {fs:Nat→List Nat} {M:MemS} {dn:Nat→Bool} {n:Nat→Nat} (h:GmX W2 si m MB V k gs W xs fs M dn n) {c:Nat} (hc:c<3) (a:Bool):GmX W2 si m MB V k gs (W.setCell ⟨W2.heap.size+2,c,none⟩ (.bool a)) xs fs M (updF dn c a) n:=by
 have ho:Only [W2.heap.size+2] W (W.setCell ⟨W2.heap.size+2,c,none⟩ (.bool a)):=(Only.refl _ _).setCell (Or.inl (by simp)) _
 refine⟨h.w.only ho (fun y hy=>by simp at hy;omega),h.a8.only ho (by simp),h.a9.only ho (by simp),?_⟩
 refine h.a10.set_ hc (fun d hd=> ?_)
 by_cases e:d=c
 ·subst e;exact Or.inl ⟨rfl,by rw[updF_at]⟩
 ·exact Or.inr ⟨e,by omega,by rw[updF_ne _ _ e]⟩
def GmS (keys:List Nat) (per lag K:Nat) (bs:List Int) (S0 o:Nat) (q:Nat→Int) (xs:Nat→GtP) (dn:Nat→Bool) (n:Nat→Nat) (i:Nat):Prop:=
 ∀c,c<3→GmC keys per lag K bs S0 c (q c) (xs c) (dn c) (n c)∧(dn c=false→turnsN c i≤n c+turnsN c o)
theorem GmS.skip {keys:List Nat} {per lag K:Nat} {bs:List Int} {S0 o:Nat} {q:Nat→Int} {xs:Nat→GtP} {dn:Nat→Bool} {n:Nat→Nat} {i c:Nat} (h:GmS keys per lag K bs S0 o q xs dn n i) (hc:c<3) (hd:dn c=true) (ho:o≤i→c=i % 3):GmS keys per lag K bs S0 o q xs dn n (i+1):=by
 intro d hd3
 obtain⟨h1,h2⟩:=h d hd3
 refine⟨h1,fun hf=> ?_⟩
 have h3:=h2 hf
 by_cases hi:o≤i
 ·have e:=ho hi
  rw[turnsN_succ hd3,if_neg (fun e2=>by rw[←e2,←e,hd] at hf;cases hf)]
  exact h3
 ·have:turnsN d (i+1)≤turnsN d o:=by unfold turnsN;omega
  omega
theorem GmS.turn {slabs:Nat} {keys:List Nat} {per lag K:Nat} {bs:List Int} {S0 o:Nat} {q:Nat→Int} {xs:Nat→GtP} {dn:Nat→Bool} {n:Nat→Nat} {i c:Nat} (h:GmS keys per lag K bs S0 o q xs dn n i) (hB:Built slabs keys per lag K bs) (hc:c<3) (hq:U64 (q c)) (hd:dn c=false) (ho:o≤i→c=i % 3):GmS keys per lag K bs S0 o q (updF xs c ((xs c).next (wordsOf bs))) (updF dn c ((xs c).next (wordsOf bs)).done) (updF n c (n c+1)) (i+1):=by
 intro d hd3
 obtain⟨h1,h2⟩:=h d hd3
 by_cases e:d=c
 ·subst e
  rw[updF_at,updF_at,updF_at]
  rw[hd] at h1
  refine⟨(h1.step hB hq (by omega)).2.1,fun hf=> ?_⟩
  have h3:=h2 hd
  by_cases hi:o≤i
  ·rw[turnsN_succ hd3,if_pos (ho hi).symm];omega
  ·have:turnsN d (i+1)≤turnsN d o:=by unfold turnsN;omega
   omega
 ·rw[updF_ne _ _ e,updF_ne _ _ e,updF_ne _ _ e]
  refine⟨h1,fun hf=> ?_⟩
  have h3:=h2 hf
  by_cases hi:o≤i
  ·rw[turnsN_succ hd3,if_neg (fun e2=>e (e2.symm.trans (ho hi).symm))];exact h3
  ·have:turnsN d (i+1)≤turnsN d o:=by unfold turnsN;omega
   omega
theorem GmS.all {slabs:Nat} {keys:List Nat} {per lag K:Nat} {bs:List Int} {S0 o L:Nat} {q:Nat→Int} {xs:Nat→GtP} {dn:Nat→Bool} {n:Nat→Nat} {i:Nat} (h:GmS keys per lag K bs S0 o q xs dn n i) (hB:Built slabs keys per lag K bs) (hq: ∀c,U64 (q c)) (hi:3*L+300≤i) (ho:o≤300) (hS:S0≤L) {c:Nat} (hc:c<3):dn c=true∧GtEnd keys (q c) (xs c):=by
 obtain⟨h1,h2⟩:=h c hc
 rcases h1 with⟨hd,l,hs,hl⟩ | ⟨hd,hE,_⟩
 ·have h3:=h2 hd
  have h4:=(hs.ok hB ⟨by omega,by omega⟩ (hq c)).1
  unfold turnsN at h3
  omega
 ·exact⟨hd,hE⟩
end Go.Proofs.YtjmaicckkkdjpaaGreat
