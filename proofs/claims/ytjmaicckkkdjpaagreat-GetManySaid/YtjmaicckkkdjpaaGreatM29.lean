import Derived.Test.YtjmaicckkkdjpaaGreatM28
import Derived.Test.YtjmaicckkkdjpaaGreatM15
import Derived.Test.YtjmaicckkkdjpaaGreatM05
set_option maxRecDepth 100000
set_option maxHeartbeats 4000000
set_option linter.unusedVariables false
set_option linter.unusedSimpArgs false
/- The law steps a get till it is done. -/
namespace Go.Proofs.YtjmaicckkkdjpaaGreat
open Go.RowKit
theorem GtU.at.lt {w:World} {si m g:Nat} {n:NodeA} {u:GtU} {uv fv:Value} {us bs:List Nat} (h:u.at w si m g n uv fv us bs): ∀z∈us++bs,z<w.heap.size:=by
 have hc: ∀{b:Nat} {v:Value},w.cell? ⟨b,0,none⟩=some v→b<w.heap.size:=fun h2=>World.block_lt_of_cell? _ _ h2
 cases u with
 | walk y=>
  obtain⟨wg,f0,bg,bw,rfl,rfl,h1,h2,h3,rfl,rfl⟩:=h
  intro z hz
  simp at hz
  rcases hz with rfl | hz | rfl | rfl
  ·exact h1.lt.1
  ·exact h1.lt.2 z hz
  ·exact hc h2
  ·exact hc h3
 | read y=>
  obtain⟨rg,lv,br,bg,N,rfl,rfl,h1,h4,h2,h3,rfl,rfl⟩:=h
  intro z hz
  simp at hz
  rcases hz with rfl | hz | rfl | rfl
  ·exact h1.blk.lt
  ·rcases h1.own.2 with h5 | ⟨g5,cap,cur,hv,hg5,hh,r⟩
   ·rw[h5.1] at hz;cases hz
   ·rw[hv] at hz
    have:g5=z:=by simpa[Value.ownBlock] using hz
    rw[←this]
    exact(Array.getElem?_eq_some_iff.1 hh).1
  ·exact hc h2
  ·exact hc h3
 | still y=>
  obtain⟨sg,bg,bs',rfl,rfl,h1,h2,h3,rfl,rfl⟩:=h
  intro z hz
  simp at hz
  rcases hz with rfl | rfl | rfl
  ·exact h1.blk.lt
  ·exact hc h2
  ·exact hc h3
 | last l rc rv=>
  obtain⟨lg,lr,br,bg,rfl,rfl,h1,h2,h3,rfl,rfl⟩:=h
  intro z hz
  simp at hz
  rcases hz with rfl | rfl | rfl | rfl
  ·obtain⟨p,c,h5,_⟩:=h1.blk;exact h5.lt
  ·exact h1.rlt
  ·exact h2.lt
  ·exact hc h3
theorem GtIs.lt {w:World} {si m g:Nat} {x:GtP} {f:List Nat} (h:GtIs w si m g x f):g<w.heap.size∧ ∀z∈f,z<w.heap.size:=by
 obtain⟨⟨uv,fv,us,bs,h1,h2,rfl,h4⟩,h5⟩:=h
 exact⟨h1.lt,h2.lt⟩
theorem WkIn.next {w w':World} {si m g:Nat} {B:MB} {M M':MemS} {K:Nat} {ta:MA} {f f':List Nat} (hin:WkIn w si m g B M K f) (hgl:g<w.heap.size) (hfl: ∀y∈f,y<w.heap.size) (hM:MSt m B K w M w' M' ta (g::f)) (hf: ∀y∈f',y∈f∨(w.heap.size≤y∧y∉footM m B M')):WkIn w' si m g B M' K f':=by
 refine⟨hM.mems,hM.st64 hin.st,hin.few,(hM.only.cell (p:=⟨si,0,none⟩) hin.sil ?_).trans hin.sc,Nat.lt_of_lt_of_le hin.sil hM.only.size,hin.sig,fun h=> ?_,hM.far hin.sil hin.sim,hM.far hgl hin.gm,fun y hy=> ?_⟩
 ·intro h
  rcases List.mem_append.1 h with h | h
  ·rcases List.mem_cons.1 h with h | h
   ·exact hin.sig h
   ·exact hin.sif h
  ·exact hin.sim h
 ·rcases hf si h with h1 | h1
  ·exact hin.sif h1
  ·have:=hin.sil;have:=h1.1;omega
 ·rcases hf y hy with h1 | h1
  ·exact hM.far (hfl y h1) (hin.fm y h1)
  ·exact h1.2
theorem eff_view (x:GtP) (A:MA):(x.eff A).view=A.view:=by
 have hl: ∀l:LtP,(l.eff A).view=A.view:=fun l=>by
  unfold LtP.eff
  split
  ·rfl
  ·split<;>rfl
 unfold GtP.eff
 split
 ·rename_i y _
  unfold WkP.eff
  split
  ·rfl
  ·split
   ·exact hl _
   ·rfl
 ·exact hl _
 ·rfl
structure GtWh (P:Nat→GtP→Prop) (V:List Int) (si m g:Nat) (B:MB) (K:Nat) (M0:MemS) (f0:List Nat) (w:World) (n:Nat) (x:GtP) (M:MemS) (f:List Nat) (wr:World):Prop where
 st:P n x
 inn:WkIn wr si m g B M K f
 is:GtIs wr si m g x f
 view:M.view=V
 only:Only (g::f0++footM m B M0) w wr
 fresh: ∀y∈f,y∈f0∨w.heap.size≤y
 foot: ∀k∈footM m B M,k∈footM m B M0∨w.heap.size≤k
structure GtAll (Fin:GtP→Prop) (V:List Int) (si m g:Nat) (B:MB) (K:Nat) (M0:MemS) (f0:List Nat) (w:World) (x:GtP) (M:MemS) (f:List Nat) (wr:World):Prop where
 fin:Fin x
 inn:WkIn wr si m g B M K f
 is:GtIs wr si m g x f
 view:M.view=V
 only:Only (g::f0++footM m B M0) w wr
 fresh: ∀y∈f,y∈f0∨w.heap.size≤y
 foot: ∀k∈footM m B M,k∈footM m B M0∨w.heap.size≤k
theorem GtWh.step {P:Nat→GtP→Prop} {V:List Int} {si m g:Nat} {B:MB} {K:Nat} {M0 M M':MemS} {f0 f f':List Nat} {w wr w':World} {n:Nat} {x:GtP} (h:GtWh P V si m g B K M0 f0 w n x M f wr)
  (hM:MSt m B K wr M w' M' (x.eff (absM M)) (g::f)) (hI:GtIs w' si m g (x.next V) f') (hf: ∀y∈f',y∈f∨(wr.heap.size≤y∧y∉footM m B M')):
  WkIn w' si m g B M' K f'∧M'.view=V∧Only (g::f0++footM m B M0) w w'∧(∀y∈f',y∈f0∨w.heap.size≤y)∧ ∀k∈footM m B M',k∈footM m B M0∨w.heap.size≤k:=by
 obtain⟨hgl,hfl⟩:=h.is.lt
 refine⟨h.inn.next hgl hfl hM hf,?_,h.only.trans hM.only ?_,?_,?_⟩
 ·have:=congrArg MA.view hM.abs
  rw[eff_view] at this
  rw[←h.view];exact this
 ·intro y hy
  rcases List.mem_append.1 hy with h1 | h1
  ·rcases List.mem_cons.1 h1 with rfl | h1
   ·exact Or.inl (by simp)
   ·exact(h.fresh y h1).imp (fun h=>by simp[h]) id
  ·exact(h.foot y h1).imp (fun h=>by simp[h]) id
 ·intro y hy
  rcases hf y hy with h1 | h1
  ·exact h.fresh y h1
  ·exact Or.inr (Nat.le_trans h.only.size h1.1)
 ·intro k hk
  rcases hM.foot k hk with h1 | h1
  ·exact h.foot k h1
  ·exact Or.inr (Nat.le_trans h.only.size h1)
end Go.Proofs.YtjmaicckkkdjpaaGreat
/- The law steps a get till it is done: the loop. -/
namespace Go.Proofs.YtjmaicckkkdjpaaGreat
open Go.RowKit
theorem LWhole_z (P:Nat→GtP→Prop) (Fin:GtP→Prop) (V:List Int)
  (hP: ∀n x,P n x→0<n∧GtOK V x∧((∃n',n'<n∧(x.next V).done=false∧P n' (x.next V))∨(Fin (x.next V)∧(x.next V).done=true∧((x.next V).rc=0∨(x.next V).rc=5))))
  (L n:Nat) (hn:n≤L) (hL:L<4611686018427387904) (si m g:Nat) (B:MB) (M:MemS) (K:Nat) (x:GtP) (f:List Nat) (hV:M.view=V) (hx:P n x) (w:World) (hin:WkIn w si m g B M K f) (hs:GtIs w si m g x f):
  Calls Tryz.prog 14 #[ptrV m,ptrV g,.int .i64 (L:Int)] w fun e w'=> ∃r x' M' f',e= .returned (.int .i64 r)∧1≤r∧r≤(n:Int)∧GtAll Fin V si m g B K M f w x' M' f' w':=by
 have H0:Hid (GtWh P V si m g B K M f w n x M f w):=hid ⟨hx,hin,hs,hV,Only.refl _ _,fun y hy=>Or.inl hy,fun k hk=>Or.inl hk⟩
 have HP:=hid hP
 have HL:=hid hL
 have HN:=hid hn
 clear hP hn hV hx hin hs hL
 go_enter Tryz.func14,Tryz.ntmps14
 go_wp2
 go_loopw [7] (fun i wr=> ∃(k n':Nat) (x':GtP) (M':MemS) (f':List Nat),i= .int .i64 ((k:Int)+1)∧k+n'≤n∧Hid (GtWh P V si m g B K M f w n' x' M' f' wr)) (fun i _=>L+1- (intOf i).toNat)
 case atStart=>exact⟨0,n,x,M,f,rfl,by omega,H0⟩
 case round=>
  obtain⟨k,n',x',M',f',rfl,hk,hI⟩:=hrel
  obtain⟨h0,hok,hst⟩:=HP.out n' x' hI.out.st
  have hrc:(x'.next M'.view).done=true→(x'.next M'.view).rc=0∨(x'.next M'.view).rc=5:=fun hd=>by
   rw[hI.out.view] at hd ⊢
   rcases hst with⟨_,_,h1,_⟩ | ⟨_,_,h1⟩
   ·rw[h1] at hd;cases hd
   ·exact h1
  have SZ:=hid (LStep_z si m g B M' K x' f' (by rw[hI.out.view];exact hok) hrc wr hI.out.inn hI.out.is)
  have i1:decide ((k:Int)+1≤(L:Int))=true:=decide_eq_true (by have:=HN.out;omega)
  have i2:IntKind.i64.wrap ((k:Int)+1+1)=(k:Int)+1+1:=by rw[IntKind.wrap_i64];have:=HN.out;have:=HL.out;omega
  obtain⟨X,hX⟩: ∃X,X=x'.next M'.view:=⟨_,rfl⟩
  unfold GtDid at SZ
  rw[←hX] at SZ
  rw[←hI.out.view,←hX] at hst
  have HS:=hid (⟨hst,hX,h0,hk⟩:_∧_∧_∧_)
  clear hst hrc hok hk h0
  cases hd:X.done with
  | false=>
   rw[hd] at SZ
   have HD:=hid hd
   clear hd hX
   go_wp2_with fail
   refine SZ.out.mono ?_
   rintro e w2 ⟨rfl,M2,f2,hM,hI2,hf⟩
   have H2:=hid (⟨hM,hI2,hf⟩:_∧_∧_)
   clear hM hI2 hf SZ
   go_wp2_with fail
   go_roundw
   case rel=>
    obtain⟨hM,hI2,hf⟩:=H2.out
    obtain⟨hst,hX,h0,hk⟩:=HS.out
    rcases hst with⟨n2,hn2,_,hp2⟩ | ⟨_,h1,_⟩
    ·rw[hX,hI.out.view] at hI2 hp2
     obtain⟨a1,a2,a3,a4,a5⟩:=hI.out.step hM hI2 hf
     exact⟨k+1,n2,_,M2,f2,by push_cast;rfl,by omega,hid ⟨hp2,a1,hI2,a2,a3,a4,a5⟩⟩
    ·rw[HD.out] at h1;cases h1
   case measure=>simp[intOf];have:=HS.out.2.2.2;have:=HS.out.2.2.1;have:=HN.out;omega
  | true=>
   rw[hd] at SZ
   have HD:=hid hd
   clear hd hX
   go_wp2_with fail
   refine SZ.out.mono ?_
   rintro e w2 ⟨rfl,M2,f2,hM,hI2,hf⟩
   have H2:=hid (⟨hM,hI2,hf⟩:_∧_∧_)
   clear hM hI2 hf SZ
   go_wp2_with fail
   go_ret
   obtain⟨hM,hI2,hf⟩:=H2.out
   obtain⟨hst,hX,h0,hk⟩:=HS.out
   rcases hst with⟨n2,hn2,h1,hp2⟩ | ⟨hF,h1,_⟩
   ·rw[HD.out] at h1;cases h1
   ·rw[hX,hI.out.view] at hI2 hF
    obtain⟨a1,a2,a3,a4,a5⟩:=hI.out.step hM hI2 hf
    exact⟨_,_,M2,f2,rfl,by omega,by omega,hF,a1,hI2,a2,a3,a4,a5⟩
end Go.Proofs.YtjmaicckkkdjpaaGreat
/- The states of a get over a built image may be. -/
namespace Go.Proofs.YtjmaicckkkdjpaaGreat
open Go.RowKit
section
variable {slabs per lag K:Nat} {keys:List Nat} {bs:List Int}
theorem Built.ad (h:Built slabs keys per lag K bs) {k r:Nat} (hk:k<K+1) (hr:r<nK keys per lag k) (d:Nat) (hd:d % 8=0) (hd2:d≤184):inV (wordsOf bs) ((adN keys per lag k r:Nat)+(d:Int)):=by
 obtain⟨b1,b2,b3⟩:=h.adN_in hk hr
 have hm:adN keys per lag k r % 64=0:=nA_mod _ _
 rw[show((adN keys per lag k r:Nat):Int)+(d:Int)=((adN keys per lag k r+d:Nat):Int) by omega]
 exact inV_of (by omega) (by omega)
theorem WkSt.ok (h:Built slabs keys per lag K bs) {c q:Int} (hc:0≤c∧c≤64) (hq:U64 q) {n:Nat} {x:WkP} (hx:WkSt keys per lag K (wordsOf bs) c q n x):WkOK (wordsOf bs) x∧0<n:=by
 have hl:=h.len
 cases hx with
 | root=>exact⟨⟨rfl,rfl,rfl,hc,hq,fun _=>by have:=inV_of (bs:=bs) (a:=16) (by omega) (by omega);exact this,(fun s hs=>by cases hs),(fun l hs=>by cases hs)⟩,by omega⟩
 | snap k r n s lo t hk hr hlow hs=>
  have hW:=h.wat hk hr
  have hok:=hs.ok hW
  have hnx:s.next (wordsOf bs)=s.got (wdV (wordsOf bs) s.adr):=by unfold SnP.next;rw[if_neg (by rw[hok.1.live];simp)]
  refine⟨⟨rfl,rfl,rfl,hc,hq,(fun hu=>by cases hu),fun s' hs'=> ?_,(fun l hu=>by cases hu)⟩,by omega⟩
  injection hs' with hs'
  subst hs'
  refine⟨⟨hok.1,?_⟩,fun ho=> ?_⟩
  ·rw[←hnx]
   rcases hs.step hW with⟨n',_,h2⟩ | h2
   ·exact(h2.ok hW).1.e0
   ·rw[h2];rfl
  ·rcases hs.step hW with⟨n',_,h2⟩ | h2
   ·rw[(h2.ok hW).1.live] at ho;cases ho
   ·rw[h2]
    have h3:=(h.nodeS (k:=k) hr).lv
    show 0≤(ndF keys per lag k r).lv
    rw[h3];omega
 | hop k r n l lo t hk hr hlow hl2=>
  refine⟨⟨rfl,rfl,rfl,hc,hq,(fun hu=>by cases hu),(fun s hu=>by cases hu),fun l' hs'=> ?_⟩,by omega⟩
  injection hs' with hs'
  subst hs'
  refine⟨rfl,hc,fun a ha=> ?_⟩
  rcases hl2 with⟨rfl,_⟩ | ⟨rfl,_⟩
  ·have ha':a=((adN keys per lag k r:Nat):Int):=by simpa using ha
   rw[ha']
   have:=h.ad hk (by omega:r<nK keys per lag k) 0 (by omega) (by omega)
   simpa using this
  ·simp at ha
theorem GtSt.ok (h:Built slabs keys per lag K bs) {c q:Int} (hc:0≤c∧c≤64) (hq:U64 q) {n:Nat} {x:GtP} (hx:GtSt keys per lag K bs c q n x):0<n∧GtOK (wordsOf bs) x:=by
 cases hx with
 | walk n y hy=>
  refine⟨by omega,rfl,hc,by simp[gtNew],by simp[gtNew],fun y' hy'=> ?_,(fun _ hu=>by cases hu),(fun _ hu=>by cases hu),(fun _ _ _ hu=>by cases hu)⟩
  injection hy' with hy'
  subst hy'
  rcases WkSt.step h hq.1 hy with⟨n',_,h2⟩ | h2
  ·exact⟨(hy.ok h hc hq).1,(h2.ok h hc hq).1.e0,fun ho=>by rw[h2.live] at ho;cases ho⟩
  ·obtain⟨e1,e2,_,r,hr,e3,_⟩:=h2
   obtain⟨b1,b2,b3⟩:=h.adN_in (k:=0) (by omega) hr
   refine⟨(hy.ok h hc hq).1,e2,fun _=> ?_⟩
   rw[e3];omega
 | read r j n y hr hj hq2 hy=>
  obtain⟨b1,b2,b3⟩:=h.adN_in (k:=0) (by omega) hr
  refine⟨by omega,rfl,hc,by show 0≤((adN keys per lag 0 r:Nat):Int)∧((adN keys per lag 0 r:Nat):Int)≤_;omega,by simp[gtNew],(fun _ hu=>by cases hu),fun y' hy'=> ?_,(fun _ hu=>by cases hu),(fun _ _ _ hu=>by cases hu)⟩
  injection hy' with hy'
  subst hy'
  obtain⟨s1,s2,s3,_⟩:=hy.step h.toBase hj
  obtain⟨a1,a2,a3,a4,a5⟩:=h.toBase.vw hj
  obtain⟨i,hi,hn,rfl⟩:=hy
  have hin:=(a4 0 (by omega)).2
  unfold inV at hin
  have hl:=h.len
  have hs:=h.s64
  have hwl:(wordsOf bs).length=bs.length/8:=by unfold wordsOf;rw[List.length_map,List.length_range]
  refine⟨s2,rfl,s1,?_,by omega,fun hne=> ?_,h.vu,fun y hy=> ?_⟩
  ·show 0≤((vA j:Nat):Int)∧((vA j:Nat):Int)≤_
   omega
  ·show((vwX bs j).take i).length<wordsV (((vwX bs j).take i).headD 0)
   have hi0:i≠0:=fun e=>hne (by rw[e];rfl)
   have e:((vwX bs j).take i).headD 0=(vwX bs j).headD 0:=by
    cases hv:vwX bs j with
    | nil=>simp
    | cons a l=>obtain⟨k,rfl⟩: ∃k,i=k+1:=⟨i-1,by omega⟩;rfl
   rw[e,a2,List.length_take]
   omega
  ·obtain⟨k,hk⟩:=List.mem_iff_getElem?.1 (List.mem_of_mem_take hy)
   have hk8:k<8:=by rw[←a1];exact(List.getElem?_eq_some_iff.1 hk).1
   have h1:=(a4 k hk8).1
   have h2:(vwX bs j).getD k 0=y:=by rw[List.getD_eq_getElem?_getD,hk];rfl
   rw[h2] at h1
   have h3:=(a4 k hk8).2
   unfold inV at h3
   have h4:wdV (wordsOf bs) ((vA j:Nat)+8*(k:Int))∈wordsOf bs:=by
    unfold wdV
    rw[List.getD_eq_getElem?_getD,List.getElem?_eq_getElem (by omega)]
    exact List.getElem_mem _
   have h5:=h.vu _ h4
   unfold U64 at h5
   omega
 | still r j n k hr hj hq2 hk=>
  obtain⟨b1,b2,b3⟩:=h.adN_in (k:=0) (by omega) hr
  refine⟨by omega,rfl,hc,by show 0≤((adN keys per lag 0 r:Nat):Int)∧((adN keys per lag 0 r:Nat):Int)≤_;omega,by simp[gtNew],(fun _ hu=>by cases hu),(fun _ hu=>by cases hu),fun y' hy'=> ?_,(fun _ _ _ hu=>by cases hu)⟩
  injection hy' with hy'
  subst hy'
  refine⟨rfl,by rcases hk with⟨rfl,_⟩ | ⟨rfl,_⟩;exact Or.inl rfl;exact Or.inr rfl,?_,by show 0≤((adN keys per lag 0 r:Nat):Int)∧((adN keys per lag 0 r:Nat):Int)≤_;omega⟩
  show inV (wordsOf bs) ((adN keys per lag 0 r:Nat)+8*k)
  rcases hk with⟨rfl,_⟩ | ⟨rfl,_⟩
  ·exact h.ad (k:=0) (by omega) hr 16 (by omega) (by omega)
  ·exact h.ad (k:=0) (by omega) hr 24 (by omega) (by omega)
 | last r n l rc rv v hr hR hl=>
  obtain⟨b1,b2,b3⟩:=h.adN_in (k:=0) (by omega) hr
  obtain⟨i,hi,rfl,hn⟩:=hl
  refine⟨by omega,rfl,hc,by show 0≤((adN keys per lag 0 r:Nat):Int)∧((adN keys per lag 0 r:Nat):Int)≤_;omega,by simp[gtNew],(fun _ hu=>by cases hu),(fun _ hu=>by cases hu),(fun _ hu=>by cases hu),fun l' rc' rv' hy'=> ?_⟩
  injection hy' with h1 h2 h3
  subst h1
  refine⟨rfl,hc,fun a ha=> ?_⟩
  have ha2:a∈linesL (adN keys per lag 0 r:Nat):=List.mem_of_mem_drop ha
  unfold linesL at ha2
  simp at ha2
  rcases ha2 with rfl | rfl | rfl
  ·have:=h.ad (k:=0) (by omega) hr 0 (by omega) (by omega)
   simpa using this
  ·exact h.ad (k:=0) (by omega) hr 64 (by omega) (by omega)
  ·exact h.ad (k:=0) (by omega) hr 128 (by omega) (by omega)
end
end Go.Proofs.YtjmaicckkkdjpaaGreat
/- The keys laid rise; what is laid, loaded whole. -/
namespace Go.Proofs.YtjmaicckkkdjpaaGreat
open Go.RowKit
theorem insU_rise {out:List Int} {x:Int} (h:out.Pairwise (· < ·)):(insU out x).Pairwise (· < ·):=by
 unfold insU
 split
 ·exact h
 ·rename_i hne
  obtain⟨a,ha⟩: ∃a,a=atU out x:=⟨_,rfl⟩
  rw[←ha] at hne ⊢
  have hlt: ∀y∈out.take a,y<x:=fun y hy=>by
   rw[ha] at hy
   unfold atU at hy
   have e:out.take (out.takeWhile fun y=>decide (y<x)).length=out.takeWhile fun y=>decide (y<x):=(List.prefix_iff_eq_take.1 (List.takeWhile_prefix _)).symm
   rw[e] at hy
   have:=List.all_eq_true.1 (List.all_takeWhile (p:=fun y=>decide (y<x)) (l:=out)) y hy
   simpa using this
  have hgt: ∀y∈out.drop a,x<y:=by
   cases hd:out.drop a with
   | nil=>intro y hy;cases hy
   | cons z r=>
    have hz:out[a]?=some z:=by
     have h1:(out.drop a)[0]?=some z:=by rw[hd];rfl
     rw[List.getElem?_drop,Nat.add_zero] at h1
     exact h1
    have hnz: ¬z<x:=by
     intro hlt2
     have hdw:out.dropWhile (fun y=>decide (y<x))=z::r:=by
      have e:out.drop (out.takeWhile fun y=>decide (y<x)).length=out.dropWhile fun y=>decide (y<x):=by
       have h1:=List.takeWhile_append_dropWhile (p:=fun y=>decide (y<x)) (l:=out)
       have h2:(out.takeWhile (fun y=>decide (y<x))++out.dropWhile (fun y=>decide (y<x))).drop (out.takeWhile fun y=>decide (y<x)).length=out.dropWhile fun y=>decide (y<x):=List.drop_left
       rw[h1] at h2
       exact h2
      rw[←e]
      unfold atU at ha
      rw[←ha];exact hd
     have:=List.head?_dropWhile_not (fun y=>decide (y<x)) out
     rw[hdw] at this
     simp at this
     omega
    have hzx:z≠x:=fun e=>hne (by rw[hz,e])
    have hp:(z::r).Pairwise (· < ·):=by rw[←hd];exact h.sublist (List.drop_sublist _ _)
    intro y hy
    rcases List.mem_cons.1 hy with rfl | hy
    ·omega
    ·have:=(List.pairwise_cons.1 hp).1 y hy
     omega
  rw[List.pairwise_append]
  refine⟨h.sublist (List.take_sublist _ _),List.pairwise_cons.2 ⟨hgt,h.sublist (List.drop_sublist _ _)⟩,fun y hy z hz=> ?_⟩
  have h1:=hlt y hy
  rcases List.mem_cons.1 hz with rfl | hz
  ·exact h1
  ·have:=hgt z hz;omega
theorem risTo_rise (xs:List Int): ∀i,(risTo xs i).Pairwise (· < ·)
 | 0=>List.Pairwise.nil
 | i+1=>insU_rise (risTo_rise xs i)
def risKeys (xs:List Int):List Nat:=(risTo xs xs.length).map Int.toNat
theorem insU_has {out:List Int} {x y:Int} (h:y∈out∨y=x):y∈insU out x:=by
 unfold insU
 split
 ·rename_i he
  rcases h with h | rfl
  ·exact h
  ·exact List.mem_of_getElem? he
 ·rcases h with h | rfl
  ·rw[←List.take_append_drop (atU out x) out] at h
   rcases List.mem_append.1 h with h | h
   ·exact List.mem_append_left _ h
   ·exact List.mem_append_right _ (List.mem_cons_of_mem _ h)
  ·exact List.mem_append_right _ (List.mem_cons_self ..)
theorem risTo_has {xs:List Int}: ∀{i:Nat},i≤xs.length→ ∀j,j<i→ ∀y,xs[j]?=some y→y∈risTo xs i
 | 0,_,j,hj,_,_=>by omega
 | i+1,hi,j,hj,y,hy=>by
  by_cases h:j=i
  ·subst h
   exact insU_has (Or.inr (by rw[List.getD_eq_getElem?_getD,hy];rfl))
  ·exact insU_has (Or.inl (risTo_has (by omega) j (by omega) y hy))
theorem risKeys_has {xs:List Int} (h: ∀y∈xs,U64 y) (q:Int):q∈xs↔ ∃j,j< (risKeys xs).length∧((risKeys xs).getD j 0:Int)=q:=by
 constructor
 ·intro hq
  obtain⟨j,hj⟩:=List.mem_iff_getElem?.1 hq
  have h1:=risTo_has (Nat.le_refl xs.length) j (List.getElem?_eq_some_iff.1 hj).1 q hj
  obtain⟨k,hk⟩:=List.mem_iff_getElem?.1 h1
  have hkl:=(List.getElem?_eq_some_iff.1 hk).1
  refine⟨k,by unfold risKeys;rw[List.length_map];exact hkl,?_⟩
  unfold risKeys
  rw[List.getD_eq_getElem?_getD,List.getElem?_map,hk]
  have:=h q hq
  unfold U64 at this
  show((q.toNat:Nat):Int)=q
  omega
 ·rintro⟨j,hj,hq⟩
  unfold risKeys at hj hq
  rw[List.length_map] at hj
  rw[List.getD_eq_getElem?_getD,List.getElem?_map,List.getElem?_eq_getElem hj] at hq
  have h1:(risTo xs xs.length)[j]∈xs:=risTo_in (Nat.le_refl _) _ (List.getElem_mem _)
  have:=h _ h1
  unfold U64 at this
  have h2:((((risTo xs xs.length)[j]).toNat:Nat):Int)=q:=hq
  have h3:(risTo xs xs.length)[j]=q:=by omega
  rw[←h3];exact h1
theorem risKeys_rise {xs:List Int} (h: ∀y∈xs,U64 y):(risKeys xs).Pairwise (· < ·)∧ ∀x∈risKeys xs,x<18446744073709551616:=by
 have hin: ∀y∈risTo xs xs.length,U64 y:=fun y hy=>h y (risTo_in (Nat.le_refl _) y hy)
 refine⟨?_,fun x hx=> ?_⟩
 ·unfold risKeys
  rw[List.pairwise_map]
  refine List.Pairwise.imp_of_mem ?_ (risTo_rise xs xs.length)
  intro a b ha hb hab
  have h1:=hin a ha
  have h2:=hin b hb
  unfold U64 at h1 h2
  omega
 ·unfold risKeys at hx
  obtain⟨y,hy,rfl⟩:=List.mem_map.1 hx
  have h1:=hin y hy
  unfold U64 at h1
  omega
theorem risKeys_back {xs:List Int} (h: ∀y∈xs,U64 y):(risKeys xs).map (fun k:Nat=>(k:Int))=risTo xs xs.length:=by
 unfold risKeys
 rw[List.map_map]
 conv=>rhs;rw[←List.map_id (risTo xs xs.length)]
 refine List.map_congr_left fun y hy=> ?_
 have h1:=h y (risTo_in (Nat.le_refl _) y hy)
 unfold U64 at h1
 show((y.toNat:Nat):Int)=y
 omega
end Go.Proofs.YtjmaicckkkdjpaaGreat
/- How many nodes the law's tree has. -/
namespace Go.Proofs.YtjmaicckkkdjpaaGreat
open Go.RowKit
def nodesN (rows:List (List (Nat×NodeA))) (k:Nat):Nat:=((rows.take k).map List.length).sum
theorem nodesN_succ {rows:List (List (Nat×NodeA))} {k:Nat} {row:List (Nat×NodeA)} (h:rows[k]?=some row):nodesN rows (k+1)=nodesN rows k+row.length:=by
 unfold nodesN
 rw[List.take_add_one,h]
 simp
theorem Nodes_z (wb g b n N:Nat) (R:AR) (lv s1 s2 s3:Value) (rows:List (List (Nat×NodeA))) (w:World) (hw:Blk w wb 36 #[ptrV g,s1,s2,s3]) (ha:ArIs w g b n R lv) (hl:LvsA w N lv rows) (hr:rows.length≤1000) (hs: ∀row∈rows,row.length≤100000):
  Calls Tryz.prog 15 #[ptrV wb] w fun e w'=>e= .returned (.int .i64 (nodesN rows rows.length:Nat))∧w'=w:=by
 obtain⟨vs,q1,q2,q3⟩:=hl
 obtain⟨p,cc,rfl⟩:=row_form1 q2
 obtain⟨q,hq⟩: ∃q,q=rows.length:=⟨_,rfl⟩
 rw[←hq]
 have c0:w.cell? ⟨wb,0,none⟩=some (ptrV g):=hw.cell 0
 have c7:w.cell? ⟨g,7,none⟩=some (.slice p q cc):=by rw[hq];exact ha.blk.cell 7
 have HP:=hid (⟨q1,q2,q3,hq,hr,hs⟩:_∧_∧_∧_∧_∧_)
 clear hw ha q1 q2 q3 hq hr hs
 go_enter Tryz.func15,Tryz.ntmps15
 go_wp2
 go_loopw [3,4] (fun s i wr=> ∃k:Nat,k≤q∧i= .int .i64 (k:Int)∧s= .int .i64 ((nodesN rows k:Nat):Int)∧wr=w∧Hid (nodesN rows k≤100000*k)) (fun s i _=>q- (intOf i).toNat)
 case atStart=>exact⟨0,Nat.zero_le _,rfl,rfl,rfl,hid (by simp[nodesN])⟩
 case round=>
  obtain⟨k,hk,rfl,rfl,rfl,hA⟩:=hrel
  by_cases hkn:k<q
  ·obtain⟨row,hrow⟩: ∃row,rows[k]?=some row:=⟨_,List.getElem?_eq_getElem (by rw[←HP.out.2.2.2.1];exact hkn)⟩
   obtain⟨v,hv,h1,h2⟩:=HP.out.2.2.1 k row hrow
   obtain⟨rg,cap,hv1,hlo,hcap,hgl,hcl⟩:=own_some HP.out.2.1 (by rw[←HP.out.2.2.2.1];omega)
   injection hv1 with hv1 _ hv2
   subst hv1
   obtain⟨rp,rcap,hrv⟩: ∃rp rcap,v= .slice rp row.length rcap:=row_form1 h2
   subst hrv
   have c1:=hcl k _ hv
   rw[Nat.zero_add] at c1
   have i0:(0:Int)≤(k:Int):=by omega
   have i1:(k:Int)< (q:Int):=by omega
   have hrl:=HP.out.2.2.2.2.2 row (List.mem_of_getElem? hrow)
   have i2:IntKind.i64.wrap ((k:Int)+1)=(k:Int)+1:=by rw[IntKind.wrap_i64];have:=HP.out.2.2.2.1;have:=HP.out.2.2.2.2.1;omega
   have i3:IntKind.i64.wrap (((nodesN rows k:Nat):Int)+(row.length:Int))=((nodesN rows k:Nat):Int)+(row.length:Int):=by rw[IntKind.wrap_i64];have:=hA.out;have:=HP.out.2.2.2.1;have:=HP.out.2.2.2.2.1;omega
   have HX:=hid (⟨hrow,hkn,hrl⟩:_∧_∧_)
   clear hrow hv h1 h2 hlo hcap hgl hcl hv2 hrl hk hkn
   go_wp2_with fail
   go_roundw
   case rel=>
    refine⟨k+1,HX.out.2.1,by push_cast;rfl,?_,trivial,hid ?_⟩
    ·rw[nodesN_succ HX.out.1];push_cast;rfl
    ·rw[nodesN_succ HX.out.1];have:=hA.out;have:=HX.out.2.2;omega
   case measure=>simp[intOf];have:=HX.out.2.1;omega
  ·obtain rfl:k=q:=by omega
   have i1:decide ((k:Int)< (k:Int))=false:=decide_eq_false (by omega)
   clear hkn hk
   go_wp2_with fail
   go_ret
   exact⟨rfl,rfl⟩
end Go.Proofs.YtjmaicckkkdjpaaGreat
/- How many nodes a built tree has. -/
namespace Go.Proofs.YtjmaicckkkdjpaaGreat
open Go.RowKit
theorem nodesN_tK (keys:List Nat) (per lag K:Nat): ∀k,k≤K+1→nodesN ((List.range (K+1)).map (rowK (uN keys) per lag (ents0 keys))) k=tK keys per lag k
 | 0,_=>by simp[nodesN,tK,stk]
 | k+1,h=>by
  rw[nodesN_succ (row:=rowK (uN keys) per lag (ents0 keys) k) (by rw[List.getElem?_map,List.getElem?_range (by omega)];rfl),nodesN_tK keys per lag K k (by omega),tK_succ]
  unfold rowK
  rw[rowS_len]
theorem nodes_tK (keys:List Nat) (per lag K:Nat):nodesN ((List.range (K+1)).map (rowK (uN keys) per lag (ents0 keys))) ((List.range (K+1)).map (rowK (uN keys) per lag (ents0 keys))).length=tK keys per lag (K+1):=by
 rw[List.length_map,List.length_range]
 exact nodesN_tK keys per lag K (K+1) (Nat.le_refl _)
theorem GtWhole_z {slabs per lag K:Nat} {keys:List Nat} {bs:List Int} (h:Built slabs keys per lag K bs) {c q:Int} (hc:0≤c∧c≤64) (hq:U64 q) (L:Nat) (hL:L<4611686018427387904) (hn:1+45*tK keys per lag (K+1)+15≤L)
  (si m g:Nat) (B:MB) (M:MemS) (KK:Nat) (f:List Nat) (hV:M.view=wordsOf bs) (w:World) (hin:WkIn w si m g B M KK f) (hs:GtIs w si m g (gtNew c q) f):
  Calls Tryz.prog 14 #[ptrV m,ptrV g,.int .i64 (L:Int)] w fun e w'=> ∃r x' M' f',e= .returned (.int .i64 r)∧1≤r∧GtAll (GtEnd keys q) (wordsOf bs) si m g B KK M f w x' M' f' w':=by
 refine(LWhole_z (fun n x=>GtSt keys per lag K bs c q n x) (GtEnd keys q) (wordsOf bs) (fun n x hx=> ?_) L (1+45*tK keys per lag (K+1)+15) hn hL si m g B M KK (gtNew c q) f hV ?_ w hin hs).mono ?_
 ·obtain⟨h1,h2⟩:=hx.ok h hc hq
  refine⟨h1,h2,?_⟩
  rcases hx.step h hq.1 with⟨n',a,b,d⟩ | hE
  ·exact Or.inl ⟨n',a,b,d⟩
  ·refine Or.inr ⟨hE,hE.done,?_⟩
   have hr:=hE.res
   unfold ResK at hr
   rcases hr with⟨j,_,_,h3,_⟩ | ⟨_,h3,_⟩
   ·exact Or.inl h3
   ·exact Or.inr h3
 ·exact GtSt.walk _ _ .root
 ·rintro e w' ⟨r,x',M',f',rfl,h1,_,h3⟩
  exact⟨r,x',M',f',rfl,h1,h3⟩
end Go.Proofs.YtjmaicckkkdjpaaGreat
/- What a get answers is what the law wants. -/
namespace Go.Proofs.YtjmaicckkkdjpaaGreat
open Go.RowKit
theorem ResK.want {xs:List Int} (hu: ∀y∈xs,U64 y) {q rc:Int} {rv:ByteArray} (h:ResK (risKeys xs) q rc rv):if q∈xs then rc=0∧rv=strOfNums (numL q.toNat) else rc=5∧rv={ data:= #[] }:=by
 unfold ResK at h
 by_cases hq:q∈xs
 ·rw[if_pos hq]
  rcases h with⟨j,hj,h1,h2,h3⟩ | ⟨h1,_,_⟩
  ·refine⟨h2,?_⟩
   rw[h3,←h1]
   show strOfNums (numL ((risKeys xs).getD j 0))=strOfNums (numL (((risKeys xs).getD j 0:Nat):Int).toNat)
   rw[Int.toNat_natCast]
  ·obtain⟨j,hj,h2⟩:=(risKeys_has hu q).1 hq
   exact absurd h2 (h1 j hj)
 ·rw[if_neg hq]
  rcases h with⟨j,hj,h1,h2,h3⟩ | ⟨_,h2,h3⟩
  ·exact absurd ((risKeys_has hu q).2 ⟨j,hj,h1⟩) hq
  ·exact⟨h2,h3⟩
end Go.Proofs.YtjmaicckkkdjpaaGreat
