import Derived.Test.YtjmaicckkkdjpaaGreatF10
import Derived.Test.YtjmaicckkkdjpaaGreatF17
import Derived.Test.YtjmaicckkkdjpaaGreatF05
set_option maxRecDepth 100000
set_option maxHeartbeats 4000000
set_option linter.unusedVariables false
set_option linter.unusedSimpArgs false
/- A get in a built image where nobody stores, plainly. -/
namespace Go.Proofs.YtjmaicckkkdjpaaGreat
open Go.RowKit
section
variable {slabs per lag K:Nat} {keys:List Nat} {bs:List Int}
def vwX (bs:List Int) (j:Nat):List Nat:=((wordsN bs).drop (vA j/8)).take 8
abbrev txtK (keys:List Nat) (j:Nat):List Int:=numL (keys.getD j 0)
theorem Base.vw (h:Base slabs keys per lag K bs) {j:Nat} (hj:j<keys.length):
  (vwX bs j).length=8∧(vwX bs j).headD 0=(txtK keys j).length∧(txtK keys j).length≤20∧(∀i:Nat,i<8→(wdV (wordsOf bs) ((vA j:Nat)+8*(i:Int))).toNat=(vwX bs j).getD i 0∧inV (wordsOf bs) ((vA j:Nat)+8*(i:Int)))∧
   txtE (txtK keys j).length ((vwX bs j).tail.take (((txtK keys j).length+7)/8))=(strOfNums (txtK keys j),0):=by
 obtain⟨hv,h56,hbt⟩:=h.vs j hj
 have hvin:=h.vin
 have hva:=vA_in (i:=j) (slabs:=slabs) (by omega)
 have hl:=h.len
 have hkk:keys.getD j 0<18446744073709551616:=by
  rw[List.getD_eq_getElem?_getD,List.getElem?_eq_getElem hj];exact h.kk _ (List.getElem_mem _)
 have h20:(txtK keys j).length≤20:=numL_20 hkk
 have hm:=vA_mod j
 obtain⟨q,hq⟩: ∃q,q=vA j/8:=⟨_,rfl⟩
 have h8q:vA j=8*q:=by omega
 rw[h8q] at hv
 have hpv:=parse_valT h.byt (q:=q) h56 (by omega) hv
 have hX:vwX bs j=((wordsN bs).drop q).take 8:=by unfold vwX;rw[hq]
 rw[←hX] at hpv
 have hlen:(vwX bs j).length=8:=by rw[hX,List.length_take,List.length_drop,wordsN_len];omega
 have hget: ∀i:Nat,i<8→(wdV (wordsOf bs) ((vA j:Nat)+8*(i:Int))).toNat=(vwX bs j).getD i 0∧inV (wordsOf bs) ((vA j:Nat)+8*(i:Int)):=by
  intro i hi
  have e:((vA j:Nat):Int)+8*(i:Int)=((8*(q+i):Nat):Int):=by omega
  refine⟨?_,by rw[e];exact inV_of (by omega) (by omega)⟩
  obtain⟨x,h1,h2,h3⟩:=wordsN_at h.byt (k:=q+i) (by omega)
  rw[e,wdV_of (by omega) (by omega),hX,List.getD_eq_getElem?_getD,List.getElem?_take,if_pos hi,List.getElem?_drop,h1]
  have:wdN bs (8*(q+i))=wAt bs (q+i):=rfl
  rw[this]
  show _=x
  omega
 obtain⟨x,r,hxr⟩: ∃x r,vwX bs j=x::r:=by
  cases hc:vwX bs j with
  | nil=>rw[hc] at hlen;simp at hlen
  | cons x r=>exact⟨x,r,rfl⟩
 have hx:x=(txtK keys j).length:=by
  have h1:=(hget 0 (by omega)).1
  rw[hxr] at h1
  have e:((vA j:Nat):Int)+8*((0:Nat):Int)=((vA j:Nat):Int):=by omega
  rw[e,wdV_of (by omega) (by omega)] at h1
  have e2:wdN bs (vA j)=leW (slB bs (8*q) 8):=by rw[h8q];rfl
  have e3:slB bs (8*q) 8=(slB bs (8*q) 64).take 8:=by unfold slB;rw[List.take_take];rfl
  have e4: ∀d:List Int,(valT d).take 8=(List.range 8).map (byteN d.length):=fun d=>rfl
  rw[e2,e3,hv,e4,leW_word (by omega)] at h1
  simp only[List.getD_cons_zero] at h1
  show x=(numL (keys.getD j 0)).length
  omega
 refine⟨hlen,by rw[hxr];exact hx,h20,hget,?_⟩
 rw[hxr] at hpv ⊢
 have hrl:r.length=7:=by rw[hxr] at hlen;simpa using hlen
 unfold parseV at hpv
 have hc:classZ (x:Nat)=1:=by unfold classZ fitsZ;rw[if_neg (by omega),if_pos (by omega)];rfl
 simp only[] at hpv
 have hw:wordsV x≤8:=by unfold wordsV;omega
 rw[if_neg (by omega),if_neg (by rintro(h | h);omega;exact h hc),if_neg (by rw[hrl];omega),textV_eq,hx] at hpv
 injection hpv with hpv
 simp only[Array.mk.injEq,List.cons.injEq,Value.string.injEq,Value.int.injEq,and_true,true_and] at hpv
 exact Prod.ext hpv.1 hpv.2
def RdSt (bs:List Int) (keys:List Nat) (j n:Nat) (y:RdP):Prop:= ∃i,i<wordsV (txtK keys j).length∧n+i=wordsV (txtK keys j).length∧y={ rdNew (vA j:Nat) with l:=(vwX bs j).take i }
theorem RdSt.new (bs:List Int) (keys:List Nat) (j:Nat):RdSt bs keys j (wordsV (txtK keys j).length) (rdNew (vA j:Nat)):=⟨0,by unfold wordsV;omega,by omega,rfl⟩
theorem RdSt.step (h:Base slabs keys per lag K bs) {j n:Nat} (hj:j<keys.length) {y:RdP} (hy:RdSt bs keys j n y):
  inV (wordsOf bs) y.adr∧y.done=false∧y.l.length≤8∧
  ((∃n',n'<n∧(y.next (wordsOf bs)).done=false∧RdSt bs keys j n' (y.next (wordsOf bs)))∨((y.next (wordsOf bs)).done=true∧(y.next (wordsOf bs)).bad=0∧(y.next (wordsOf bs)).s=strOfNums (txtK keys j))):=by
 obtain⟨i,hi,hn,rfl⟩:=hy
 obtain⟨a1,a2,a3,a4,a5⟩:=h.vw hj
 have h8:i<8:=by unfold wordsV at hi;omega
 have hll:((vwX bs j).take i).length=i:=by rw[List.length_take];omega
 have hadr:({ rdNew (vA j:Nat) with l:=(vwX bs j).take i }:RdP).adr=((vA j:Nat):Int)+8*(i:Int):=by unfold RdP.adr;simp only[hll];rfl
 obtain⟨x,hx⟩: ∃x,(vwX bs j)[i]?=some x:=⟨_,List.getElem?_eq_getElem (by omega)⟩
 have happ:(vwX bs j).take i++[x]=(vwX bs j).take (i+1):=by rw[List.take_add_one,hx];rfl
 have hgd:(vwX bs j).getD i 0=x:=by rw[List.getD_eq_getElem?_getD,hx];rfl
 have hhd:((vwX bs j).take (i+1)).headD 0=(txtK keys j).length:=by
  rw[←a2]
  cases vwX bs j with
  | nil=>rfl
  | cons y l=>rfl
 refine⟨by rw[hadr];exact(a4 i h8).2,rfl,by show((vwX bs j).take i).length≤8;omega,?_⟩
 unfold RdP.next
 rw[if_neg (by simp[rdNew]),hadr,(a4 i h8).1,hgd]
 unfold RdP.got
 simp only[happ,hll,hhd]
 rw[if_neg (by omega)]
 by_cases hlt:i+1<wordsV (txtK keys j).length
 ·rw[if_pos hlt]
  exact Or.inl ⟨n-1,by omega,rfl,i+1,hlt,by omega,rfl⟩
 ·rw[if_neg hlt]
  right
  have e:((vwX bs j).take (i+1)).tail=(vwX bs j).tail.take (((txtK keys j).length+7)/8):=by
   have:i=((txtK keys j).length+7)/8:=by unfold wordsV at hi hlt;omega
   rw[←this]
   cases vwX bs j with
   | nil=>simp
   | cons y l=>rfl
  rw[e,a5]
  exact⟨rfl,rfl,rfl⟩
theorem wsE_zero (r:Nat):wsE keys per lag 0 r=ownE keys per lag 0 r:=by unfold wsE;rw[if_pos rfl];rfl
theorem Core.leafIn (h:Core slabs keys per lag K bs) {r:Nat} {e:Int×Int} (he:e∈wsE keys per lag 0 r): ∃j,j<keys.length∧e=((keys.getD j 0:Int),(vA j:Int)):=by
 obtain⟨i,_,_,hie⟩:=wsE_mem he
 have h3:(ents0 keys)[r*per+i]?=some e:=hie
 have h4:=(List.getElem?_eq_some_iff.1 h3).1
 rw[ents0_len] at h4
 rw[ents0_at h4] at h3
 injection h3 with h3
 exact⟨_,h4,h3.symm⟩
def ResK (keys:List Nat) (q rc:Int) (rv:ByteArray):Prop:=(∃j,j<keys.length∧(keys.getD j 0:Int)=q∧rc=0∧rv=strOfNums (txtK keys j))∨((∀j,j<keys.length→(keys.getD j 0:Int)≠q)∧rc=5∧rv={ data:= #[] })
theorem WkSt.live {v:List Int} {c q:Int} {n:Nat} {x:WkP} (h:WkSt keys per lag K v c q n x):x.over=false:=by cases h<;>rfl
inductive GtSt (keys:List Nat) (per lag K:Nat) (bs:List Int) (c q:Int):Nat→GtP→Prop
 | walk (n:Nat) (x:WkP) (hx:WkSt keys per lag K (wordsOf bs) c q n x):GtSt keys per lag K bs c q (n+15) { gtNew c q with u:= .walk x }
 | read (r j n:Nat) (y:RdP) (hr:r<nK keys per lag 0) (hj:j<keys.length) (hq:(keys.getD j 0:Int)=q) (hy:RdSt bs keys j n y):GtSt keys per lag K bs c q (n+6) { gtNew c q with u:= .read y,at':=(adN keys per lag 0 r:Nat),leaf:=ndF keys per lag 0 r }
 | still (r j n:Nat) (k:Int) (hr:r<nK keys per lag 0) (hj:j<keys.length) (hq:(keys.getD j 0:Int)=q) (hk:k=2∧n=2∨k=3∧n=1):
   GtSt keys per lag K bs c q (n+4) { gtNew c q with u:= .still { stNew (adN keys per lag 0 r:Nat) (ndF keys per lag 0 r) with k:=k },at':=(adN keys per lag 0 r:Nat),leaf:=ndF keys per lag 0 r,v:=strOfNums (txtK keys j) }
 | last (r n:Nat) (l:List Int) (rc:Int) (rv v:ByteArray) (hr:r<nK keys per lag 0) (hR:ResK keys q rc rv) (hl: ∃i,i≤3∧l=(linesL (adN keys per lag 0 r:Nat)).drop i∧n+i=4):
   GtSt keys per lag K bs c q n { gtNew c q with u:= .last ⟨c,l,false⟩ rc rv,at':=(adN keys per lag 0 r:Nat),leaf:=ndF keys per lag 0 r,v:=v }
end
end Go.Proofs.YtjmaicckkkdjpaaGreat
/- What a law asks of a get and a memory. -/
namespace Go.Proofs.YtjmaicckkkdjpaaGreat
open Go.RowKit
theorem saLoadAt (v:Value):Instr.loadAt 122 v=ldM 122 v:=rfl
theorem saStoreAt (p v:Value):Instr.storeAt 122 p v=stM 122 p v:=rfl
attribute [local go_sem ↓ high] nodeLoadAt nodeLoadVar nodeStoreAt rsLoadAt rsLoadVar rsStoreAt gtBuild rsBuild saLoadAt saStoreAt
attribute [local go_sem] ldM_run lvM_run stM_run Oper.semAt_some run_store_fnG bldMg_run
def statC (s:St4):Array Value:= #[.int .u64 s.a,.int .u64 s.b,.int .u64 s.c,.int .u64 s.d]
theorem statC_turn (s0 s:St4):setL (statC s0) 0 (statC s).toList=statC s:=by kernel_rfl
theorem stat_stA {w:World} {b:Nat} {s0:St4} (h:Blk w b 122 (statC s0)) (s:St4): ∃W',stR Tryz.prog 122 (.pointer (some ⟨b,0,none⟩)) (.agg (statC s)) w= .ok () W'∧Blk W' b 122 (statC s)∧Only [b] w W':=
 ⟨_,Blk.stAt h 0 (by show 0+4≤4;omega) (by kernel_rfl) (by kernel_rfl),by have:=Blk.setCells (statC s).toList 0 h;rw[statC_turn] at this;exact this,Only.setCellsM b _ 0 w⟩
def didV (s:St4):Int:=IntKind.u64.wrap (IntKind.u64.wrap (IntKind.u64.wrap (s.a+s.b)+s.c)+s.d)
end Go.Proofs.YtjmaicckkkdjpaaGreat
/- The law's step of a get. -/
namespace Go.Proofs.YtjmaicckkkdjpaaGreat
open Go.RowKit
theorem didV_step {s s':St4} (i j k:Nat) (h:i+j+k≤1) (ha:s'.a=(s.a+i)% 18446744073709551616) (hb:s'.b=s.b) (hc:s'.c=(s.c+j)% 18446744073709551616) (hd:s'.d=(s.d+k)% 18446744073709551616):IntKind.u64.wrap (didV s'-didV s)≤1:=by
 unfold didV
 simp only[IntKind.wrap_u64]
 rw[ha,hb,hc,hd]
 omega
theorem MSt.ahead {m:Nat} {B:MB} {K:Nat} {w w1 w2:World} {M M':MemS} {ta:MA} {ks:List Nat} (h:MSt m B K w1 M w2 M' ta ks) (hb:Below w.heap.size w w1):MSt m B K w M w2 M' ta ks:=
 ⟨h.mems,fun k hk=>(h.foot k hk).imp id (fun h=>Nat.le_trans hb.size h),h.abs,h.st,(Only.of_below hb _).trans h.only (fun x hx=>Or.inl hx)⟩
theorem WkIn.bel {w w':World} {si m g:Nat} {B:MB} {M:MemS} {K:Nat} {f:List Nat} (h:WkIn w si m g B M K f) (hb:Below w.heap.size w w'):WkIn w' si m g B M K f:=
 ⟨h.mem.only (Only.of_below hb []) (by simp),h.st,h.few,cell_bel hb h.sc,Nat.lt_of_lt_of_le h.sil hb.size,h.sig,h.sif,h.sim,h.gm,h.fm⟩
end Go.Proofs.YtjmaicckkkdjpaaGreat
/- The law steps a get till it is done. -/
namespace Go.Proofs.YtjmaicckkkdjpaaGreat
open Go.RowKit
theorem WkIn.next {w w':World} {si m g:Nat} {B:MB} {M M':MemS} {K:Nat} {ta:MA} {f f':List Nat} (hin:WkIn w si m g B M K f) (hgl:g<w.heap.size) (hfl: ∀y∈f,y<w.heap.size) (hM:MSt m B K w M w' M' ta (g::f)) (hf: ∀y∈f',y∈f∨(w.heap.size≤y∧y∉footM m B M')):WkIn w' si m g B M' K f':=by
 refine⟨hM.mems,hM.st64 hin.st,hin.few,(hM.only.cell (p:=⟨si,0,none⟩) hin.sil ?_).trans hin.sc,Nat.lt_of_lt_of_le hin.sil hM.only.size,hin.sig,fun h=> ?_,hM.far hin.sil hin.sim,hM.far hgl hin.gm,fun y hy=> ?_⟩
 ·intro h
  rcases List.mem_append.1 h with h | h
  ·rcases List.mem_cons.1 h with h | h
   ·exact hin.sig h
   ·exact hin.sif h
  ·exact hin.sim h
 ·rcases hf si h with h1 | h1
  ·exact hin.sif h1
  ·have:=hin.sil;have:=h1.1;omega
 ·rcases hf y hy with h1 | h1
  ·exact hM.far (hfl y h1) (hin.fm y h1)
  ·exact h1.2
theorem eff_view (x:GtP) (A:MA):(x.eff A).view=A.view:=by
 have hl: ∀l:LtP,(l.eff A).view=A.view:=fun l=>by
  unfold LtP.eff
  split
  ·rfl
  ·split<;>rfl
 unfold GtP.eff
 split
 ·rename_i y _
  unfold WkP.eff
  split
  ·rfl
  ·split
   ·exact hl _
   ·rfl
 ·exact hl _
 ·rfl
end Go.Proofs.YtjmaicckkkdjpaaGreat
/- The law steps a get till it is done: the loop. -/
namespace Go.Proofs.YtjmaicckkkdjpaaGreat
open Go.RowKit
end Go.Proofs.YtjmaicckkkdjpaaGreat
/- The states of a get over a built image may be. -/
namespace Go.Proofs.YtjmaicckkkdjpaaGreat
open Go.RowKit
section
variable {slabs per lag K:Nat} {keys:List Nat} {bs:List Int}
theorem Built.ad (h:Built slabs keys per lag K bs) {k r:Nat} (hk:k<K+1) (hr:r<nK keys per lag k) (d:Nat) (hd:d % 8=0) (hd2:d≤184):inV (wordsOf bs) ((adN keys per lag k r:Nat)+(d:Int)):=by
 obtain⟨b1,b2,b3⟩:=h.adN_in hk hr
 have hm:adN keys per lag k r % 64=0:=nA_mod _ _
 rw[show((adN keys per lag k r:Nat):Int)+(d:Int)=((adN keys per lag k r+d:Nat):Int) by omega]
 exact inV_of (by omega) (by omega)
theorem WkSt.ok (h:Built slabs keys per lag K bs) {c q:Int} (hc:0≤c∧c≤64) (hq:U64 q) {n:Nat} {x:WkP} (hx:WkSt keys per lag K (wordsOf bs) c q n x):WkOK (wordsOf bs) x∧0<n:=by
 have hl:=h.len
 cases hx with
 | root=>exact⟨⟨rfl,rfl,rfl,hc,hq,fun _=>by have:=inV_of (bs:=bs) (a:=16) (by omega) (by omega);exact this,(fun s hs=>by cases hs),(fun l hs=>by cases hs)⟩,by omega⟩
 | snap k r n s lo t hk hr hlow hs=>
  have hW:=h.wat hk hr
  have hok:=hs.ok hW
  have hnx:s.next (wordsOf bs)=s.got (wdV (wordsOf bs) s.adr):=by unfold SnP.next;rw[if_neg (by rw[hok.1.live];simp)]
  refine⟨⟨rfl,rfl,rfl,hc,hq,(fun hu=>by cases hu),fun s' hs'=> ?_,(fun l hu=>by cases hu)⟩,by omega⟩
  injection hs' with hs'
  subst hs'
  refine⟨⟨hok.1,?_⟩,fun ho=> ?_⟩
  ·rw[←hnx]
   rcases hs.step hW with⟨n',_,h2⟩ | h2
   ·exact(h2.ok hW).1.e0
   ·rw[h2];rfl
  ·rcases hs.step hW with⟨n',_,h2⟩ | h2
   ·rw[(h2.ok hW).1.live] at ho;cases ho
   ·rw[h2]
    have h3:=(h.nodeS (k:=k) hr).lv
    show 0≤(ndF keys per lag k r).lv
    rw[h3];omega
 | hop k r n l lo t hk hr hlow hl2=>
  refine⟨⟨rfl,rfl,rfl,hc,hq,(fun hu=>by cases hu),(fun s hu=>by cases hu),fun l' hs'=> ?_⟩,by omega⟩
  injection hs' with hs'
  subst hs'
  refine⟨rfl,hc,fun a ha=> ?_⟩
  rcases hl2 with⟨rfl,_⟩ | ⟨rfl,_⟩
  ·have ha':a=((adN keys per lag k r:Nat):Int):=by simpa using ha
   rw[ha']
   have:=h.ad hk (by omega:r<nK keys per lag k) 0 (by omega) (by omega)
   simpa using this
  ·simp at ha
theorem GtSt.ok (h:Built slabs keys per lag K bs) {c q:Int} (hc:0≤c∧c≤64) (hq:U64 q) {n:Nat} {x:GtP} (hx:GtSt keys per lag K bs c q n x):0<n∧GtOK (wordsOf bs) x:=by
 cases hx with
 | walk n y hy=>
  refine⟨by omega,rfl,hc,by simp[gtNew],by simp[gtNew],fun y' hy'=> ?_,(fun _ hu=>by cases hu),(fun _ hu=>by cases hu),(fun _ _ _ hu=>by cases hu)⟩
  injection hy' with hy'
  subst hy'
  rcases WkSt.step h hq.1 hy with⟨n',_,h2⟩ | h2
  ·exact⟨(hy.ok h hc hq).1,(h2.ok h hc hq).1.e0,fun ho=>by rw[h2.live] at ho;cases ho⟩
  ·obtain⟨e1,e2,_,r,hr,e3,_⟩:=h2
   obtain⟨b1,b2,b3⟩:=h.adN_in (k:=0) (by omega) hr
   refine⟨(hy.ok h hc hq).1,e2,fun _=> ?_⟩
   rw[e3];omega
 | read r j n y hr hj hq2 hy=>
  obtain⟨b1,b2,b3⟩:=h.adN_in (k:=0) (by omega) hr
  refine⟨by omega,rfl,hc,by show 0≤((adN keys per lag 0 r:Nat):Int)∧((adN keys per lag 0 r:Nat):Int)≤_;omega,by simp[gtNew],(fun _ hu=>by cases hu),fun y' hy'=> ?_,(fun _ hu=>by cases hu),(fun _ _ _ hu=>by cases hu)⟩
  injection hy' with hy'
  subst hy'
  obtain⟨s1,s2,s3,_⟩:=hy.step h.toBase hj
  obtain⟨a1,a2,a3,a4,a5⟩:=h.toBase.vw hj
  obtain⟨i,hi,hn,rfl⟩:=hy
  have hin:=(a4 0 (by omega)).2
  unfold inV at hin
  have hl:=h.len
  have hs:=h.s64
  have hwl:(wordsOf bs).length=bs.length/8:=by unfold wordsOf;rw[List.length_map,List.length_range]
  refine⟨s2,rfl,s1,?_,by omega,fun hne=> ?_,h.vu,fun y hy=> ?_⟩
  ·show 0≤((vA j:Nat):Int)∧((vA j:Nat):Int)≤_
   omega
  ·show((vwX bs j).take i).length<wordsV (((vwX bs j).take i).headD 0)
   have hi0:i≠0:=fun e=>hne (by rw[e];rfl)
   have e:((vwX bs j).take i).headD 0=(vwX bs j).headD 0:=by
    cases hv:vwX bs j with
    | nil=>simp
    | cons a l=>obtain⟨k,rfl⟩: ∃k,i=k+1:=⟨i-1,by omega⟩;rfl
   rw[e,a2,List.length_take]
   omega
  ·obtain⟨k,hk⟩:=List.mem_iff_getElem?.1 (List.mem_of_mem_take hy)
   have hk8:k<8:=by rw[←a1];exact(List.getElem?_eq_some_iff.1 hk).1
   have h1:=(a4 k hk8).1
   have h2:(vwX bs j).getD k 0=y:=by rw[List.getD_eq_getElem?_getD,hk];rfl
   rw[h2] at h1
   have h3:=(a4 k hk8).2
   unfold inV at h3
   have h4:wdV (wordsOf bs) ((vA j:Nat)+8*(k:Int))∈wordsOf bs:=by
    unfold wdV
    rw[List.getD_eq_getElem?_getD,List.getElem?_eq_getElem (by omega)]
    exact List.getElem_mem _
   have h5:=h.vu _ h4
   unfold U64 at h5
   omega
 | still r j n k hr hj hq2 hk=>
  obtain⟨b1,b2,b3⟩:=h.adN_in (k:=0) (by omega) hr
  refine⟨by omega,rfl,hc,by show 0≤((adN keys per lag 0 r:Nat):Int)∧((adN keys per lag 0 r:Nat):Int)≤_;omega,by simp[gtNew],(fun _ hu=>by cases hu),(fun _ hu=>by cases hu),fun y' hy'=> ?_,(fun _ _ _ hu=>by cases hu)⟩
  injection hy' with hy'
  subst hy'
  refine⟨rfl,by rcases hk with⟨rfl,_⟩ | ⟨rfl,_⟩;exact Or.inl rfl;exact Or.inr rfl,?_,by show 0≤((adN keys per lag 0 r:Nat):Int)∧((adN keys per lag 0 r:Nat):Int)≤_;omega⟩
  show inV (wordsOf bs) ((adN keys per lag 0 r:Nat)+8*k)
  rcases hk with⟨rfl,_⟩ | ⟨rfl,_⟩
  ·exact h.ad (k:=0) (by omega) hr 16 (by omega) (by omega)
  ·exact h.ad (k:=0) (by omega) hr 24 (by omega) (by omega)
 | last r n l rc rv v hr hR hl=>
  obtain⟨b1,b2,b3⟩:=h.adN_in (k:=0) (by omega) hr
  obtain⟨i,hi,rfl,hn⟩:=hl
  refine⟨by omega,rfl,hc,by show 0≤((adN keys per lag 0 r:Nat):Int)∧((adN keys per lag 0 r:Nat):Int)≤_;omega,by simp[gtNew],(fun _ hu=>by cases hu),(fun _ hu=>by cases hu),(fun _ hu=>by cases hu),fun l' rc' rv' hy'=> ?_⟩
  injection hy' with h1 h2 h3
  subst h1
  refine⟨rfl,hc,fun a ha=> ?_⟩
  have ha2:a∈linesL (adN keys per lag 0 r:Nat):=List.mem_of_mem_drop ha
  unfold linesL at ha2
  simp at ha2
  rcases ha2 with rfl | rfl | rfl
  ·have:=h.ad (k:=0) (by omega) hr 0 (by omega) (by omega)
   simpa using this
  ·exact h.ad (k:=0) (by omega) hr 64 (by omega) (by omega)
  ·exact h.ad (k:=0) (by omega) hr 128 (by omega) (by omega)
end
end Go.Proofs.YtjmaicckkkdjpaaGreat
/- The keys laid rise; what is laid, loaded whole. -/
namespace Go.Proofs.YtjmaicckkkdjpaaGreat
open Go.RowKit
theorem insU_rise {out:List Int} {x:Int} (h:out.Pairwise (· < ·)):(insU out x).Pairwise (· < ·):=by
 unfold insU
 split
 ·exact h
 ·rename_i hne
  obtain⟨a,ha⟩: ∃a,a=atU out x:=⟨_,rfl⟩
  rw[←ha] at hne ⊢
  have hlt: ∀y∈out.take a,y<x:=fun y hy=>by
   rw[ha] at hy
   unfold atU at hy
   have e:out.take (out.takeWhile fun y=>decide (y<x)).length=out.takeWhile fun y=>decide (y<x):=(List.prefix_iff_eq_take.1 (List.takeWhile_prefix _)).symm
   rw[e] at hy
   have:=List.all_eq_true.1 (List.all_takeWhile (p:=fun y=>decide (y<x)) (l:=out)) y hy
   simpa using this
  have hgt: ∀y∈out.drop a,x<y:=by
   cases hd:out.drop a with
   | nil=>intro y hy;cases hy
   | cons z r=>
    have hz:out[a]?=some z:=by
     have h1:(out.drop a)[0]?=some z:=by rw[hd];rfl
     rw[List.getElem?_drop,Nat.add_zero] at h1
     exact h1
    have hnz: ¬z<x:=by
     intro hlt2
     have hdw:out.dropWhile (fun y=>decide (y<x))=z::r:=by
      have e:out.drop (out.takeWhile fun y=>decide (y<x)).length=out.dropWhile fun y=>decide (y<x):=by
       have h1:=List.takeWhile_append_dropWhile (p:=fun y=>decide (y<x)) (l:=out)
       have h2:(out.takeWhile (fun y=>decide (y<x))++out.dropWhile (fun y=>decide (y<x))).drop (out.takeWhile fun y=>decide (y<x)).length=out.dropWhile fun y=>decide (y<x):=List.drop_left
       rw[h1] at h2
       exact h2
      rw[←e]
      unfold atU at ha
      rw[←ha];exact hd
     have:=List.head?_dropWhile_not (fun y=>decide (y<x)) out
     rw[hdw] at this
     simp at this
     omega
    have hzx:z≠x:=fun e=>hne (by rw[hz,e])
    have hp:(z::r).Pairwise (· < ·):=by rw[←hd];exact h.sublist (List.drop_sublist _ _)
    intro y hy
    rcases List.mem_cons.1 hy with rfl | hy
    ·omega
    ·have:=(List.pairwise_cons.1 hp).1 y hy
     omega
  rw[List.pairwise_append]
  refine⟨h.sublist (List.take_sublist _ _),List.pairwise_cons.2 ⟨hgt,h.sublist (List.drop_sublist _ _)⟩,fun y hy z hz=> ?_⟩
  have h1:=hlt y hy
  rcases List.mem_cons.1 hz with rfl | hz
  ·exact h1
  ·have:=hgt z hz;omega
theorem risTo_rise (xs:List Int): ∀i,(risTo xs i).Pairwise (· < ·)
 | 0=>List.Pairwise.nil
 | i+1=>insU_rise (risTo_rise xs i)
def risKeys (xs:List Int):List Nat:=(risTo xs xs.length).map Int.toNat
theorem risKeys_rise {xs:List Int} (h: ∀y∈xs,U64 y):(risKeys xs).Pairwise (· < ·)∧ ∀x∈risKeys xs,x<18446744073709551616:=by
 have hin: ∀y∈risTo xs xs.length,U64 y:=fun y hy=>h y (risTo_in (Nat.le_refl _) y hy)
 refine⟨?_,fun x hx=> ?_⟩
 ·unfold risKeys
  rw[List.pairwise_map]
  refine List.Pairwise.imp_of_mem ?_ (risTo_rise xs xs.length)
  intro a b ha hb hab
  have h1:=hin a ha
  have h2:=hin b hb
  unfold U64 at h1 h2
  omega
 ·unfold risKeys at hx
  obtain⟨y,hy,rfl⟩:=List.mem_map.1 hx
  have h1:=hin y hy
  unfold U64 at h1
  omega
theorem risKeys_back {xs:List Int} (h: ∀y∈xs,U64 y):(risKeys xs).map (fun k:Nat=>(k:Int))=risTo xs xs.length:=by
 unfold risKeys
 rw[List.map_map]
 conv=>rhs;rw[←List.map_id (risTo xs xs.length)]
 refine List.map_congr_left fun y hy=> ?_
 have h1:=h y (risTo_in (Nat.le_refl _) y hy)
 unfold U64 at h1
 show((y.toNat:Nat):Int)=y
 omega
end Go.Proofs.YtjmaicckkkdjpaaGreat
/- How many nodes the law's tree has. -/
namespace Go.Proofs.YtjmaicckkkdjpaaGreat
open Go.RowKit
def nodesN (rows:List (List (Nat×NodeA))) (k:Nat):Nat:=((rows.take k).map List.length).sum
theorem nodesN_succ {rows:List (List (Nat×NodeA))} {k:Nat} {row:List (Nat×NodeA)} (h:rows[k]?=some row):nodesN rows (k+1)=nodesN rows k+row.length:=by
 unfold nodesN
 rw[List.take_add_one,h]
 simp
end Go.Proofs.YtjmaicckkkdjpaaGreat
/- How many nodes a built tree has. -/
namespace Go.Proofs.YtjmaicckkkdjpaaGreat
open Go.RowKit
theorem nodesN_tK (keys:List Nat) (per lag K:Nat): ∀k,k≤K+1→nodesN ((List.range (K+1)).map (rowK (uN keys) per lag (ents0 keys))) k=tK keys per lag k
 | 0,_=>by simp[nodesN,tK,stk]
 | k+1,h=>by
  rw[nodesN_succ (row:=rowK (uN keys) per lag (ents0 keys) k) (by rw[List.getElem?_map,List.getElem?_range (by omega)];rfl),nodesN_tK keys per lag K k (by omega),tK_succ]
  unfold rowK
  rw[rowS_len]
theorem nodes_tK (keys:List Nat) (per lag K:Nat):nodesN ((List.range (K+1)).map (rowK (uN keys) per lag (ents0 keys))) ((List.range (K+1)).map (rowK (uN keys) per lag (ents0 keys))).length=tK keys per lag (K+1):=by
 rw[List.length_map,List.length_range]
 exact nodesN_tK keys per lag K (K+1) (Nat.le_refl _)
end Go.Proofs.YtjmaicckkkdjpaaGreat
/- What a get answers is what the law wants. -/
namespace Go.Proofs.YtjmaicckkkdjpaaGreat
open Go.RowKit
end Go.Proofs.YtjmaicckkkdjpaaGreat
/- The law's bound of a scan's steps. -/
namespace Go.Proofs.YtjmaicckkkdjpaaGreat
open Go.RowKit
theorem SLBound_z (p:Nat) (hp:p≤1000) (row0:List (Nat×NodeA)) (wb g b n N:Nat) (R:AR) (lv s1 s2 s3:Value) (rows:List (List (Nat×NodeA))) (hr0:rows[0]?=some row0) (hT:nodesN rows rows.length≤100000) (w:World) (hw:Blk w wb 92 #[ptrV g,s1,s2,s3]) (ha:ArIs w g b n R lv) (hl:LvsA w N lv rows) (hr:rows.length≤1000) (hs: ∀row∈rows,row.length≤100000):
  Calls Tryz.prog 31 #[ptrV wb,.int .i64 (p:Int)] w fun e w'=>e= .returned (.int .i64 ((row0.length*(70*nodesN rows rows.length+40)+17*p:Nat):Int))∧w'=w:=by
 obtain⟨vs,q1,q2,q3⟩:=hl
 obtain⟨p,cc,rfl⟩:=row_form1 q2
 obtain⟨q,hq⟩: ∃q,q=rows.length:=⟨_,rfl⟩
 have c0:w.cell? ⟨wb,0,none⟩=some (ptrV g):=hw.cell 0
 have c7:w.cell? ⟨g,7,none⟩=some (.slice p q cc):=by rw[hq];exact ha.blk.cell 7
 have HP:=hid (⟨q1,q2,q3,hq,hr,hs⟩:_∧_∧_∧_∧_∧_)
 have HR0:=hid (⟨hr0,hs _ (List.mem_of_getElem? hr0)⟩:_∧_)
 obtain⟨T,hTT⟩: ∃T,T=nodesN rows rows.length:=⟨_,rfl⟩
 rw[←hTT] at hT ⊢
 have HT:=hid (⟨hT,hTT,hp⟩:_∧_∧_)
 clear hw ha q1 q2 q3 hq hr hs hr0 hT hTT hp
 go_enter Tryz.func31,Tryz.ntmps31
 go_wp2
 go_loopw [5,6] (fun s i wr=> ∃k:Nat,k≤q∧i= .int .i64 (k:Int)∧s= .int .i64 ((nodesN rows k:Nat):Int)∧wr=w∧Hid (nodesN rows k≤100000*k)) (fun s i _=>q- (intOf i).toNat)
 case atStart=>exact⟨0,Nat.zero_le _,rfl,rfl,rfl,hid (by simp[nodesN])⟩
 case round=>
  obtain⟨k,hk,rfl,rfl,rfl,hA⟩:=hrel
  by_cases hkn:k<q
  ·obtain⟨row,hrow⟩: ∃row,rows[k]?=some row:=⟨_,List.getElem?_eq_getElem (by rw[←HP.out.2.2.2.1];exact hkn)⟩
   obtain⟨v,hv,h1,h2⟩:=HP.out.2.2.1 k row hrow
   obtain⟨rg,cap,hv1,hlo,hcap,hgl,hcl⟩:=own_some HP.out.2.1 (by rw[←HP.out.2.2.2.1];omega)
   injection hv1 with hv1 _ hv2
   subst hv1
   obtain⟨rp,rcap,hrv⟩: ∃rp rcap,v= .slice rp row.length rcap:=row_form1 h2
   subst hrv
   have c1:=hcl k _ hv
   rw[Nat.zero_add] at c1
   have i0:(0:Int)≤(k:Int):=by omega
   have i1:(k:Int)< (q:Int):=by omega
   have hrl:=HP.out.2.2.2.2.2 row (List.mem_of_getElem? hrow)
   have i2:IntKind.i64.wrap ((k:Int)+1)=(k:Int)+1:=by rw[IntKind.wrap_i64];have:=HP.out.2.2.2.1;have:=HP.out.2.2.2.2.1;omega
   have i3:IntKind.i64.wrap (((nodesN rows k:Nat):Int)+(row.length:Int))=((nodesN rows k:Nat):Int)+(row.length:Int):=by rw[IntKind.wrap_i64];have:=hA.out;have:=HP.out.2.2.2.1;have:=HP.out.2.2.2.2.1;omega
   have HX:=hid (⟨hrow,hkn,hrl⟩:_∧_∧_)
   clear hrow hv h1 h2 hlo hcap hgl hcl hv2 hrl hk hkn
   go_wp2_with fail
   go_roundw
   case rel=>
    refine⟨k+1,HX.out.2.1,by push_cast;rfl,?_,trivial,hid ?_⟩
    ·rw[nodesN_succ HX.out.1];push_cast;rfl
    ·rw[nodesN_succ HX.out.1];have:=hA.out;have:=HX.out.2.2;omega
   case measure=>simp[intOf];have:=HX.out.2.1;omega
  ·obtain rfl:k=q:=by omega
   have i1:decide ((k:Int)< (k:Int))=false:=decide_eq_false (by omega)
   obtain⟨v,hv,h1,h2⟩:=HP.out.2.2.1 0 row0 HR0.out.1
   have hk1:0<k:=by have:=(List.getElem?_eq_some_iff.1 HR0.out.1).1;have:=HP.out.2.2.2.1;omega
   obtain⟨rg,cap,hv1,hlo,hcap,hgl,hcl⟩:=own_some HP.out.2.1 (by rw[←HP.out.2.2.2.1];exact hk1)
   injection hv1 with hv1 _ hv2
   subst hv1
   obtain⟨rp,rcap,hrv⟩: ∃rp rcap,v= .slice rp row0.length rcap:=row_form1 h2
   subst hrv
   have d1:=hcl 0 _ hv
   rw[Nat.zero_add] at d1
   have i3:(0:Int)< (k:Int):=by omega
   have hTk:nodesN rows k=T:=by rw[HT.out.2.1,HP.out.2.2.2.1]
   rw[hTk]
   have HK:=hid hTk
   have t1:=HT.out.1
   have t2:=HR0.out.2
   have t3:=HT.out.2.2
   obtain⟨n0,hn0⟩: ∃n0,n0=row0.length:=⟨_,rfl⟩
   rw[←hn0] at t2 d1
   have HN0:=hid hn0
   have w1:IntKind.i64.wrap (70*(T:Int))=70*(T:Int):=by rw[IntKind.wrap_i64];omega
   have w2:IntKind.i64.wrap (70*(T:Int)+40)=70*(T:Int)+40:=by rw[IntKind.wrap_i64];omega
   obtain⟨Q,hQ⟩: ∃Q,Q=n0*(70*T+40):=⟨_,rfl⟩
   have hQb:Q≤100000*7000040:=by rw[hQ];exact Nat.mul_le_mul t2 (by omega)
   have hQc:(n0:Int)*(70*(T:Int)+40)=(Q:Int):=by rw[hQ];push_cast;rfl
   have w3:IntKind.i64.wrap ((n0:Int)*(70*(T:Int)+40))=(Q:Int):=by rw[hQc,IntKind.wrap_i64];omega
   have w4:IntKind.i64.wrap (17*(p:Int))=17*(p:Int):=by rw[IntKind.wrap_i64];omega
   have w5:IntKind.i64.wrap ((Q:Int)+17*(p:Int))=(Q:Int)+17*(p:Int):=by rw[IntKind.wrap_i64];omega
   have HQ:=hid hQ
   clear hkn hk hQ hQb hQc hn0 t1 t2 t3 hTk hv h1 h2 hlo hcap hgl hcl hv2 hk1
   go_wp2_with fail
   go_ret
   have e9:((row0.length*(70*T+40)+17*p:Nat):Int)=(Q:Int)+17*(p:Int):=by rw[show row0.length*(70*T+40)=Q by rw[HQ.out,HN0.out]];push_cast;rfl
   exact⟨congrArg (fun z=>Ending.returned (.int .i64 z)) e9.symm,rfl⟩
end Go.Proofs.YtjmaicckkkdjpaaGreat
