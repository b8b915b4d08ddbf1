import Derived.Test.YtjmaicckkkdjpaaGreatM00
import Derived.Deep.OwnRows
/- Arenas that are laid by hand: what is laid keeps the slabs' headers (plain); the whole of Build, plainly. -/
set_option maxRecDepth 100000
set_option maxHeartbeats 1000000
set_option linter.unusedVariables false
set_option linter.unusedSimpArgs false
namespace Go.Proofs.YtjmaicckkkdjpaaGreat
open Go.RowKit
theorem made_by2 (n:Nat):madeCells #[Value.int .u8 0] n=byC (List.replicate n 0):=by
 apply Array.ext'
 rw[toList_madeCells_one]
 simp[byC]
theorem make_by2 (n:Nat) (hn:n≤1000000) (w:World):(Instr.makeSlice 47 (.int .i64 (n:Int)) (.int .i64 (n:Int))).run Tryz.prog w= .ok (.slice (some ⟨w.heap.size,0,none⟩) n n) (w.alloc (.cells (byC (List.replicate n 0)) 5)):=by
 have:=run_make_row' (P:=Tryz.prog) 47 5 (.int .u8 0) 1 Tryz.underlying47 (by kernel_rfl) rfl .i64 .i64 n (by omega) (by omega) w
 rw[made_by2] at this
 exact this
def OffHead (a m:Nat):Prop:= ∀t,1≤t→a+m≤1024*t+8∨1024*t+16≤a
theorem offHead_in {a m s:Nat} (h1:1024*s+64≤a) (h2:a+m≤1024*(s+1)):OffHead a m:=by
 intro t _
 rcases Nat.lt_or_ge s t with h | h
 ·left;omega
 ·right;omega
theorem offHead_low {a m:Nat} (h:a+m≤1024):OffHead a m:=fun t ht=>Or.inl (by omega)
theorem AROk.bytes {R:AR} (h:AROk R) {bs:List Int} (hl:bs.length=R.bs.length) (hb: ∀x∈bs,0≤x∧x<256) (hw: ∀t,1≤t→t≤R.slabs→wdN bs (1024*t+8)=wdN R.bs (1024*t+8)):AROk { R with bs:=bs }:=by
 refine⟨hl.trans h.len,h.s64,h.us,h.val,h.nod,h.vs,h.ns,hb,fun s h1 h2=> ?_,fun hn=> ?_,fun hn=> ?_,h.two⟩
 ·have h1':R.used<s:=h1
  exact(hw s (by omega) h2).trans (h.fresh s h1 h2)
 ·have hn':R.value≠0:=hn
  exact(hw R.value (by omega) (Nat.le_trans h.val h.us)).trans (h.hv hn)
 ·have hn':R.node≠0:=hn
  exact(hw R.node (by omega) (Nat.le_trans h.nod h.us)).trans (h.hn hn)
theorem AROk.put_in {R:AR} (h:AROk R) {a x:Nat} (ha:a+8≤R.bs.length) (ho:OffHead a 8):AROk (R.put a x):=
 h.bytes (putW_len x ha) (putW_byte h.byt a x) (fun t h1 h2=>wdN_other ha (by rcases ho t h1 with h | h<;>omega))
theorem layTo_bs {R:AR} {a:Nat} {nd:NodeA} (ha:a+192≤R.bs.length): ∀i,i≤24→(R.layTo a nd i).bs.length=R.bs.length
 | 0,_=>rfl
 | i+1,hi=>by
  have h0:=layTo_bs (nd:=nd) ha i (by omega)
  exact(putW_len _ (by rw[h0];omega)).trans h0
theorem AROk.layTo {R:AR} (h:AROk R) {a:Nat} {nd:NodeA} (ha:a+192≤R.bs.length) (ho:OffHead a 192): ∀i,i≤24→AROk (R.layTo a nd i)
 | 0,_=>h
 | i+1,hi=>by
  have h0:=layTo_bs (R:=R) (nd:=nd) ha i (by omega)
  exact(AROk.layTo h ha ho i (by omega)).put_in (by rw[h0];omega) (fun t ht=>by rcases ho t ht with h | h<;>omega)
theorem AROk.lay {R:AR} (h:AROk R) {a:Nat} {nd:NodeA} (ha:a+192≤R.bs.length) (ho:OffHead a 192):AROk (R.lay a nd):=by unfold AR.lay;exact h.layTo ha ho 24 (Nat.le_refl _)
theorem lay_bs {R:AR} {a:Nat} {nd:NodeA} (ha:a+192≤R.bs.length):(R.lay a nd).bs.length=R.bs.length:=by unfold AR.lay;exact layTo_bs ha 24 (Nat.le_refl _)
theorem layAll_ok: ∀(row:List (Nat×NodeA)) {R:AR} (h:AROk R) (hr: ∀x∈row,x.1+192≤R.bs.length∧OffHead x.1 192),AROk (row.foldl (fun R x=>R.lay x.1 x.2) R)∧(row.foldl (fun R x=>R.lay x.1 x.2) R).bs.length=R.bs.length
 | [],R,h,_=>⟨h,rfl⟩
 | x::r,R,h,hr=>by
  have hx:=hr x (List.mem_cons_self ..)
  have hb:=lay_bs (nd:=x.2) hx.1
  have hl:=h.lay (nd:=x.2) hx.1 hx.2
  rw[List.foldl_cons]
  generalize R.lay x.1 x.2=R2 at hb hl ⊢
  have:=layAll_ok r hl (fun y hy=>by rw[hb];exact hr y (List.mem_cons_of_mem _ hy))
  exact⟨this.1,this.2.trans hb⟩
theorem rounds_off {R:AR} (h:AROk R) {lvl per:Nat} {l:List (Int×Int)}: ∀k,R.roomy lvl per l k→ ∀x∈(R.rounds lvl per l k).2,x.1+192≤R.bs.length∧OffHead x.1 192∧0<x.1
 | 0,_,x,hx=>by cases hx
 | k+1,hr,x,hx=>by
  rcases List.mem_append.1 (show x∈(R.rounds lvl per l k).2++[_] from hx) with hx | hx
  ·exact rounds_off h k (fun i hi=>hr i (by omega)) x hx
  ·have hne:=hr k (by omega)
   obtain⟨s,j,e1,e0,e2,e3⟩:=newNode_at (h.rounds lvl per l k) hne
   have hlen:=(h.rounds lvl per l (k+1)).len
   have hbs:=rounds_bs h lvl per l (k+1)
   have e2':s≤(R.rounds lvl per l (k+1)).1.slabs:=e2
   rw[List.mem_singleton.1 hx]
   refine⟨by show(R.rounds lvl per l k).1.newNode.2+192≤_;rw[e1];omega,?_,by show 0< (R.rounds lvl per l k).1.newNode.2;omega⟩
   show OffHead (R.rounds lvl per l k).1.newNode.2 192
   rw[e1]
   exact offHead_in (s:=s) (by omega) (by omega)
theorem linked_off {row:List (Nat×NodeA)} {P:Nat→Prop} (h: ∀x∈row,P x.1) (j:Nat): ∀x∈linkTo row j,P x.1:=by
 intro x hx
 obtain⟨i,hi⟩:=List.getElem?_of_mem hx
 have hl:i<row.length:=by have:=(List.getElem?_eq_some_iff.1 hi).1;rw[linkTo_len] at this;exact this
 have hy:row[i]?=some row[i]:=List.getElem?_eq_getElem hl
 rw[linkTo_at hy] at hi
 injection hi with hi
 subst hi
 show P row[i].1
 exact h _ (List.mem_of_getElem? hy)
theorem AROk.level {R:AR} (h:AROk R) {lvl per:Nat} {l:List (Int×Int)} (hr:R.roomy lvl per l (nRounds per l)):AROk (R.level lvl per l)∧(R.level lvl per l).bs.length=R.bs.length:=by
 have hb:=rounds_bs h lvl per l (nRounds per l)
 have:=layAll_ok ((linked (R.rounds lvl per l (nRounds per l)).2).take (nRounds per l)) (h.rounds lvl per l (nRounds per l)) (fun x hx=>by
  have:=linked_off (P:=fun a=>a+192≤R.bs.length∧OffHead a 192∧0<a) (rounds_off h _ hr) _ x (List.mem_of_mem_take hx)
  rw[hb]
  exact⟨this.1,this.2.1⟩)
 exact⟨this.1,this.2.trans hb⟩
theorem levelRow_in {R:AR} (h:AROk R) {lvl per:Nat} {l:List (Int×Int)} (hr:R.roomy lvl per l (nRounds per l)):(R.levelRow lvl per l).length=nRounds per l∧ ∀x∈R.levelRow lvl per l,x.1+192≤R.bs.length∧OffHead x.1 192∧0<x.1:=
 ⟨by unfold AR.levelRow linked;rw[linkTo_len,rounds_len],linked_off (P:=fun a=>a+192≤R.bs.length∧OffHead a 192∧0<a) (rounds_off h _ hr) _⟩
theorem levelRow_nd {R:AR} (h:AROk R) (hbig:R.bs.length≤1000000) {lvl per:Nat} {l:List (Int×Int)} (hl:lvl≤15) (hk: ∀x∈l,U64 x.1∧U64 x.2) (hr:R.roomy lvl per l (nRounds per l)): ∀x∈R.levelRow lvl per l,NdOK x.2:=
 fun x hx=>(linkTo_in hbig (rounds_in h hl hk _ hr) _ x hx).2
def AR.bytesTo (R:AR) (a:Nat) (l:List Int):Nat→AR
 | 0=>R
 | k+1=>{ R.bytesTo a l k with bs:=(R.bytesTo a l k).bs.set (a+k) (l.getD k 0) }
theorem bytesTo_bs (R:AR) (a:Nat) (l:List Int): ∀k,(R.bytesTo a l k).bs.length=R.bs.length
 | 0=>rfl
 | k+1=>by show((R.bytesTo a l k).bs.set _ _).length=_;rw[List.length_set,bytesTo_bs R a l k]
theorem wdN_set {bs:List Int} {i b:Nat} {v:Int} (h:i<b∨b+8≤i):wdN (bs.set i v) b=wdN bs b:=by
 unfold wdN
 congr 1
 apply List.ext_getElem?
 intro k
 rw[List.getElem?_take,List.getElem?_take]
 split
 ·rw[List.getElem?_drop,List.getElem?_drop,List.getElem?_set_ne (by omega)]
 ·rfl
theorem AROk.bytesTo {R:AR} (h:AROk R) {a m:Nat} {l:List Int} (hl: ∀x∈l,0≤x∧x<256) (ho:OffHead a m): ∀k,k≤m→AROk (R.bytesTo a l k)
 | 0,_=>h
 | k+1,hk=>by
  have h0:=AROk.bytesTo h hl ho k (by omega)
  refine h0.bytes (List.length_set ..) (fun x hx=> ?_) (fun t h1 h2=>wdN_set (by rcases ho t h1 with h | h<;>omega))
  rcases List.mem_or_eq_of_mem_set hx with hx | hx
  ·exact h0.byt x hx
  ·rw[hx,List.getD_eq_getElem?_getD]
   cases hc:l[k]? with
   | none=>exact⟨by decide,by decide⟩
   | some c=>exact hl c (List.mem_of_getElem? hc)
def AR.oneVal (R:AR) (key:Nat):AR:=(R.newValue.1.put R.newValue.2 (numL key).length).bytesTo (R.newValue.2+8) (numL key) (numL key).length
def AR.vals (R:AR) (keys:List Nat):Nat→AR×List (Int×Int)
 | 0=>(R,[])
 | i+1=>((AR.vals R keys i).1.oneVal (keys.getD i 0),(AR.vals R keys i).2++[((keys.getD i 0:Int),((AR.vals R keys i).1.newValue.2:Int))])
def AR.valsRoomy (R:AR) (keys:List Nat) (n:Nat):Prop:= ∀i,i<n→(R.vals keys i).1.newValue.2≠0
theorem oneVal_ok {R:AR} (h:AROk R) {key:Nat} (hk:key<18446744073709551616) (hne:R.newValue.2≠0):AROk (R.oneVal key)∧(R.oneVal key).bs.length=R.bs.length∧R.newValue.2+64≤R.bs.length:=by
 obtain⟨s,j,e1,e0,e2,e3⟩:=newValue_at h hne
 have hok:=h.newValue
 have hlen:=hok.len
 have hbs:=newValue_len h
 have h20:=numL_20 hk
 have ha:R.newValue.2+64≤R.newValue.1.bs.length:=by omega
 have hp:AROk (R.newValue.1.put R.newValue.2 (numL key).length):=hok.put_in (by omega) (offHead_in (s:=s) (by omega) (by omega))
 refine⟨hp.bytesTo (m:=20) (numL_in key) (offHead_in (s:=s) (by omega) (by omega)) _ h20,?_,by omega⟩
 unfold AR.oneVal
 rw[bytesTo_bs]
 show(putW _ _ _).length=_
 rw[putW_len _ (by omega),hbs]
theorem vals_ok {R:AR} (h:AROk R) {keys:List Nat} (hk: ∀x∈keys,x<18446744073709551616): ∀i,R.valsRoomy keys i→AROk (R.vals keys i).1∧(R.vals keys i).1.bs.length=R.bs.length∧(R.vals keys i).2.length=i
 | 0,_=>⟨h,rfl,rfl⟩
 | i+1,hr=>by
  obtain⟨h1,h2,h3⟩:=vals_ok h hk i (fun j hj=>hr j (by omega))
  have hkk:keys.getD i 0<18446744073709551616:=by
   rw[List.getD_eq_getElem?_getD]
   cases hc:keys[i]? with
   | none=>exact(by decide:(0:Nat)<18446744073709551616)
   | some c=>exact hk c (List.mem_of_getElem? hc)
  obtain⟨q1,q2,_⟩:=oneVal_ok h1 hkk (hr i (by omega))
  exact⟨q1,q2.trans h2,by show((R.vals keys i).2++[_]).length=_;rw[List.length_append,h3];rfl⟩
theorem vals_u64 {R:AR} (h:AROk R) (hbig:R.bs.length≤1000000) {keys:List Nat} (hk: ∀x∈keys,x<18446744073709551616): ∀i,R.valsRoomy keys i→ ∀x∈(R.vals keys i).2,U64 x.1∧U64 x.2
 | 0,_,x,hx=>by cases hx
 | i+1,hr,x,hx=>by
  obtain⟨h1,h2,h3⟩:=vals_ok h hk i (fun j hj=>hr j (by omega))
  have hkk:keys.getD i 0<18446744073709551616:=by
   rw[List.getD_eq_getElem?_getD]
   cases hc:keys[i]? with
   | none=>exact(by decide:(0:Nat)<18446744073709551616)
   | some c=>exact hk c (List.mem_of_getElem? hc)
  obtain⟨_,_,q3⟩:=oneVal_ok h1 hkk (hr i (by omega))
  rcases List.mem_append.1 (show x∈(R.vals keys i).2++[_] from hx) with hx | hx
  ·exact vals_u64 h hbig hk i (fun j hj=>hr j (by omega)) x hx
  ·rw[List.mem_singleton.1 hx]
   show U64 ((keys.getD i 0:Nat):Int)∧U64 (((R.vals keys i).1.newValue.2:Nat):Int)
   unfold U64
   refine⟨⟨by omega,by omega⟩,⟨by omega,by omega⟩⟩
def upsOf (lag:Nat) (row:List (Nat×NodeA)):List (Int×Int):=(row.take (max 1 (row.length-lag))).map fun x=>(x.2.low,(x.1:Int))
def AR.lvls (R:AR) (per lag:Nat) (l:List (Int×Int)):Nat→AR×List (List (Nat×NodeA))×List (Int×Int)
 | 0=>(R,[],l)
 | k+1=>((AR.lvls R per lag l k).1.level k per (AR.lvls R per lag l k).2.2,(AR.lvls R per lag l k).2.1++[(AR.lvls R per lag l k).1.levelRow k per (AR.lvls R per lag l k).2.2],
    upsOf lag ((AR.lvls R per lag l k).1.levelRow k per (AR.lvls R per lag l k).2.2))
def AR.lvRoom (R:AR) (per lag:Nat) (l:List (Int×Int)) (k:Nat):Prop:=(R.lvls per lag l k).1.roomy k per (R.lvls per lag l k).2.2 (nRounds per (R.lvls per lag l k).2.2)
def AR.lvStop (R:AR) (per lag:Nat) (l:List (Int×Int)) (k:Nat):Prop:=((R.lvls per lag l k).1.levelRow k per (R.lvls per lag l k).2.2).length=1∨k=15∨(R.lvls per lag l (k+1)).2.2.length=1
theorem lvls_len (R:AR) (per lag:Nat) (l:List (Int×Int)): ∀k,(R.lvls per lag l k).2.1.length=k
 | 0=>rfl
 | k+1=>by show((R.lvls per lag l k).2.1++[_]).length=_;rw[List.length_append,lvls_len R per lag l k];rfl
theorem nRounds_le {per:Nat} (hp:2≤per) (l:List (Int×Int)):nRounds per l≤max 1 l.length:=by
 unfold nRounds
 have:(l.length+per-1)/per≤max 1 l.length:=by
  rw[Nat.div_le_iff_le_mul_add_pred (by omega)]
  have h1:per*max 1 l.length≥l.length:=by
   have:1*l.length≤per*max 1 l.length:=Nat.mul_le_mul (by omega) (by omega)
   omega
  omega
 omega
theorem upsOf_len (lag:Nat) (row:List (Nat×NodeA)) (h:row≠[]):(upsOf lag row).length≤row.length∧upsOf lag row≠[]:=by
 have hr:0<row.length:=List.length_pos_iff.2 h
 have hl:(upsOf lag row).length=min (max 1 (row.length-lag)) row.length:=by unfold upsOf;rw[List.length_map,List.length_take]
 refine⟨by omega,fun e=> ?_⟩
 rw[e] at hl
 simp at hl
 omega
theorem lvls_inv {R:AR} {per lag:Nat} {l:List (Int×Int)} (hok:AROk R) (hbig:R.bs.length≤1000000) (hp:2≤per) (hl:l.length≤1000) (hk: ∀x∈l,U64 x.1∧U64 x.2): ∀k,k≤16→(∀j,j<k→R.lvRoom per lag l j)→
  AROk (R.lvls per lag l k).1∧(R.lvls per lag l k).1.bs.length=R.bs.length∧(R.lvls per lag l k).2.2.length≤1000∧(k≠0→(R.lvls per lag l k).2.2≠[])∧(∀x∈(R.lvls per lag l k).2.2,U64 x.1∧U64 x.2)∧
   (∀r∈(R.lvls per lag l k).2.1,r≠[]∧r.length≤1000∧ ∀x∈r,x.1+192≤R.bs.length∧OffHead x.1 192∧0<x.1)
 | 0,_,_=>⟨hok,rfl,hl,fun h=>absurd rfl h,hk,fun r hr=>by cases hr⟩
 | k+1,h16,hr=>by
  obtain⟨q1,q2,q3,q4,q5,q6⟩:=lvls_inv hok hbig hp hl hk k (by omega) (fun j hj=>hr j (by omega))
  have hroom:=hr k (by omega)
  unfold AR.lvRoom at hroom
  show AROk ((R.lvls per lag l k).1.level k per (R.lvls per lag l k).2.2)∧((R.lvls per lag l k).1.level k per (R.lvls per lag l k).2.2).bs.length=R.bs.length∧(upsOf lag ((R.lvls per lag l k).1.levelRow k per (R.lvls per lag l k).2.2)).length≤1000∧(k+1≠0→upsOf lag ((R.lvls per lag l k).1.levelRow k per (R.lvls per lag l k).2.2)≠[])∧(∀x∈upsOf lag ((R.lvls per lag l k).1.levelRow k per (R.lvls per lag l k).2.2),U64 x.1∧U64 x.2)∧
   (∀r∈(R.lvls per lag l k).2.1++[(R.lvls per lag l k).1.levelRow k per (R.lvls per lag l k).2.2],r≠[]∧r.length≤1000∧ ∀x∈r,x.1+192≤R.bs.length∧OffHead x.1 192∧0<x.1)
  generalize(R.lvls per lag l k).1=Q at*
  generalize(R.lvls per lag l k).2.2=ll at*
  generalize(R.lvls per lag l k).2.1=rr at*
  obtain⟨p1,p2⟩:=q1.level hroom
  obtain⟨p3,p4⟩:=levelRow_in q1 hroom
  have p5:=levelRow_nd q1 (by rw[q2];exact hbig) (by omega) q5 hroom
  have p6:=nRounds_le hp ll
  have p7:1≤nRounds per ll:=by unfold nRounds;omega
  have hne:Q.levelRow k per ll≠[]:=by intro e;rw[e] at p3;simp at p3;omega
  have hu:=upsOf_len lag _ hne
  refine⟨p1,p2.trans q2,by omega,fun _=>hu.2,fun x hx=> ?_,fun r hr2=> ?_⟩
  ·unfold upsOf at hx
   obtain⟨y,hy,rfl⟩:=List.mem_map.1 hx
   have hy2:=List.mem_of_mem_take hy
   refine⟨(p5 y hy2).low,?_⟩
   have:=(p4 y hy2).1
   rw[q2] at this
   show U64 (y.1:Int)
   unfold U64
   constructor<;>omega
  ·rcases List.mem_append.1 hr2 with h | h
   ·exact q6 r h
   ·rw[List.mem_singleton.1 h]
    exact⟨hne,by omega,fun x hx=>by have:=p4 x hx;rw[q2] at this;exact this⟩
def AR.new (slabs:Nat):AR:=((({ bs:=List.replicate (1024*(slabs+1)) 0,slabs:=slabs,used:=0,value:=0,values:=0,node:=0,nodes:=0 }:AR).put 0 5929342154728227142).put 8 (1024*(slabs+1))).put 24 (18446744073709551615-1024*(slabs+1))
theorem wdN_zero (m a:Nat):wdN (List.replicate m 0) a=0:=by
 unfold wdN
 rw[List.drop_replicate,List.take_replicate]
 generalize min 8 (m-a)=k
 induction k with
 | zero=>rfl
 | succ k ih=>rw[List.replicate_succ];simp[leW,ih]
theorem new_ok {slabs:Nat} (h1:1≤slabs) (h:slabs≤64):AROk (AR.new slabs)∧(AR.new slabs).bs.length=1024*(slabs+1):=by
 have h0:AROk { bs:=List.replicate (1024*(slabs+1)) 0,slabs:=slabs,used:=0,value:=0,values:=0,node:=0,nodes:=0 }:=
  ⟨List.length_replicate,h,Nat.zero_le _,Nat.le_refl _,Nat.le_refl _,Nat.zero_le _,Nat.zero_le _,fun x hx=>by rw[List.eq_of_mem_replicate hx];exact⟨by decide,by decide⟩,fun s _ _=>wdN_zero _ _,fun h=>absurd rfl h,fun h=>absurd rfl h,fun h=>absurd rfl h⟩
 unfold AR.new
 generalize hR0:({ bs:=List.replicate (1024*(slabs+1)) 0,slabs:=slabs,used:=0,value:=0,values:=0,node:=0,nodes:=0 }:AR)=R0 at h0 ⊢
 have l0:R0.bs.length=1024*(slabs+1):=by rw[←hR0];exact List.length_replicate
 have p1:=h0.put_in (a:=0) (x:=5929342154728227142) (by omega) (offHead_low (by omega))
 have l1:(R0.put 0 5929342154728227142).bs.length=1024*(slabs+1):=(putW_len _ (by omega)).trans l0
 generalize R0.put 0 5929342154728227142=R1 at p1 l1 ⊢
 have p2:=p1.put_in (a:=8) (x:=1024*(slabs+1)) (by omega) (offHead_low (by omega))
 have l2:(R1.put 8 (1024*(slabs+1))).bs.length=1024*(slabs+1):=(putW_len _ (by omega)).trans l1
 generalize R1.put 8 (1024*(slabs+1))=R2 at p2 l2 ⊢
 have p3:=p2.put_in (a:=24) (x:=18446744073709551615-1024*(slabs+1)) (by omega) (offHead_low (by omega))
 exact⟨p3,(putW_len _ (by omega)).trans l2⟩
def BuildOK (slabs:Nat) (keys:List Nat) (per lag:Nat) (R:AR) (rows:List (List (Nat×NodeA))):Prop:=
 (AR.new slabs).valsRoomy keys keys.length∧ ∃K,(∀k,k≤K→((AR.new slabs).vals keys keys.length).1.lvRoom per lag ((AR.new slabs).vals keys keys.length).2 k)∧(∀k,k<K→ ¬((AR.new slabs).vals keys keys.length).1.lvStop per lag ((AR.new slabs).vals keys keys.length).2 k)∧
  ((AR.new slabs).vals keys keys.length).1.lvStop per lag ((AR.new slabs).vals keys keys.length).2 K∧
  rows=(((AR.new slabs).vals keys keys.length).1.lvls per lag ((AR.new slabs).vals keys keys.length).2 (K+1)).2.1∧
  R=(((AR.new slabs).vals keys keys.length).1.lvls per lag ((AR.new slabs).vals keys keys.length).2 (K+1)).1.put 16 ((rows.getD K []).getD 0 (0,zeroN)).1
end Go.Proofs.YtjmaicckkkdjpaaGreat
