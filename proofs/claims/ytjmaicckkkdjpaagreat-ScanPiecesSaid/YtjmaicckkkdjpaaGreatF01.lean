import Derived.Test.YtjmaicckkkdjpaaGreatF00
import Derived.Deep.OwnRows
set_option maxRecDepth 100000
set_option maxHeartbeats 1000000
set_option linter.unusedVariables false
set_option linter.unusedSimpArgs false
/- Arenas that are laid by hand: what is laid keeps the slabs' headers (plain); the whole of Build, plainly. -/
namespace Go.Proofs.YtjmaicckkkdjpaaGreat
open Go.RowKit
theorem made_by2 (n:Nat):madeCells #[Value.int .u8 0] n=byC (List.replicate n 0):=by
 apply Array.ext'
 rw[toList_madeCells_one]
 simp[byC]
theorem make_by2 (n:Nat) (hn:n≤1000000) (w:World):(Instr.makeSlice 47 (.int .i64 (n:Int)) (.int .i64 (n:Int))).run Tryz.prog w= .ok (.slice (some ⟨w.heap.size,0,none⟩) n n) (w.alloc (.cells (byC (List.replicate n 0)) 5)):=by
 have:=run_make_row' (P:=Tryz.prog) 47 5 (.int .u8 0) 1 Tryz.underlying47 (by kernel_rfl) rfl .i64 .i64 n (by omega) (by omega) w
 rw[made_by2] at this
 exact this
def OffHead (a m:Nat):Prop:= ∀t,1≤t→a+m≤1024*t+8∨1024*t+16≤a
theorem offHead_in {a m s:Nat} (h1:1024*s+64≤a) (h2:a+m≤1024*(s+1)):OffHead a m:=by
 intro t _
 rcases Nat.lt_or_ge s t with h | h
 ·left;omega
 ·right;omega
theorem offHead_low {a m:Nat} (h:a+m≤1024):OffHead a m:=fun t ht=>Or.inl (by omega)
theorem AROk.bytes {R:AR} (h:AROk R) {bs:List Int} (hl:bs.length=R.bs.length) (hb: ∀x∈bs,0≤x∧x<256) (hw: ∀t,1≤t→t≤R.slabs→wdN bs (1024*t+8)=wdN R.bs (1024*t+8)):AROk { R with bs:=bs }:=by
 refine⟨hl.trans h.len,h.s64,h.us,h.val,h.nod,h.vs,h.ns,hb,fun s h1 h2=> ?_,fun hn=> ?_,fun hn=> ?_,h.two⟩
 ·have h1':R.used<s:=h1
  exact(hw s (by omega) h2).trans (h.fresh s h1 h2)
 ·have hn':R.value≠0:=hn
  exact(hw R.value (by omega) (Nat.le_trans h.val h.us)).trans (h.hv hn)
 ·have hn':R.node≠0:=hn
  exact(hw R.node (by omega) (Nat.le_trans h.nod h.us)).trans (h.hn hn)
theorem AROk.put_in {R:AR} (h:AROk R) {a x:Nat} (ha:a+8≤R.bs.length) (ho:OffHead a 8):AROk (R.put a x):=
 h.bytes (putW_len x ha) (putW_byte h.byt a x) (fun t h1 h2=>wdN_other ha (by rcases ho t h1 with h | h<;>omega))
theorem layTo_bs {R:AR} {a:Nat} {nd:NodeA} (ha:a+192≤R.bs.length): ∀i,i≤24→(R.layTo a nd i).bs.length=R.bs.length
 | 0,_=>rfl
 | i+1,hi=>by
  have h0:=layTo_bs (nd:=nd) ha i (by omega)
  exact(putW_len _ (by rw[h0];omega)).trans h0
theorem AROk.layTo {R:AR} (h:AROk R) {a:Nat} {nd:NodeA} (ha:a+192≤R.bs.length) (ho:OffHead a 192): ∀i,i≤24→AROk (R.layTo a nd i)
 | 0,_=>h
 | i+1,hi=>by
  have h0:=layTo_bs (R:=R) (nd:=nd) ha i (by omega)
  exact(AROk.layTo h ha ho i (by omega)).put_in (by rw[h0];omega) (fun t ht=>by rcases ho t ht with h | h<;>omega)
theorem AROk.lay {R:AR} (h:AROk R) {a:Nat} {nd:NodeA} (ha:a+192≤R.bs.length) (ho:OffHead a 192):AROk (R.lay a nd):=by unfold AR.lay;exact h.layTo ha ho 24 (Nat.le_refl _)
theorem lay_bs {R:AR} {a:Nat} {nd:NodeA} (ha:a+192≤R.bs.length):(R.lay a nd).bs.length=R.bs.length:=by unfold AR.lay;exact layTo_bs ha 24 (Nat.le_refl _)
theorem layAll_ok: ∀(row:List (Nat×NodeA)) {R:AR} (h:AROk R) (hr: ∀x∈row,x.1+192≤R.bs.length∧OffHead x.1 192),AROk (row.foldl (fun R x=>R.lay x.1 x.2) R)∧(row.foldl (fun R x=>R.lay x.1 x.2) R).bs.length=R.bs.length
 | [],R,h,_=>⟨h,rfl⟩
 | x::r,R,h,hr=>by
  have hx:=hr x (List.mem_cons_self ..)
  have hb:=lay_bs (nd:=x.2) hx.1
  have hl:=h.lay (nd:=x.2) hx.1 hx.2
  rw[List.foldl_cons]
  generalize R.lay x.1 x.2=R2 at hb hl ⊢
  have:=layAll_ok r hl (fun y hy=>by rw[hb];exact hr y (List.mem_cons_of_mem _ hy))
  exact⟨this.1,this.2.trans hb⟩
theorem rounds_off {R:AR} (h:AROk R) {lvl per:Nat} {l:List (Int×Int)}: ∀k,R.roomy lvl per l k→ ∀x∈(R.rounds lvl per l k).2,x.1+192≤R.bs.length∧OffHead x.1 192∧0<x.1
 | 0,_,x,hx=>by cases hx
 | k+1,hr,x,hx=>by
  rcases List.mem_append.1 (show x∈(R.rounds lvl per l k).2++[_] from hx) with hx | hx
  ·exact rounds_off h k (fun i hi=>hr i (by omega)) x hx
  ·have hne:=hr k (by omega)
   obtain⟨s,j,e1,e0,e2,e3⟩:=newNode_at (h.rounds lvl per l k) hne
   have hlen:=(h.rounds lvl per l (k+1)).len
   have hbs:=rounds_bs h lvl per l (k+1)
   have e2':s≤(R.rounds lvl per l (k+1)).1.slabs:=e2
   rw[List.mem_singleton.1 hx]
   refine⟨by show(R.rounds lvl per l k).1.newNode.2+192≤_;rw[e1];omega,?_,by show 0< (R.rounds lvl per l k).1.newNode.2;omega⟩
   show OffHead (R.rounds lvl per l k).1.newNode.2 192
   rw[e1]
   exact offHead_in (s:=s) (by omega) (by omega)
theorem linked_off {row:List (Nat×NodeA)} {P:Nat→Prop} (h: ∀x∈row,P x.1) (j:Nat): ∀x∈linkTo row j,P x.1:=by
 intro x hx
 obtain⟨i,hi⟩:=List.getElem?_of_mem hx
 have hl:i<row.length:=by have:=(List.getElem?_eq_some_iff.1 hi).1;rw[linkTo_len] at this;exact this
 have hy:row[i]?=some row[i]:=List.getElem?_eq_getElem hl
 rw[linkTo_at hy] at hi
 injection hi with hi
 subst hi
 show P row[i].1
 exact h _ (List.mem_of_getElem? hy)
theorem AROk.level {R:AR} (h:AROk R) {lvl per:Nat} {l:List (Int×Int)} (hr:R.roomy lvl per l (nRounds per l)):AROk (R.level lvl per l)∧(R.level lvl per l).bs.length=R.bs.length:=by
 have hb:=rounds_bs h lvl per l (nRounds per l)
 have:=layAll_ok ((linked (R.rounds lvl per l (nRounds per l)).2).take (nRounds per l)) (h.rounds lvl per l (nRounds per l)) (fun x hx=>by
  have:=linked_off (P:=fun a=>a+192≤R.bs.length∧OffHead a 192∧0<a) (rounds_off h _ hr) _ x (List.mem_of_mem_take hx)
  rw[hb]
  exact⟨this.1,this.2.1⟩)
 exact⟨this.1,this.2.trans hb⟩
theorem levelRow_in {R:AR} (h:AROk R) {lvl per:Nat} {l:List (Int×Int)} (hr:R.roomy lvl per l (nRounds per l)):(R.levelRow lvl per l).length=nRounds per l∧ ∀x∈R.levelRow lvl per l,x.1+192≤R.bs.length∧OffHead x.1 192∧0<x.1:=
 ⟨by unfold AR.levelRow linked;rw[linkTo_len,rounds_len],linked_off (P:=fun a=>a+192≤R.bs.length∧OffHead a 192∧0<a) (rounds_off h _ hr) _⟩
theorem levelRow_nd {R:AR} (h:AROk R) (hbig:R.bs.length≤1000000) {lvl per:Nat} {l:List (Int×Int)} (hl:lvl≤15) (hk: ∀x∈l,U64 x.1∧U64 x.2) (hr:R.roomy lvl per l (nRounds per l)): ∀x∈R.levelRow lvl per l,NdOK x.2:=
 fun x hx=>(linkTo_in hbig (rounds_in h hl hk _ hr) _ x hx).2
def AR.bytesTo (R:AR) (a:Nat) (l:List Int):Nat→AR
 | 0=>R
 | k+1=>{ R.bytesTo a l k with bs:=(R.bytesTo a l k).bs.set (a+k) (l.getD k 0) }
theorem bytesTo_bs (R:AR) (a:Nat) (l:List Int): ∀k,(R.bytesTo a l k).bs.length=R.bs.length
 | 0=>rfl
 | k+1=>by show((R.bytesTo a l k).bs.set _ _).length=_;rw[List.length_set,bytesTo_bs R a l k]
theorem wdN_set {bs:List Int} {i b:Nat} {v:Int} (h:i<b∨b+8≤i):wdN (bs.set i v) b=wdN bs b:=by
 unfold wdN
 congr 1
 apply List.ext_getElem?
 intro k
 rw[List.getElem?_take,List.getElem?_take]
 split
 ·rw[List.getElem?_drop,List.getElem?_drop,List.getElem?_set_ne (by omega)]
 ·rfl
theorem AROk.bytesTo {R:AR} (h:AROk R) {a m:Nat} {l:List Int} (hl: ∀x∈l,0≤x∧x<256) (ho:OffHead a m): ∀k,k≤m→AROk (R.bytesTo a l k)
 | 0,_=>h
 | k+1,hk=>by
  have h0:=AROk.bytesTo h hl ho k (by omega)
  refine h0.bytes (List.length_set ..) (fun x hx=> ?_) (fun t h1 h2=>wdN_set (by rcases ho t h1 with h | h<;>omega))
  rcases List.mem_or_eq_of_mem_set hx with hx | hx
  ·exact h0.byt x hx
  ·rw[hx,List.getD_eq_getElem?_getD]
   cases hc:l[k]? with
   | none=>exact⟨by decide,by decide⟩
   | some c=>exact hl c (List.mem_of_getElem? hc)
def AR.oneVal (R:AR) (key:Nat):AR:=(R.newValue.1.put R.newValue.2 (numL key).length).bytesTo (R.newValue.2+8) (numL key) (numL key).length
def AR.vals (R:AR) (keys:List Nat):Nat→AR×List (Int×Int)
 | 0=>(R,[])
 | i+1=>((AR.vals R keys i).1.oneVal (keys.getD i 0),(AR.vals R keys i).2++[((keys.getD i 0:Int),((AR.vals R keys i).1.newValue.2:Int))])
def AR.valsRoomy (R:AR) (keys:List Nat) (n:Nat):Prop:= ∀i,i<n→(R.vals keys i).1.newValue.2≠0
theorem oneVal_ok {R:AR} (h:AROk R) {key:Nat} (hk:key<18446744073709551616) (hne:R.newValue.2≠0):AROk (R.oneVal key)∧(R.oneVal key).bs.length=R.bs.length∧R.newValue.2+64≤R.bs.length:=by
 obtain⟨s,j,e1,e0,e2,e3⟩:=newValue_at h hne
 have hok:=h.newValue
 have hlen:=hok.len
 have hbs:=newValue_len h
 have h20:=numL_20 hk
 have ha:R.newValue.2+64≤R.newValue.1.bs.length:=by omega
 have hp:AROk (R.newValue.1.put R.newValue.2 (numL key).length):=hok.put_in (by omega) (offHead_in (s:=s) (by omega) (by omega))
 refine⟨hp.bytesTo (m:=20) (numL_in key) (offHead_in (s:=s) (by omega) (by omega)) _ h20,?_,by omega⟩
 unfold AR.oneVal
 rw[bytesTo_bs]
 show(putW _ _ _).length=_
 rw[putW_len _ (by omega),hbs]
theorem vals_ok {R:AR} (h:AROk R) {keys:List Nat} (hk: ∀x∈keys,x<18446744073709551616): ∀i,R.valsRoomy keys i→AROk (R.vals keys i).1∧(R.vals keys i).1.bs.length=R.bs.length∧(R.vals keys i).2.length=i
 | 0,_=>⟨h,rfl,rfl⟩
 | i+1,hr=>by
  obtain⟨h1,h2,h3⟩:=vals_ok h hk i (fun j hj=>hr j (by omega))
  have hkk:keys.getD i 0<18446744073709551616:=by
   rw[List.getD_eq_getElem?_getD]
   cases hc:keys[i]? with
   | none=>exact(by decide:(0:Nat)<18446744073709551616)
   | some c=>exact hk c (List.mem_of_getElem? hc)
  obtain⟨q1,q2,_⟩:=oneVal_ok h1 hkk (hr i (by omega))
  exact⟨q1,q2.trans h2,by show((R.vals keys i).2++[_]).length=_;rw[List.length_append,h3];rfl⟩
theorem vals_u64 {R:AR} (h:AROk R) (hbig:R.bs.length≤1000000) {keys:List Nat} (hk: ∀x∈keys,x<18446744073709551616): ∀i,R.valsRoomy keys i→ ∀x∈(R.vals keys i).2,U64 x.1∧U64 x.2
 | 0,_,x,hx=>by cases hx
 | i+1,hr,x,hx=>by
  obtain⟨h1,h2,h3⟩:=vals_ok h hk i (fun j hj=>hr j (by omega))
  have hkk:keys.getD i 0<18446744073709551616:=by
   rw[List.getD_eq_getElem?_getD]
   cases hc:keys[i]? with
   | none=>exact(by decide:(0:Nat)<18446744073709551616)
   | some c=>exact hk c (List.mem_of_getElem? hc)
  obtain⟨_,_,q3⟩:=oneVal_ok h1 hkk (hr i (by omega))
  rcases List.mem_append.1 (show x∈(R.vals keys i).2++[_] from hx) with hx | hx
  ·exact vals_u64 h hbig hk i (fun j hj=>hr j (by omega)) x hx
  ·rw[List.mem_singleton.1 hx]
   show U64 ((keys.getD i 0:Nat):Int)∧U64 (((R.vals keys i).1.newValue.2:Nat):Int)
   unfold U64
   refine⟨⟨by omega,by omega⟩,⟨by omega,by omega⟩⟩
def upsOf (lag:Nat) (row:List (Nat×NodeA)):List (Int×Int):=(row.take (max 1 (row.length-lag))).map fun x=>(x.2.low,(x.1:Int))
def AR.lvls (R:AR) (per lag:Nat) (l:List (Int×Int)):Nat→AR×List (List (Nat×NodeA))×List (Int×Int)
 | 0=>(R,[],l)
 | k+1=>((AR.lvls R per lag l k).1.level k per (AR.lvls R per lag l k).2.2,(AR.lvls R per lag l k).2.1++[(AR.lvls R per lag l k).1.levelRow k per (AR.lvls R per lag l k).2.2],
    upsOf lag ((AR.lvls R per lag l k).1.levelRow k per (AR.lvls R per lag l k).2.2))
def AR.lvRoom (R:AR) (per lag:Nat) (l:List (Int×Int)) (k:Nat):Prop:=(R.lvls per lag l k).1.roomy k per (R.lvls per lag l k).2.2 (nRounds per (R.lvls per lag l k).2.2)
def AR.lvStop (R:AR) (per lag:Nat) (l:List (Int×Int)) (k:Nat):Prop:=((R.lvls per lag l k).1.levelRow k per (R.lvls per lag l k).2.2).length=1∨k=15∨(R.lvls per lag l (k+1)).2.2.length=1
theorem lvls_len (R:AR) (per lag:Nat) (l:List (Int×Int)): ∀k,(R.lvls per lag l k).2.1.length=k
 | 0=>rfl
 | k+1=>by show((R.lvls per lag l k).2.1++[_]).length=_;rw[List.length_append,lvls_len R per lag l k];rfl
theorem nRounds_le {per:Nat} (hp:2≤per) (l:List (Int×Int)):nRounds per l≤max 1 l.length:=by
 unfold nRounds
 have:(l.length+per-1)/per≤max 1 l.length:=by
  rw[Nat.div_le_iff_le_mul_add_pred (by omega)]
  have h1:per*max 1 l.length≥l.length:=by
   have:1*l.length≤per*max 1 l.length:=Nat.mul_le_mul (by omega) (by omega)
   omega
  omega
 omega
theorem upsOf_len (lag:Nat) (row:List (Nat×NodeA)) (h:row≠[]):(upsOf lag row).length≤row.length∧upsOf lag row≠[]:=by
 have hr:0<row.length:=List.length_pos_iff.2 h
 have hl:(upsOf lag row).length=min (max 1 (row.length-lag)) row.length:=by unfold upsOf;rw[List.length_map,List.length_take]
 refine⟨by omega,fun e=> ?_⟩
 rw[e] at hl
 simp at hl
 omega
theorem lvls_inv {R:AR} {per lag:Nat} {l:List (Int×Int)} (hok:AROk R) (hbig:R.bs.length≤1000000) (hp:2≤per) (hl:l.length≤1000) (hk: ∀x∈l,U64 x.1∧U64 x.2): ∀k,k≤16→(∀j,j<k→R.lvRoom per lag l j)→
  AROk (R.lvls per lag l k).1∧(R.lvls per lag l k).1.bs.length=R.bs.length∧(R.lvls per lag l k).2.2.length≤1000∧(k≠0→(R.lvls per lag l k).2.2≠[])∧(∀x∈(R.lvls per lag l k).2.2,U64 x.1∧U64 x.2)∧
   (∀r∈(R.lvls per lag l k).2.1,r≠[]∧r.length≤1000∧ ∀x∈r,x.1+192≤R.bs.length∧OffHead x.1 192∧0<x.1)
 | 0,_,_=>⟨hok,rfl,hl,fun h=>absurd rfl h,hk,fun r hr=>by cases hr⟩
 | k+1,h16,hr=>by
  obtain⟨q1,q2,q3,q4,q5,q6⟩:=lvls_inv hok hbig hp hl hk k (by omega) (fun j hj=>hr j (by omega))
  have hroom:=hr k (by omega)
  unfold AR.lvRoom at hroom
  show AROk ((R.lvls per lag l k).1.level k per (R.lvls per lag l k).2.2)∧((R.lvls per lag l k).1.level k per (R.lvls per lag l k).2.2).bs.length=R.bs.length∧(upsOf lag ((R.lvls per lag l k).1.levelRow k per (R.lvls per lag l k).2.2)).length≤1000∧(k+1≠0→upsOf lag ((R.lvls per lag l k).1.levelRow k per (R.lvls per lag l k).2.2)≠[])∧(∀x∈upsOf lag ((R.lvls per lag l k).1.levelRow k per (R.lvls per lag l k).2.2),U64 x.1∧U64 x.2)∧
   (∀r∈(R.lvls per lag l k).2.1++[(R.lvls per lag l k).1.levelRow k per (R.lvls per lag l k).2.2],r≠[]∧r.length≤1000∧ ∀x∈r,x.1+192≤R.bs.length∧OffHead x.1 192∧0<x.1)
  generalize(R.lvls per lag l k).1=Q at*
  generalize(R.lvls per lag l k).2.2=ll at*
  generalize(R.lvls per lag l k).2.1=rr at*
  obtain⟨p1,p2⟩:=q1.level hroom
  obtain⟨p3,p4⟩:=levelRow_in q1 hroom
  have p5:=levelRow_nd q1 (by rw[q2];exact hbig) (by omega) q5 hroom
  have p6:=nRounds_le hp ll
  have p7:1≤nRounds per ll:=by unfold nRounds;omega
  have hne:Q.levelRow k per ll≠[]:=by intro e;rw[e] at p3;simp at p3;omega
  have hu:=upsOf_len lag _ hne
  refine⟨p1,p2.trans q2,by omega,fun _=>hu.2,fun x hx=> ?_,fun r hr2=> ?_⟩
  ·unfold upsOf at hx
   obtain⟨y,hy,rfl⟩:=List.mem_map.1 hx
   have hy2:=List.mem_of_mem_take hy
   refine⟨(p5 y hy2).low,?_⟩
   have:=(p4 y hy2).1
   rw[q2] at this
   show U64 (y.1:Int)
   unfold U64
   constructor<;>omega
  ·rcases List.mem_append.1 hr2 with h | h
   ·exact q6 r h
   ·rw[List.mem_singleton.1 h]
    exact⟨hne,by omega,fun x hx=>by have:=p4 x hx;rw[q2] at this;exact this⟩
def AR.new (slabs:Nat):AR:=((({ bs:=List.replicate (1024*(slabs+1)) 0,slabs:=slabs,used:=0,value:=0,values:=0,node:=0,nodes:=0 }:AR).put 0 5929342154728227142).put 8 (1024*(slabs+1))).put 24 (18446744073709551615-1024*(slabs+1))
theorem wdN_zero (m a:Nat):wdN (List.replicate m 0) a=0:=by
 unfold wdN
 rw[List.drop_replicate,List.take_replicate]
 generalize min 8 (m-a)=k
 induction k with
 | zero=>rfl
 | succ k ih=>rw[List.replicate_succ];simp[leW,ih]
theorem new_ok {slabs:Nat} (h1:1≤slabs) (h:slabs≤64):AROk (AR.new slabs)∧(AR.new slabs).bs.length=1024*(slabs+1):=by
 have h0:AROk { bs:=List.replicate (1024*(slabs+1)) 0,slabs:=slabs,used:=0,value:=0,values:=0,node:=0,nodes:=0 }:=
  ⟨List.length_replicate,h,Nat.zero_le _,Nat.le_refl _,Nat.le_refl _,Nat.zero_le _,Nat.zero_le _,fun x hx=>by rw[List.eq_of_mem_replicate hx];exact⟨by decide,by decide⟩,fun s _ _=>wdN_zero _ _,fun h=>absurd rfl h,fun h=>absurd rfl h,fun h=>absurd rfl h⟩
 unfold AR.new
 generalize hR0:({ bs:=List.replicate (1024*(slabs+1)) 0,slabs:=slabs,used:=0,value:=0,values:=0,node:=0,nodes:=0 }:AR)=R0 at h0 ⊢
 have l0:R0.bs.length=1024*(slabs+1):=by rw[←hR0];exact List.length_replicate
 have p1:=h0.put_in (a:=0) (x:=5929342154728227142) (by omega) (offHead_low (by omega))
 have l1:(R0.put 0 5929342154728227142).bs.length=1024*(slabs+1):=(putW_len _ (by omega)).trans l0
 generalize R0.put 0 5929342154728227142=R1 at p1 l1 ⊢
 have p2:=p1.put_in (a:=8) (x:=1024*(slabs+1)) (by omega) (offHead_low (by omega))
 have l2:(R1.put 8 (1024*(slabs+1))).bs.length=1024*(slabs+1):=(putW_len _ (by omega)).trans l1
 generalize R1.put 8 (1024*(slabs+1))=R2 at p2 l2 ⊢
 have p3:=p2.put_in (a:=24) (x:=18446744073709551615-1024*(slabs+1)) (by omega) (offHead_low (by omega))
 exact⟨p3,(putW_len _ (by omega)).trans l2⟩
def BuildOK (slabs:Nat) (keys:List Nat) (per lag:Nat) (R:AR) (rows:List (List (Nat×NodeA))):Prop:=
 (AR.new slabs).valsRoomy keys keys.length∧ ∃K,(∀k,k≤K→((AR.new slabs).vals keys keys.length).1.lvRoom per lag ((AR.new slabs).vals keys keys.length).2 k)∧(∀k,k<K→ ¬((AR.new slabs).vals keys keys.length).1.lvStop per lag ((AR.new slabs).vals keys keys.length).2 k)∧
  ((AR.new slabs).vals keys keys.length).1.lvStop per lag ((AR.new slabs).vals keys keys.length).2 K∧
  rows=(((AR.new slabs).vals keys keys.length).1.lvls per lag ((AR.new slabs).vals keys keys.length).2 (K+1)).2.1∧
  R=(((AR.new slabs).vals keys keys.length).1.lvls per lag ((AR.new slabs).vals keys keys.length).2 (K+1)).1.put 16 ((rows.getD K []).getD 0 (0,zeroN)).1
end Go.Proofs.YtjmaicckkkdjpaaGreat
/- What Build lays, plainly: where values stand, and what stands there. -/
namespace Go.Proofs.YtjmaicckkkdjpaaGreat
open Go.RowKit
def slB (bs:List Int) (a m:Nat):List Int:=(bs.drop a).take m
theorem slB_eq {bs bs':List Int} {a m:Nat} (h: ∀i,a≤i→i<a+m→bs'[i]?=bs[i]?):slB bs' a m=slB bs a m:=by
 unfold slB
 apply List.ext_getElem?
 intro j
 rw[List.getElem?_take,List.getElem?_take]
 by_cases hj:j<m
 ·rw[if_pos hj,if_pos hj,List.getElem?_drop,List.getElem?_drop,h _ (by omega) (by omega)]
 ·rw[if_neg hj,if_neg hj]
theorem slB_putW {bs:List Int} {a x b m:Nat} (h:a+8≤bs.length) (hd:b+m≤a∨a+8≤b):slB (putW bs a x) b m=slB bs b m:=
 slB_eq fun i h1 h2=>by
  rw[putW_get h]
  rcases hd with hd | hd
  ·rw[if_pos (by omega)]
  ·rw[if_neg (by omega),if_neg (by omega)]
theorem wdN_slB (bs:List Int) (a:Nat):wdN bs a=leW (slB bs a 8):=rfl
theorem bytesTo_get {R:AR} {a:Nat} {l:List Int}: ∀{k i:Nat},i<R.bs.length→(R.bytesTo a l k).bs[i]?=if a≤i∧i<a+k then some (l.getD (i-a) 0) else R.bs[i]?
 | 0,i,hi=>by rw[if_neg (by omega)];rfl
 | k+1,i,hi=>by
  show((R.bytesTo a l k).bs.set (a+k) (l.getD k 0))[i]?=_
  rw[List.getElem?_set,bytesTo_bs,bytesTo_get hi]
  by_cases h:a+k=i
  ·subst h
   rw[if_pos rfl,if_pos hi,if_pos (by omega),Nat.add_sub_cancel_left]
  ·rw[if_neg h]
   by_cases h2:a≤i∧i<a+k
   ·rw[if_pos h2,if_pos (by omega)]
   ·rw[if_neg h2,if_neg (by omega)]
def vA (i:Nat):Nat:=1024*(1+i/15)+64+64*(i % 15)
def valT (d:List Int):List Int:=(List.range 8).map (byteN d.length)++(d++List.replicate (56-d.length) 0)
abbrev valB (key:Nat):List Int:=valT (numL key)
def TopOK (bs:List Int) (slabs:Nat):Prop:=
 wdN bs 0=5929342154728227142∧wdN bs 8=((1024*(slabs+1):Nat):Int)∧wdN bs 24=((18446744073709551615-1024*(slabs+1):Nat):Int)∧wdN bs 32=0∧wdN bs 40=0∧wdN bs 48=0∧wdN bs 56=0
def vct (i s:Nat):Nat:=min 15 (i-15*(s-1))
structure VSt (slabs:Nat) (keys:List Nat) (i:Nat) (R:AR):Prop where
 ok:AROk R
 sl:R.slabs=slabs
 used:R.used=(i+14)/15
 v0:i=0→R.value=0
 v1:i≠0→R.value=(i+14)/15∧R.values+15*((i+14)/15-1)=i
 nod:R.node=0
 top:TopOK R.bs slabs
 hc: ∀s,1≤s→s≤slabs→wdN R.bs (1024*s)=if s≤(i+14)/15 then 1 else 0
 hb: ∀s,1≤s→s≤slabs→wdN R.bs (1024*s+8)=2^vct i s-1
 vs: ∀j,j<i→slB R.bs (vA j) 64=valB (keys.getD j 0)
 zs: ∀j,i≤j→j<15*slabs→slB R.bs (vA j) 64=List.replicate 64 0
theorem put_bs (R:AR) (a x:Nat):(R.put a x).bs=putW R.bs a x:=rfl
theorem slB_zero (m a k:Nat) (h:a+k≤m):slB (List.replicate m 0) a k=List.replicate k 0:=by
 unfold slB
 rw[List.drop_replicate,List.take_replicate]
 congr 1
 omega
theorem VSt.new {slabs:Nat} (keys:List Nat) (h1:1≤slabs) (h64:slabs≤64):VSt slabs keys 0 (AR.new slabs):=by
 obtain⟨ok,ln⟩:=new_ok h1 h64
 have hb:(AR.new slabs).bs=putW (putW (putW (List.replicate (1024*(slabs+1)) 0) 0 5929342154728227142) 8 (1024*(slabs+1))) 24 (18446744073709551615-1024*(slabs+1)):=rfl
 have l0:(List.replicate (1024*(slabs+1)) (0:Int)).length=1024*(slabs+1):=List.length_replicate
 have l1:(putW (List.replicate (1024*(slabs+1)) 0) 0 5929342154728227142).length=1024*(slabs+1):=(putW_len _ (by omega)).trans l0
 have l2:(putW (putW (List.replicate (1024*(slabs+1)) 0) 0 5929342154728227142) 8 (1024*(slabs+1))).length=1024*(slabs+1):=(putW_len _ (by omega)).trans l1
 have far: ∀a m,64≤a→slB (AR.new slabs).bs a m=slB (List.replicate (1024*(slabs+1)) 0) a m:=fun a m ha=>by
  rw[hb,slB_putW (by omega) (by omega),slB_putW (by omega) (by omega),slB_putW (by omega) (by omega)]
 have hz: ∀a,64≤a→wdN (AR.new slabs).bs a=0:=fun a ha=>by rw[wdN_slB,far a 8 ha,←wdN_slB,wdN_zero]
 have hz2: ∀a,32≤a→a+8≤64→wdN (AR.new slabs).bs a=0:=fun a ha hb2=>by
  rw[hb,wdN_other (by omega) (by omega),wdN_other (by omega) (by omega),wdN_other (by omega) (by omega),wdN_zero]
 refine⟨ok,rfl,rfl,fun _=>rfl,fun h=>absurd rfl h,rfl,⟨?_,?_,?_,hz2 32 (by omega) (by omega),hz2 40 (by omega) (by omega),hz2 48 (by omega) (by omega),hz2 56 (by omega) (by omega)⟩,fun s s1 s2=> ?_,fun s s1 s2=> ?_,fun j hj=>absurd hj (Nat.not_lt_zero _),fun j _ hj=> ?_⟩
 ·rw[hb,wdN_other (by omega) (by omega),wdN_other (by omega) (by omega),wdN_same (by omega) (by omega)];rfl
 ·rw[hb,wdN_other (by omega) (by omega),wdN_same (by omega) (by omega)]
 ·rw[hb,wdN_same (by omega) (by omega)]
 ·rw[hz _ (by omega),if_neg (by omega)]
 ·rw[hz _ (by omega)];unfold vct;rw[Nat.zero_sub];rfl
 ·have:vA j+64≤1024*(slabs+1):=by unfold vA;omega
  rw[far _ _ (by unfold vA;omega),slB_zero _ _ _ this]
theorem vA_in {i slabs:Nat} (h:i<15*slabs):1024*(1+i/15)+64≤vA i∧vA i+64≤1024*(1+i/15)+1024∧1+i/15≤slabs:=by unfold vA;omega
theorem vA_apart {i j:Nat} (h:i≠j):vA i+64≤vA j∨vA j+64≤vA i:=by unfold vA;omega
theorem VSt.value {slabs:Nat} {keys:List Nat} {i:Nat} {R:AR} (h:VSt slabs keys i R) (hr:R.newValue.2≠0):
  i<15*slabs∧R.newValue.2=vA i∧R.newValue.1.slabs=slabs∧R.newValue.1.used=(i+1+14)/15∧R.newValue.1.value=(i+1+14)/15∧R.newValue.1.values+15*((i+1+14)/15-1)=i+1∧R.newValue.1.node=0∧
   (∀a m,(∀s,1≤s→a+m≤1024*s∨1024*s+16≤a)→slB R.newValue.1.bs a m=slB R.bs a m)∧
   (∀s,1≤s→s≤slabs→wdN R.newValue.1.bs (1024*s)=if s≤(i+1+14)/15 then 1 else 0)∧
   (∀s,1≤s→s≤slabs→wdN R.newValue.1.bs (1024*s+8)=2^vct (i+1) s-1):=by
 have hL:=h.ok.len
 have hsl:=h.sl
 rw[hsl] at hL
 have hus:=h.ok.us
 obtain⟨Q,hQ⟩: ∃Q,Q=R.newValue0:=⟨_,rfl⟩
 have hne:Q.value≠0:=by
  intro e
  apply hr
  unfold AR.newValue
  rw[←hQ,if_pos e]
 have key:Q.value=i/15+1∧Q.values=i % 15∧Q.used=i/15+1∧Q.slabs=slabs∧Q.node=0∧i/15+1≤slabs∧Q.bs.length=R.bs.length∧
   (∀a m,(∀s,1≤s→a+m≤1024*s∨1024*s+16≤a)→slB Q.bs a m=slB R.bs a m)∧(∀s,1≤s→s≤slabs→wdN Q.bs (1024*s)=if s≤i/15+1 then 1 else 0)∧(∀s,1≤s→s≤slabs→wdN Q.bs (1024*s+8)=2^vct i s-1):=by
  by_cases h0:i % 15=0
  ·have hcond:R.value=0∨R.values=15:=by
    by_cases hi:i=0
    ·exact Or.inl (h.v0 hi)
    ·have:=(h.v1 hi).2;right;omega
   have hu:R.used=i/15:=by have:=h.used;omega
   unfold AR.newValue0 at hQ
   rw[if_pos hcond] at hQ
   by_cases hfull:R.used=R.slabs
   ·exfalso
    apply hne
    rw[hQ]
    unfold AR.slab
    rw[if_pos hfull]
   ·unfold AR.slab at hQ
    rw[if_neg hfull] at hQ
    have hbs:Q.bs=putW R.bs (1024*(i/15+1)) 1:=by rw[hQ,←hu]
    have hlt:i/15+1≤slabs:=by omega
    refine⟨by rw[hQ,←hu],by rw[hQ,h0],by rw[hQ,←hu],by rw[hQ];exact hsl,by rw[hQ];exact h.nod,hlt,by rw[hbs,putW_len _ (by omega)],fun a m hd=> ?_,fun s s1 s2=> ?_,fun s s1 s2=> ?_⟩
    ·rw[hbs,slB_putW (by omega) (by have:=hd (i/15+1) (by omega);omega)]
    ·rw[hbs]
     by_cases e:s=i/15+1
     ·subst e
      rw[wdN_same (by omega) (by omega),if_pos (Nat.le_refl _)];rfl
     ·rw[wdN_other (by omega) (by omega),h.hc s s1 s2]
      by_cases q:s≤i/15
      ·rw[if_pos (by omega),if_pos (by omega)]
      ·rw[if_neg (by omega),if_neg (by omega)]
    ·rw[hbs,wdN_other (by omega) (by omega),h.hb s s1 s2]
  ·have hi:i≠0:=by omega
   obtain⟨q1,q2⟩:=h.v1 hi
   have hcond: ¬(R.value=0∨R.values=15):=by omega
   unfold AR.newValue0 at hQ
   rw[if_neg hcond] at hQ
   subst hQ
   have hu:=h.used
   refine⟨by omega,by omega,by omega,hsl,h.nod,by omega,rfl,fun _ _ _=>rfl,fun s s1 s2=> ?_,h.hb⟩
   rw[h.hc s s1 s2]
   by_cases q:s≤i/15+1
   ·rw[if_pos (by omega),if_pos q]
   ·rw[if_neg (by omega),if_neg q]
 obtain⟨q1,q2,q3,q4,q5,q6,q7,q8,q9,q10⟩:=key
 have hnv:R.newValue=({ Q.taken Q.value Q.values with values:=Q.values+1 },1024*Q.value+64*(Q.values+1)):=by
  unfold AR.newValue
  rw[←hQ,if_neg hne]
 rw[hnv]
 have hbit:(wdN Q.bs (1024*(i/15+1)+8)).toNat+2^ (i % 15)=2^ (i % 15+1)-1:=by
  rw[q10 _ (by omega) q6]
  have:vct i (i/15+1)=i % 15:=by unfold vct;omega
  rw[this]
  have h2:(1:Nat)≤2^ (i % 15):=Nat.one_le_two_pow
  have h3:((2:Int)^ (i % 15)-1).toNat=2^ (i % 15)-1:=by
   have:((2:Int)^ (i % 15))=((2^ (i % 15):Nat):Int):=by norm_cast
   rw[this];omega
  rw[h3,Nat.pow_succ];omega
 have hbs:(Q.taken Q.value Q.values).bs=putW Q.bs (1024*(i/15+1)+8) (2^ (i % 15+1)-1):=by
  show putW _ _ _=_
  rw[q1,q2,hbit]
 have hin:1024*(i/15+1)+8+8≤Q.bs.length:=by rw[q7,hL];omega
 have h15:(2:Nat)^ (i % 15+1)≤32768:=pow_small (by omega)
 refine⟨by omega,?_,q4,?_,?_,?_,q5,fun a m hd=> ?_,fun s s1 s2=> ?_,fun s s1 s2=> ?_⟩
 ·show 1024*Q.value+64*(Q.values+1)=_
  rw[q1,q2];unfold vA;omega
 ·show Q.used=_
  rw[q3];omega
 ·show Q.value=_
  rw[q1];omega
 ·show Q.values+1+_=_
  rw[q2];omega
 ·show slB (Q.taken Q.value Q.values).bs a m=_
  rw[hbs,slB_putW hin (by have:=hd (i/15+1) (by omega);omega)]
  exact q8 a m hd
 ·show wdN (Q.taken Q.value Q.values).bs _=_
  rw[hbs,wdN_other hin (by omega),q9 s s1 s2]
  by_cases q:s≤i/15+1
  ·rw[if_pos q,if_pos (by omega)]
  ·rw[if_neg q,if_neg (by omega)]
 ·show wdN (Q.taken Q.value Q.values).bs _=_
  rw[hbs]
  by_cases e:s=i/15+1
  ·subst e
   rw[wdN_same hin (by omega)]
   have:vct (i+1) (i/15+1)=i % 15+1:=by unfold vct;omega
   rw[this]
   have h2:(1:Nat)≤2^ (i % 15+1):=Nat.one_le_two_pow
   rw[Int.natCast_sub h2];norm_cast
  ·rw[wdN_other hin (by omega),q10 s s1 s2]
   have:vct (i+1) s=vct i s:=by unfold vct;omega
   rw[this]
theorem VSt.one {slabs:Nat} {keys:List Nat} {i:Nat} {R:AR} (h:VSt slabs keys i R) (hk:keys.getD i 0<18446744073709551616) (hr:R.newValue.2≠0):VSt slabs keys (i+1) (R.oneVal (keys.getD i 0))∧R.newValue.2=vA i:=by
 obtain⟨a1,a2,a3,a4,a5,a6,a7,a8,a9,a10⟩:=h.value hr
 obtain⟨ok,ln,_⟩:=oneVal_ok h.ok hk hr
 have hL:R.newValue.1.bs.length=1024*(slabs+1):=by rw[newValue_len h.ok,h.ok.len,h.sl]
 have h20:=numL_20 hk
 obtain⟨d,hd⟩: ∃d,d=numL (keys.getD i 0):=⟨_,rfl⟩
 rw[←hd] at h20
 have hva:=vA_in a1
 have hbs: ∀x,x<1024*(slabs+1)→(R.oneVal (keys.getD i 0)).bs[x]?=if vA i+8≤x∧x<vA i+8+d.length then some (d.getD (x- (vA i+8)) 0) else(putW R.newValue.1.bs (vA i) d.length)[x]?:=by
  intro x hx
  unfold AR.oneVal
  rw[bytesTo_get (by rw[put_bs,putW_len _ (by rw[a2,hL];omega),hL];exact hx),←hd,a2]
  rfl
 have far: ∀a m,a+m≤1024*(slabs+1)→(a+m≤vA i∨vA i+64≤a)→slB (R.oneVal (keys.getD i 0)).bs a m=slB R.newValue.1.bs a m:=fun a m hm hd2=>by
  have e1:slB (R.oneVal (keys.getD i 0)).bs a m=slB (putW R.newValue.1.bs (vA i) d.length) a m:=slB_eq fun x x1 x2=>by
   rw[hbs x (by omega),if_neg (by omega)]
  rw[e1,slB_putW (by rw[hL];omega) (by omega)]
 have sk: ∀j,j<15*slabs→ ∀s,1≤s→vA j+64≤1024*s∨1024*s+16≤vA j:=fun j hj s hs=>by unfold vA;omega
 have hdr: ∀s m,1≤s→m≤16→1024*s+m≤vA i∨vA i+64≤1024*s:=fun s m hs hm=>by unfold vA;omega
 refine⟨⟨ok,?_,?_,fun h=>by omega,fun _=>⟨?_,?_⟩,?_,?_,fun s s1 s2=> ?_,fun s s1 s2=> ?_,fun j hj=> ?_,fun j j1 j2=> ?_⟩,a2⟩
 ·have: ∀(R:AR) a l k,(R.bytesTo a l k).slabs=R.slabs:=fun R a l k=>by induction k with | zero=>rfl | succ k ih=>exact ih
  unfold AR.oneVal;rw[this];exact a3
 ·have: ∀(R:AR) a l k,(R.bytesTo a l k).used=R.used:=fun R a l k=>by induction k with | zero=>rfl | succ k ih=>exact ih
  unfold AR.oneVal;rw[this];exact a4
 ·have: ∀(R:AR) a l k,(R.bytesTo a l k).value=R.value:=fun R a l k=>by induction k with | zero=>rfl | succ k ih=>exact ih
  unfold AR.oneVal;rw[this];exact a5
 ·have: ∀(R:AR) a l k,(R.bytesTo a l k).values=R.values:=fun R a l k=>by induction k with | zero=>rfl | succ k ih=>exact ih
  unfold AR.oneVal;rw[this];exact a6
 ·have: ∀(R:AR) a l k,(R.bytesTo a l k).node=R.node:=fun R a l k=>by induction k with | zero=>rfl | succ k ih=>exact ih
  unfold AR.oneVal;rw[this];exact a7
 ·have e: ∀a,a+8≤64→wdN (R.oneVal (keys.getD i 0)).bs a=wdN R.bs a:=fun a ha=>by
   rw[wdN_slB,far a 8 (by omega) (by omega),a8 a 8 (fun s hs=>by omega),←wdN_slB]
  obtain⟨t0,t1,t2,t3,t4,t5,t6⟩:=h.top
  refine⟨?_,?_,?_,?_,?_,?_,?_⟩<;>rw[e _ (by omega)]<;>assumption
 ·rw[wdN_slB,far _ _ (by omega) (by have:=hdr s 8 s1 (by omega);omega),←wdN_slB];exact a9 s s1 s2
 ·rw[wdN_slB,far _ _ (by omega) (by have:=hdr s 16 s1 (by omega);omega),←wdN_slB];exact a10 s s1 s2
 ·by_cases e:j=i
  ·subst e
   have hz:=h.zs j (Nat.le_refl _) a1
   have hz2:=a8 (vA j) 64 (sk j a1)
   rw[hz] at hz2
   unfold valB valT
   rw[←hd]
   unfold slB at hz2 ⊢
   apply List.ext_getElem?
   intro x
   rw[List.getElem?_take]
   by_cases hx:x<64
   ·rw[if_pos hx,List.getElem?_drop,hbs _ (by omega)]
    have hz3:R.newValue.1.bs[vA j+x]?=some 0:=by
     have:=congrArg (fun l:List Int=>l[x]?) hz2
     simp only[List.getElem?_take,if_pos hx,List.getElem?_drop] at this
     rw[this,List.getElem?_replicate,if_pos hx]
    by_cases h8:x<8
    ·rw[if_neg (by omega),putW_get (by rw[hL];omega),if_neg (by omega),if_pos (by omega),Nat.add_sub_cancel_left,List.getElem?_append_left (by simp;omega),List.getElem?_map,List.getElem?_range h8];rfl
    ·rw[List.getElem?_append_right (by simp;omega)]
     have el:((List.range 8).map (byteN d.length)).length=8:=by simp
     rw[el]
     by_cases hx2:x<8+d.length
     ·rw[if_pos (by omega),List.getElem?_append_left (by omega),List.getD_eq_getElem?_getD,show vA j+x- (vA j+8)=x-8 by omega,List.getElem?_eq_getElem (by omega)];rfl
     ·rw[if_neg (by omega),putW_get (by rw[hL];omega),if_neg (by omega),if_neg (by omega),hz3,List.getElem?_append_right (by omega),List.getElem?_replicate,if_pos (by omega)]
   ·rw[if_neg hx,List.getElem?_eq_none (by simp;omega)]
  ·have hj2:j<15*slabs:=by omega
   have hvj:=vA_in hj2
   rw[far _ _ (by omega) (by have:=vA_apart e;omega),a8 _ _ (sk j hj2)]
   exact h.vs j (by omega)
 ·have hvj:=vA_in j2
  rw[far _ _ (by omega) (by have:=vA_apart (show j≠i by omega);omega),a8 _ _ (sk j j2)]
  exact h.zs j (by omega) j2
theorem vals_st {slabs:Nat} {keys:List Nat} (h1:1≤slabs) (h64:slabs≤64) (hk: ∀x∈keys,x<18446744073709551616): ∀i,i≤keys.length→(AR.new slabs).valsRoomy keys i→VSt slabs keys i ((AR.new slabs).vals keys i).1∧((AR.new slabs).vals keys i).2=(List.range i).map fun j=>((keys.getD j 0:Int),(vA j:Int))
 | 0,_,_=>⟨VSt.new keys h1 h64,rfl⟩
 | i+1,hi,hr=>by
  obtain⟨p1,p2⟩:=vals_st h1 h64 hk i (by omega) (fun j hj=>hr j (by omega))
  have hkk:keys.getD i 0<18446744073709551616:=by
   rw[List.getD_eq_getElem?_getD,List.getElem?_eq_getElem (by omega)]
   exact hk _ (List.getElem_mem _)
  obtain⟨p3,p4⟩:=p1.one hkk (hr i (by omega))
  refine⟨p3,?_⟩
  show((AR.new slabs).vals keys i).2++[_]=_
  rw[p2,List.range_succ,List.map_append,p4];rfl
end Go.Proofs.YtjmaicckkkdjpaaGreat
