import Derived.Test.YtibiekfjbibpbaaGreatArnH
import Derived.Deep.OwnRows
set_option maxRecDepth 100000
set_option maxHeartbeats 1000000
set_option linter.unusedVariables false
set_option linter.unusedSimpArgs false
namespace Go.Proofs.YtibiekfjbibpbaaGreat
open Go.RowKit
theorem v0n (n:Nat):madeCells #[Value.int .u8 0] n=byC (List.replicate n 0):=by apply DV;rw[toList_madeCells_one];simp[byC]
theorem v1h (n:Nat) (hn:n<=1000000) (w:World):(Instr.makeSlice 36 (.int .i64 (n:Int)) (.int .i64 (n:Int))).run Tryz.prog w= .ok (.slice (some ⟨w.heap.size,0,none⟩) n n) (w.alloc (.cells (byC (List.replicate n 0)) 5)):=by have:=run_make_row' (P:=Tryz.prog) 36 5 (.int .u8 0) 1 Tryz.underlying36 (by kernel_rfl) rfl .i64 .i64 n (by omega) (by omega) w;rw[v0n] at this;exact this
def q3b (a m:Nat):Prop:= ∀t,1<=t->a+m<=1024*t+8\/1024*t+16<=a
theorem z0h {a m s:Nat} (h1:1024*s+64<=a) (h2:a+m<=1024*(s+1)):q3b a m:=by
 intro t _;rcases Cc s t with h|h;·left;omega
 ·right;omega
theorem q8t {a m:Nat} (h:a+m<=1024):q3b a m:=fun t ht=>Or.inl (by omega)
theorem AROk.bytes {R:AR} (h:AROk R) {bs:List Int} (hl:bs.length=R.bs.length) (hb:∀x∈bs,0<=x/\x<256) (hw:∀t,1<=t->t<=R.slabs->wdN bs (1024*t+8)=wdN R.bs (1024*t+8)):AROk { R with bs:=bs }:=by
 refine⟨hl.trans h.len,h.s64,h.us,h.val,h.nod,h.vs,h.ns,hb,fun s h1 h2=> ?_,fun hn=> ?_,fun hn=> ?_,h.two⟩;·have L:R.used<s:=h1;exact(hw s (by omega) h2).trans (h.fresh s h1 h2)
 ·have I:R.value≠0:=hn;exact(hw R.value (by omega) (AH h.val h.us)).trans (h.hv hn)
 ·have I:R.node≠0:=hn;exact(hw R.node (by omega) (AH h.nod h.us)).trans (h.hn hn)
theorem AROk.put_in {R:AR} (h:AROk R) {a x:Nat} (ha:a+8<=R.bs.length) (ho:q3b a 8):AROk (R.put a x):=h.bytes (q3n x ha) (q7z h.byt a x) (fun t h1 h2=>z2z ha (by rcases ho t h1 with h|h<;>omega))
theorem z4u {R:AR} {a:Nat} {nd:NodeA} (ha:a+192<=R.bs.length):∀i,i<=24->(R.layTo a nd i).bs.length=R.bs.length
 | 0,_=>rfl
 | i+1,hi=>by have h0:=z4u (nd:=nd) ha i (by omega);exact(q3n _ (by rw[h0];omega)).trans h0
theorem AROk.layTo {R:AR} (h:AROk R) {a:Nat} {nd:NodeA} (ha:a+192<=R.bs.length) (ho:q3b a 192):∀i,i<=24->AROk (R.layTo a nd i)
 | 0,_=>h
 | i+1,hi=>by have h0:=z4u (R:=R) (nd:=nd) ha i (by omega);exact(AROk.layTo h ha ho i (by omega)).put_in (by rw[h0];omega) (fun t ht=>by rcases ho t ht with h|h<;>omega)
theorem AROk.lay {R:AR} (h:AROk R) {a:Nat} {nd:NodeA} (ha:a+192<=R.bs.length) (ho:q3b a 192):AROk (R.lay a nd):=by unfold AR.lay;exact h.layTo ha ho 24 (AG _)
theorem v7u {R:AR} {a:Nat} {nd:NodeA} (ha:a+192<=R.bs.length):(R.lay a nd).bs.length=R.bs.length:=by unfold AR.lay;exact z4u ha 24 (AG _)
theorem z6s:∀(row:List (Nat×NodeA)) {R:AR} (h:AROk R) (hr:∀x∈row,x.1+192<=R.bs.length/\q3b x.1 192),AROk (row.foldl (fun R x=>R.lay x.1 x.2) R)/\(row.foldl (fun R x=>R.lay x.1 x.2) R).bs.length=R.bs.length
 | [],R,h,_=>⟨h,rfl⟩
 | x::r,R,h,hr=>by have hx:=hr x (Ae ..);have hb:=v7u (nd:=x.2) hx.1;have hl:=h.lay (nd:=x.2) hx.1 hx.2;rw[DT];generalize R.lay x.1 x.2=R2 at hb hl ⊢;have:=z6s r hl (fun y hy=>by rw[hb];exact hr y (AW _ hy));exact⟨this.1,this.2.trans hb⟩
theorem z0d {R:AR} (h:AROk R) {I per:Nat} {l:List (Int×Int)}:∀k,R.roomy I per l k-> ∀x∈(R.rounds I per l k).2,x.1+192<=R.bs.length/\q3b x.1 192/\0<x.1
 | 0,_,x,hx=>by cases hx
 | k+1,hr,x,hx=>by
  rcases An.1 (show x∈(R.rounds I per l k).2++[_] from hx) with hx|hx;·exact z0d h k (fun i hi=>hr i (by omega)) x hx
  ·have L:=hr k (by omega);obtain⟨s,j,e1,e0,e2,e3⟩:=z0m (h.rounds I per l k) L;have M:=(h.rounds I per l (k+1)).len;have S:=q9e h I per l (k+1);have O:s<=(R.rounds I per l (k+1)).1.slabs:=e2;rw[AF.1 hx];refine⟨by show(R.rounds I per l k).1.newNode.2+192<=_;rw[e1];omega,?_,by show 0< (R.rounds I per l k).1.newNode.2;omega⟩;show q3b (R.rounds I per l k).1.newNode.2 192;rw[e1];exact z0h (s:=s) (by omega) (by omega)
theorem z4g {row:List (Nat×NodeA)} {P:Nat->Prop} (h:∀x∈row,P x.1) (j:Nat):∀x∈q2h row j,P x.1:=by
 intro x hx;obtain⟨i,hi⟩:=Bu hx;have hl:i<row.length:=by have:=(AE.1 hi).1;rw[q1i] at this;exact this
 have hy:row[i]?=some row[i]:=AD hl;rw[q2r hy] at hi;injection hi with hi;subst hi;show P row[i].1;exact h _ (AJ hy)
theorem AROk.level {R:AR} (h:AROk R) {I per:Nat} {l:List (Int×Int)} (hr:R.roomy I per l (q1t per l)):AROk (R.level I per l)/\(R.level I per l).bs.length=R.bs.length:=by have hb:=q9e h I per l (q1t per l);have:=z6s ((q9h (R.rounds I per l (q1t per l)).2).take (q1t per l)) (h.rounds I per l (q1t per l)) (fun x hx=>by have:=z4g (P:=fun a=>a+192<=R.bs.length/\q3b a 192/\0<a) (z0d h _ hr) _ x (Ab hx);rw[hb];exact⟨this.1,this.2.1⟩);exact⟨this.1,this.2.trans hb⟩
theorem z9q {R:AR} (h:AROk R) {I per:Nat} {l:List (Int×Int)} (hr:R.roomy I per l (q1t per l)):(R.levelRow I per l).length=q1t per l/\ ∀x∈R.levelRow I per l,x.1+192<=R.bs.length/\q3b x.1 192/\0<x.1:=⟨by unfold AR.levelRow q9h;rw[q1i,q6x],z4g (P:=fun a=>a+192<=R.bs.length/\q3b a 192/\0<a) (z0d h _ hr) _⟩
theorem x0y {R:AR} (h:AROk R) (I:R.bs.length<=1000000) {L per:Nat} {l:List (Int×Int)} (hl:L<=15) (hk:∀x∈l,U64 x.1/\U64 x.2) (hr:R.roomy L per l (q1t per l)):∀x∈R.levelRow L per l,NdOK x.2:=fun x hx=>(z7f I (z3g h hl hk _ hr) _ x hx).2
def AR.bytesTo (R:AR) (a:Nat) (l:List Int):Nat->AR
 | 0=>R
 | k+1=>{ R.bytesTo a l k with bs:=(R.bytesTo a l k).bs.set (a+k) (l.getD k 0) }
theorem z3a (R:AR) (a:Nat) (l:List Int):∀k,(R.bytesTo a l k).bs.length=R.bs.length
 | 0=>rfl
 | k+1=>by show((R.bytesTo a l k).bs.set _ _).length=_;rw[CP,z3a R a l k]
theorem v6p {bs:List Int} {i b:Nat} {v:Int} (h:i<b\/b+8<=i):wdN (bs.set i v) b=wdN bs b:=by
 unfold wdN;congr 1;apply Bf;intro k;rw[AV,AV];split;·rw[Ar,Ar,List.getElem?_set_ne (by omega)]
 ·rfl
theorem AROk.bytesTo {R:AR} (h:AROk R) {a m:Nat} {l:List Int} (hl:∀x∈l,0<=x/\x<256) (ho:q3b a m):∀k,k<=m->AROk (R.bytesTo a l k)
 | 0,_=>h
 | k+1,hk=>by
  have h0:=AROk.bytesTo h hl ho k (by omega);refine h0.bytes (CP ..) (fun x hx=> ?_) (fun t h1 h2=>v6p (by rcases ho t h1 with h|h<;>omega));rcases CV hx with hx|hx;·exact h0.byt x hx
  ·rw[hx,Ag];cases hc:l[k]? with
   | none=>exact⟨by decide,by decide⟩
   | some c=>exact hl c (AJ hc)
def AR.oneVal (R:AR) (key:Nat):AR:=(R.newValue.1.put R.newValue.2 (numL key).length).bytesTo (R.newValue.2+8) (numL key) (numL key).length
def AR.vals (R:AR) (keys:List Nat):Nat->AR×List (Int×Int)
 | 0=>(R,[])
 | i+1=>((AR.vals R keys i).1.oneVal (keys.getD i 0),(AR.vals R keys i).2++[((keys.getD i 0:Int),((AR.vals R keys i).1.newValue.2:Int))])
def AR.valsRoomy (R:AR) (keys:List Nat) (n:Nat):Prop:= ∀i,i<n->(R.vals keys i).1.newValue.2≠0
theorem z2d {R:AR} (h:AROk R) {key:Nat} (hk:key<18446744073709551616) (L:R.newValue.2≠0):AROk (R.oneVal key)/\(R.oneVal key).bs.length=R.bs.length/\R.newValue.2+64<=R.bs.length:=by
 obtain⟨s,j,e1,e0,e2,e3⟩:=x0x h L;have I:=h.newValue;have M:=I.len;have O:=z8w h;have S:=z9n hk;have ha:R.newValue.2+64<=R.newValue.1.bs.length:=by omega
 have hp:AROk (R.newValue.1.put R.newValue.2 (numL key).length):=I.put_in (by omega) (z0h (s:=s) (by omega) (by omega));refine⟨hp.bytesTo (m:=20) (x0c key) (z0h (s:=s) (by omega) (by omega)) _ S,?_,by omega⟩;unfold AR.oneVal;rw[z3a];show(putW _ _ _).length=_;rw[q3n _ (by omega),O]
theorem z1u {R:AR} (h:AROk R) {keys:List Nat} (hk:∀x∈keys,x<18446744073709551616):∀i,R.valsRoomy keys i->AROk (R.vals keys i).1/\(R.vals keys i).1.bs.length=R.bs.length/\(R.vals keys i).2.length=i
 | 0,_=>⟨h,rfl,rfl⟩
 | i+1,hr=>by
  obtain⟨h1,h2,h3⟩:=z1u h hk i (fun j hj=>hr j (by omega))
  have I:keys.getD i 0<18446744073709551616:=by
   rw[Ag];cases hc:keys[i]? with
   | none=>exact(by decide:(0:Nat)<18446744073709551616)
   | some c=>exact hk c (AJ hc)
  obtain⟨q1,q2,_⟩:=z2d h1 I (hr i (by omega));exact⟨q1,q2.trans h2,by show((R.vals keys i).2++[_]).length=_;rw[AI,h3];rfl⟩
theorem z1g {R:AR} (h:AROk R) (I:R.bs.length<=1000000) {keys:List Nat} (hk:∀x∈keys,x<18446744073709551616):∀i,R.valsRoomy keys i-> ∀x∈(R.vals keys i).2,U64 x.1/\U64 x.2
 | 0,_,x,hx=>by cases hx
 | i+1,hr,x,hx=>by
  obtain⟨h1,h2,h3⟩:=z1u h hk i (fun j hj=>hr j (by omega))
  have L:keys.getD i 0<18446744073709551616:=by
   rw[Ag];cases hc:keys[i]? with
   | none=>exact(by decide:(0:Nat)<18446744073709551616)
   | some c=>exact hk c (AJ hc)
  obtain⟨_,_,q3⟩:=z2d h1 L (hr i (by omega));rcases An.1 (show x∈(R.vals keys i).2++[_] from hx) with hx|hx;·exact z1g h I hk i (fun j hj=>hr j (by omega)) x hx
  ·rw[AF.1 hx];show U64 ((keys.getD i 0:Nat):Int)/\U64 (((R.vals keys i).1.newValue.2:Nat):Int);unfold U64;refine⟨⟨by omega,by omega⟩,⟨by omega,by omega⟩⟩
def q4n (lag:Nat) (row:List (Nat×NodeA)):List (Int×Int):=(row.take (max 1 (row.length-lag))).map fun x=>(x.2.low,(x.1:Int))
def AR.lvls (R:AR) (per lag:Nat) (l:List (Int×Int)):Nat->AR×List (List (Nat×NodeA))×List (Int×Int)
 | 0=>(R,[],l)
 | k+1=>((AR.lvls R per lag l k).1.level k per (AR.lvls R per lag l k).2.2,(AR.lvls R per lag l k).2.1++[(AR.lvls R per lag l k).1.levelRow k per (AR.lvls R per lag l k).2.2],
    q4n lag ((AR.lvls R per lag l k).1.levelRow k per (AR.lvls R per lag l k).2.2))
def AR.lvRoom (R:AR) (per lag:Nat) (l:List (Int×Int)) (k:Nat):Prop:=(R.lvls per lag l k).1.roomy k per (R.lvls per lag l k).2.2 (q1t per (R.lvls per lag l k).2.2)
def AR.lvStop (R:AR) (per lag:Nat) (l:List (Int×Int)) (k:Nat):Prop:=((R.lvls per lag l k).1.levelRow k per (R.lvls per lag l k).2.2).length=1\/k=15\/(R.lvls per lag l (k+1)).2.2.length=1
theorem z5a (R:AR) (per lag:Nat) (l:List (Int×Int)):∀k,(R.lvls per lag l k).2.1.length=k
 | 0=>rfl
 | k+1=>by show((R.lvls per lag l k).2.1++[_]).length=_;rw[AI,z5a R per lag l k];rfl
theorem x4v {per:Nat} (hp:2<=per) (l:List (Int×Int)):q1t per l<=max 1 l.length:=by
 unfold q1t
 have:(l.length+per-1)/per<=max 1 l.length:=by
  rw[Cq (by omega)];have h1:per*max 1 l.length≥l.length:=by have:1*l.length<=per*max 1 l.length:=Nat.mul_le_mul (by omega) (by omega);omega
  omega
 omega
theorem x7x (lag:Nat) (row:List (Nat×NodeA)) (h:row≠[]):(q4n lag row).length<=row.length/\q4n lag row≠[]:=by
 have hr:0<row.length:=Bw.2 h;have hl:(q4n lag row).length=min (max 1 (row.length-lag)) row.length:=by unfold q4n;rw[AO,AU]
 refine⟨by omega,fun e=> ?_⟩;rw[e] at hl;simp at hl;omega
theorem z1m {R:AR} {per lag:Nat} {l:List (Int×Int)} (O:AROk R) (L:R.bs.length<=1000000) (hp:2<=per) (hl:l.length<=1000) (hk:∀x∈l,U64 x.1/\U64 x.2):∀k,k<=16->(∀j,j<k->R.lvRoom per lag l j)->
  AROk (R.lvls per lag l k).1/\(R.lvls per lag l k).1.bs.length=R.bs.length/\(R.lvls per lag l k).2.2.length<=1000/\(k≠0->(R.lvls per lag l k).2.2≠[])/\(∀x∈(R.lvls per lag l k).2.2,U64 x.1/\U64 x.2)/\
   (∀r∈(R.lvls per lag l k).2.1,r≠[]/\r.length<=1000/\ ∀x∈r,x.1+192<=R.bs.length/\q3b x.1 192/\0<x.1)
 | 0,_,_=>⟨O,rfl,hl,fun h=>absurd rfl h,hk,fun r hr=>by cases hr⟩
 | k+1,h16,hr=>by
  obtain⟨q1,q2,q3,q4,q5,q6⟩:=z1m O L hp hl hk k (by omega) (fun j hj=>hr j (by omega));have I:=hr k (by omega);unfold AR.lvRoom at I
  show AROk ((R.lvls per lag l k).1.level k per (R.lvls per lag l k).2.2)/\((R.lvls per lag l k).1.level k per (R.lvls per lag l k).2.2).bs.length=R.bs.length/\(q4n lag ((R.lvls per lag l k).1.levelRow k per (R.lvls per lag l k).2.2)).length<=1000/\(k+1≠0->q4n lag ((R.lvls per lag l k).1.levelRow k per (R.lvls per lag l k).2.2)≠[])/\(∀x∈q4n lag ((R.lvls per lag l k).1.levelRow k per (R.lvls per lag l k).2.2),U64 x.1/\U64 x.2)/\
   (∀r∈(R.lvls per lag l k).2.1++[(R.lvls per lag l k).1.levelRow k per (R.lvls per lag l k).2.2],r≠[]/\r.length<=1000/\ ∀x∈r,x.1+192<=R.bs.length/\q3b x.1 192/\0<x.1)
  generalize(R.lvls per lag l k).1=Q at*;generalize(R.lvls per lag l k).2.2=ll at*;generalize(R.lvls per lag l k).2.1=rr at*;obtain⟨p1,p2⟩:=q1.level I;obtain⟨p3,p4⟩:=z9q q1 I;have p5:=x0y q1 (by rw[q2];exact L) (by omega) q5 I;have p6:=x4v hp ll;have p7:1<=q1t per ll:=by unfold q1t;omega
  have M:Q.levelRow k per ll≠[]:=by intro e;rw[e] at p3;simp at p3;omega
  have hu:=x7x lag _ M;refine⟨p1,p2.trans q2,by omega,fun _=>hu.2,fun x hx=> ?_,fun r U=> ?_⟩;·unfold q4n at hx;obtain⟨y,hy,rfl⟩:=Aj.1 hx;have S:=Ab hy;refine⟨(p5 y S).low,?_⟩;have:=(p4 y S).1;rw[q2] at this;show U64 (y.1:Int);unfold U64;constructor<;>omega
  ·rcases An.1 U with h|h;·exact q6 r h
   ·rw[AF.1 h];exact⟨M,by omega,fun x hx=>by have:=p4 x hx;rw[q2] at this;exact this⟩
def AR.new (slabs:Nat):AR:=((({ bs:=List.replicate (1024*(slabs+1)) 0,slabs:=slabs,used:=0,value:=0,values:=0,node:=0,nodes:=0 }:AR).put 0 5929342154728227142).put 8 (1024*(slabs+1))).put 24 (18446744073709551615-1024*(slabs+1))
theorem v1j (m a:Nat):wdN (List.replicate m 0) a=0:=by
 unfold wdN;rw[List.drop_replicate,List.take_replicate];generalize min 8 (m-a)=k
 induction k with
 | zero=>rfl
 | succ k ih=>rw[List.replicate_succ];simp[leW,ih]
theorem z2u {slabs:Nat} (h1:1<=slabs) (h:slabs<=64):AROk (AR.new slabs)/\(AR.new slabs).bs.length=1024*(slabs+1):=by
 have h0:AROk { bs:=List.replicate (1024*(slabs+1)) 0,slabs:=slabs,used:=0,value:=0,values:=0,node:=0,nodes:=0 }:=⟨CB,h,Af _,AG _,AG _,Af _,Af _,fun x hx=>by rw[Cd hx];exact⟨by decide,by decide⟩,fun s _ _=>v1j _ _,fun h=>absurd rfl h,fun h=>absurd rfl h,fun h=>absurd rfl h⟩;unfold AR.new;generalize hR0:({ bs:=List.replicate (1024*(slabs+1)) 0,slabs:=slabs,used:=0,value:=0,values:=0,node:=0,nodes:=0 }:AR)=R0 at h0 ⊢;have l0:R0.bs.length=1024*(slabs+1):=by rw[<- hR0];exact CB
 have p1:=h0.put_in (a:=0) (x:=5929342154728227142) (by omega) (q8t (by omega));have l1:(R0.put 0 5929342154728227142).bs.length=1024*(slabs+1):=(q3n _ (by omega)).trans l0;generalize R0.put 0 5929342154728227142=R1 at p1 l1 ⊢;have p2:=p1.put_in (a:=8) (x:=1024*(slabs+1)) (by omega) (q8t (by omega));have l2:(R1.put 8 (1024*(slabs+1))).bs.length=1024*(slabs+1):=(q3n _ (by omega)).trans l1;generalize R1.put 8 (1024*(slabs+1))=R2 at p2 l2 ⊢;have p3:=p2.put_in (a:=24) (x:=18446744073709551615-1024*(slabs+1)) (by omega) (q8t (by omega));exact⟨p3,(q3n _ (by omega)).trans l2⟩
def q8a (slabs:Nat) (keys:List Nat) (per lag:Nat) (R:AR) (rows:List (List (Nat×NodeA))):Prop:=
 (AR.new slabs).valsRoomy keys keys.length/\ ∃K,(∀k,k<=K->((AR.new slabs).vals keys keys.length).1.lvRoom per lag ((AR.new slabs).vals keys keys.length).2 k)/\(∀k,k<K-> ¬((AR.new slabs).vals keys keys.length).1.lvStop per lag ((AR.new slabs).vals keys keys.length).2 k)/\
  ((AR.new slabs).vals keys keys.length).1.lvStop per lag ((AR.new slabs).vals keys keys.length).2 K/\
  rows=(((AR.new slabs).vals keys keys.length).1.lvls per lag ((AR.new slabs).vals keys keys.length).2 (K+1)).2.1/\
  R=(((AR.new slabs).vals keys keys.length).1.lvls per lag ((AR.new slabs).vals keys keys.length).2 (K+1)).1.put 16 ((rows.getD K []).getD 0 (0,q2w)).1
end Go.Proofs.YtibiekfjbibpbaaGreat
