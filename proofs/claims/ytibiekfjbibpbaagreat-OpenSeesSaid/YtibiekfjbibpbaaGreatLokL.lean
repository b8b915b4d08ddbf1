import Derived.Test.YtibiekfjbibpbaaGreatPlnC
import Derived.Test.YtibiekfjbibpbaaGreatWorN
set_option maxRecDepth 100000
set_option maxHeartbeats 16000000
set_option linter.unusedVariables false
set_option linter.unusedSimpArgs false
namespace Go.Proofs.YtibiekfjbibpbaaGreat
open Go.RowKit
def z9i (e:MapEntry):Value×Value:=(e.key,e.val)
def isU (a:Int):Value×Value:=(.int .u64 a,.agg #[])
def x6u (l:List MapEntry) (clock:Nat):Prop:=(l.map (·.born)).Nodup/\ ∀b∈l.map (·.born),b<clock
theorem x4r {l:List MapEntry} {clock:Nat} (h:x6u l clock) (e:MapEntry) (he:e.born=clock):x6u (l++[e]) (clock+1):=by
 unfold x6u at h ⊢;rw[Ah];refine⟨?_,fun b hb=> ?_⟩;·rw[CS];refine⟨h.1,by simp,fun x hx y hy=> ?_⟩;simp at hy;have:=h.2 x hx;omega
 ·rcases An.1 hb with h1|h1;·have:=h.2 b h1;omega
  ·simp at h1;omega
def q7g (w:World) (mb:Nat) (R:List Int):Prop:= ∃es clock,w.heap[mb]?=some (.map es clock)/\es.toList.map z9i=R.map isU/\x6u es.toList clock
theorem q7g.lt {w:World} {mb:Nat} {R:List Int} (h:q7g w mb R):mb<w.heap.size:=by obtain⟨es,cl,h1,_⟩:=h;exact(AA.1 h1).1
theorem q7g.only {w w':World} {mb:Nat} {R:List Int} {f:List Nat} (h:q7g w mb R) (ho:Only f w w') (hn:mb∉f):q7g w' mb R:=by obtain⟨es,cl,h1,h2⟩:=h;exact⟨es,cl,(ho.block mb (AA.1 h1).1 hn).trans h1,h2⟩
theorem x0p {es:List MapEntry} {R:List Int} (hv:es.map z9i=R.map isU):∀e∈es,∃x∈R,e.key= .int .u64 x:=by intro e he;have hm:z9i e∈R.map isU:=hv▸By he;obtain⟨x,hx,I⟩:=Aj.1 hm;exact⟨x,hx,(congrArg Prod.fst I).symm⟩
theorem q7g.look {w:World} {mb:Nat} {R:List Int} (h:q7g w mb R) (a:Int):
  (Instr.lookup 139 (.map (some mb)) (.int .u64 a) true).run Tryz.prog w= .ok (.tuple #[.agg #[],.bool (decide (a∈R))]) w:=by
 obtain⟨es,clock,h1,h2,h3⟩:=h;by_cases hm:a∈R
 ·rw[AT hm]
  obtain⟨pre,post,hR,L⟩:∃pre post,R=pre++a::post/\a∉pre:=by
   clear h2
   induction R with
   | nil=>cases hm
   | cons x R ih=>
    by_cases hx:x=a;·exact⟨[],R,by rw[hx];rfl,by simp⟩
    ·obtain⟨pre,post,e1,e2⟩:=ih (by rcases AN.1 hm with h|h;exact absurd h.symm hx;exact h);exact⟨x::pre,post,by rw[e1];rfl,by simp[e2];exact fun e=>hx e.symm⟩
  rw[hR,Ah,Be] at h2;obtain⟨O,U,k1,k2,k3⟩:=List.map_eq_append_iff.1 h2;obtain⟨e,M,k4,k5,k6⟩:=List.map_eq_cons_iff.1 k3;subst k4;have hk:e.key= .int .u64 a:=congrArg Prod.fst k5;have S:e.val= .agg #[]:=congrArg Prod.snd k5;have hf:=z4s (k:=a) (e:=e) (post:=M) hk (pre:=O) (i:=0) (fun d hd=>by obtain⟨x,hx,I⟩:=x0p k2 d hd;exact⟨x,I,fun e=>L (e▸hx)⟩);rw[<- k1,S] at hf;exact q8x w _ _ _ Tryz.underlying139 Tryz.underlying51 mb es clock h1 a _ (.agg #[]) true hf
 ·rw[AK hm];exact q8k w _ _ _ Tryz.underlying139 Tryz.underlying51 mb es clock h1 a (.agg #[]) true (by kernel_rfl) (q5o fun e he=>by obtain⟨x,hx,I⟩:=x0p h2 e he;exact⟨x,I,fun e=>hm (e▸hx)⟩)
theorem q7g.put {w:World} {mb:Nat} {R:List Int} (h:q7g w mb R) (a:Int) (ha:a∉R):
  ∃w',(Instr.mapUpdate 139 (.map (some mb)) (.int .u64 a) (.agg #[])).run Tryz.prog w= .ok () w'/\q7g w' mb (R++[a])/\Only [mb] w w':=by
 obtain⟨es,clock,h1,h2,h3⟩:=h;refine⟨_,z0r w _ _ _ Tryz.underlying139 Tryz.underlying51 mb es clock h1 a (.agg #[]) (q5o fun e he=>by obtain⟨x,hx,I⟩:=x0p h2 e he;exact⟨x,I,fun e=>ha (e▸hx)⟩),⟨_,_,q9a h1,?_,?_⟩,(Only.refl _ _).putObj (Or.inl (by simp)) _⟩;·rw[DM,Ah,h2,Ah];rfl
 ·rw[DM];exact x4r h3 _ rfl
structure LkP where
 lb:Nat
 wb:Nat
 wc:Nat
 hb:Nat
 hc:Nat
 mb:Nat
def nsI (bs:List Int):Nat:=(q0w bs.length).toNat
def q5g (bs:List Int):List Nat:=(q0b bs).map Int.toNat
theorem q4w (bs:List Int):(q5g bs).length=bs.length/8:=by unfold q5g q0b;simp
def z1z (bs:List Int) (i:Nat):Nat:=if i=0 then 0 else q1u bs i
def z0g (bs:List Int) (i:Nat):Nat:=if i=0 then 0 else q4r bs i
def x6v (B:LkP) (bs:List Int) (root:Int) (lv pr:Value):Array Value:= #[.slice (some ⟨B.wb,0,none⟩) (bs.length/8) B.wc,.slice (some ⟨B.hb,0,none⟩) (nsI bs+1) B.hc,.int .u64 root,.map (some B.mb),lv,pr]
structure z5r (w:World) (B:LkP) (bs:List Int):Prop where
 words:q1r w B.wb 0 (q5g bs)
 wc:bs.length/8<=B.wc
 hlt:B.hb<w.heap.size
 heads:∀i,i<nsI bs+1->w.cell? ⟨B.hb,i*2,none⟩=some (.int .i64 (z1z bs i:Nat))/\w.cell? ⟨B.hb,i*2+1,none⟩=some (.int .u64 (z0g bs i:Nat))
 ok:∀i,1<=i->i<nsI bs+1->q2k bs i=true
 some':0<q0w bs.length
 byte:∀x∈bs,0<=x/\x<256
theorem z5r.only {w w':World} {B:LkP} {bs:List Int} {f:List Nat} (h:z5r w B bs) (ho:Only f w w') (h1:B.wb∉f) (h2:B.hb∉f):z5r w' B bs:=
 ⟨⟨AL h.words.1 ho.size,fun i x hi=>(ho.cell (p:=⟨B.wb,0+i,none⟩) h.words.1 h1).trans (h.words.2 i x hi)⟩,h.wc,AL h.hlt ho.size,
  fun i hi=>⟨(ho.cell (p:=⟨B.hb,i*2,none⟩) h.hlt h2).trans (h.heads i hi).1,(ho.cell (p:=⟨B.hb,i*2+1,none⟩) h.hlt h2).trans (h.heads i hi).2⟩,h.ok,h.some',h.byte⟩
theorem q1s {n:Nat} (h:0<q0w n):n % 1024=0/\(q0w n).toNat+1=n/1024/\2<=n/1024/\n/1024<=65:=by
 unfold q0w at h ⊢;split at h;·rw[if_pos (by assumption)];omega
 ·omega
theorem z5r.nums {w:World} {B:LkP} {bs:List Int} (h:z5r w B bs):bs.length=1024*(nsI bs+1)/\1<=nsI bs/\nsI bs<=64:=by have:=q1s h.some';unfold nsI;omega
theorem q3l {bs:List Int} (hb:∀x∈bs,0<=x/\x<256) {k:Nat} (hk:k<bs.length/8):∃x,(q5g bs)[k]?=some x/\((x:Nat):Int)=wAt bs k/\x<18446744073709551616:=by
 refine⟨(wAt bs k).toNat,?_,?_,?_⟩;·unfold q5g q0b;rw[AM,AM,BM hk];rfl
 all_goals
  have:=q1h (bs:=(bs.drop (8*k)).take 8) (fun x hx=>hb x (Ak (Ab hx)));rw[AU,At,DU (by omega)] at this;unfold wAt;omega
structure q1j (w:World) (N:Nat) (B:LkP) (bs:List Int) (root:Int) (lv pr:Value) (R:List Int):Prop where
 cells:Blk w B.lb 142 (x6v B bs root lv pr)
 fix:z5r w B bs
 set:q7g w B.mb R
 ge:N<=B.lb/\N<=B.wb/\N<=B.hb/\N<=B.mb
 ne:B.lb≠B.wb/\B.lb≠B.hb/\B.lb≠B.mb/\B.wb≠B.hb/\B.wb≠B.mb/\B.hb≠B.mb
theorem q1j.only {w w':World} {N:Nat} {B:LkP} {bs:List Int} {root:Int} {lv pr:Value} {R:List Int} {f:List Nat} (h:q1j w N B bs root lv pr R) (ho:Only f w w') (h1:B.lb∉f) (h2:B.wb∉f) (h3:B.hb∉f) (h4:B.mb∉f):q1j w' N B bs root lv pr R:=⟨ho.blk h.cells h1,h.fix.only ho h2 h3,h.set.only ho h4,h.ge,h.ne⟩
theorem q1j.bel {w w':World} {N:Nat} {B:LkP} {bs:List Int} {root:Int} {lv pr:Value} {R:List Int} (h:q1j w N B bs root lv pr R) (hb:Below w.heap.size w w'):q1j w' N B bs root lv pr R:=h.only (Only.of_below hb []) (by simp) (by simp) (by simp) (by simp)
theorem v7a (lb wb n wc:Nat) (ws:List Nat) (hn:n=ws.length) (h6:n<=1000000) (k:Nat) (x:Nat) (hx:ws[k]?=some x) (a:Int) (ha:a=8*k) (w:World) (h0:w.cell? ⟨lb,0,none⟩=some (.slice (some ⟨wb,0,none⟩) n wc)) (h1:q1r w wb 0 ws):
  Calls Tryz.prog 200 #[.pointer (some ⟨lb,0,none⟩),.int .u64 a] w fun e w'=>e= .returned (.int .u64 (x:Int))/\w=w':=by
 have hk:k<n:=by rw[hn];exact(AE.1 hx).1
 have c1:w.cell? ⟨wb,k,none⟩=some (.int .u64 (x:Int)):=by have:=h1.2 k x hx;rwa[AQ] at this
 have q:IntKind.u64.wrap (a.tdiv 8)=(k:Int):=by rw[IntWalk.u64_quo _ _ ⟨by omega,by omega,by omega⟩];omega
 have i0:(0:Int)<=(k:Int):=by omega
 have i1:(k:Int)< (n:Int):=by omega
 clear ha hn hx h1;go_enter Tryz.func200,Tryz.ntmps200;go_wp2;go_ret;exact⟨rfl,rfl⟩
theorem v5s {bs:List Int} {i:Nat} (h:q2k bs i=true):q1u bs i<=3:=by unfold q2k at h;simp at h;exact h.1
theorem z4o (B:LkP) (bs:List Int) (root:Int) (lv pr:Value) (a:Int) (ha:0<=a/\a<=18446744073709551615) (w:World) (h:z5r w B bs) (hc:Blk w B.lb 142 (x6v B bs root lv pr)):
  Calls Tryz.prog 203 #[.pointer (some ⟨B.lb,0,none⟩),.int .u64 a] w fun e w'=>e= .returned (.int .i64 (clsI bs a))/\Below w.heap.size w w':=by
 have SL:=hid (z7m a w ha.1 ha.2);have c1:w.cell? ⟨B.lb,1,none⟩=some (.slice (some ⟨B.hb,0,none⟩) (nsI bs+1) B.hc):=hc.cell 1;have hs:=q5w a;have hn:=h.nums;have S:((nsI bs:Nat):Int)=q0w bs.length:=by have:=h.some';unfold nsI;omega
 by_cases h0:q1q a=0
 ·have e0:(q1q a==0)=true:=by simp[h0]
  have HC:=hid (show clsI bs a=0 by unfold clsI;rw[if_pos (Or.inl h0)]);clear h h0 hs hn S;go_enter Tryz.func203,Tryz.ntmps203;go_wp2_with fail;refine SL.out.mono ?_;rintro e w1 ⟨rfl,rfl⟩;go_wp2;go_ret;exact⟨by rw[HC.out];rfl,Below.refl _ _⟩
 ·have e0:(q1q a==0)=false:=by simp[h0]
  obtain⟨s,L⟩:∃s:Nat,q1q a=(s:Int):=⟨(q1q a).toNat,by omega⟩;by_cases h1:nsI bs<s
  ·have e1:(nsI bs+1:Int)<=(s:Int):=by omega
   have HC:=hid (show clsI bs a=0 by unfold clsI;rw[if_pos (Or.inr (by omega))]);rw[L] at SL e0;clear h h0 hs hn S L h1;go_enter Tryz.func203,Tryz.ntmps203;go_wp2_with fail;refine SL.out.mono ?_;rintro e w1 ⟨rfl,rfl⟩;go_wp2;go_ret;exact⟨by rw[HC.out];rfl,Below.refl _ _⟩
  ·have e1: ¬(nsI bs+1:Int)<=(s:Int):=by omega
   have i1:(s:Int)< (nsI bs+1:Int):=by omega
   have i0:(0:Int)<=(s:Int):=by omega
   have hh:=h.heads s (by omega);have h2:z1z bs s=q1u bs s:=by unfold z1z;rw[if_neg (by omega)]
   have c2:w.cell? ⟨B.hb,s*2,none⟩=some (.int .i64 (q1u bs s:Nat)):=by rw[hh.1,h2]
   have Y:=v5s (h.ok s (by omega) (by omega));have IX:=hid (q8s a (q1u bs s:Nat) w ha.1 ha.2)
   have HC:=hid (show clsI bs a=if idxB a (q1u bs s:Nat)=true then(q1u bs s:Nat) else 0 by
    unfold clsI;rw[if_neg (by omega),L,BG];by_cases hx:idxB a (q1u bs s:Nat)=true;·rw[if_pos ⟨Y,hx⟩,if_pos hx]
    ·rw[if_neg (fun k=>hx k.2),if_neg hx];rfl)
   have HH:=hid (⟨h,hc⟩:_/\_);rw[L] at SL e0;obtain⟨M,I⟩:∃n,n=nsI bs+1:=⟨_,rfl⟩;have j1:(s:Int)< (M:Int):=by omega
   have j2: ¬(M:Int)<=(s:Int):=by omega
   have j3:s<M:=by omega
   rw[<- I] at c1;have HN:=hid I;obtain⟨c,U⟩:∃c,c=q1u bs s:=⟨_,rfl⟩;rw[<- U] at c2 IX HC;have h4:=hid U;obtain⟨b,hb⟩:∃b,b=idxB a (c:Nat):=⟨_,rfl⟩;rw[<- hb] at IX HC;have HB:=hid hb;have d1:∀w',Below w.heap.size w w'->w'.cell? ⟨B.lb,1,none⟩=some (.slice (some ⟨B.hb,0,none⟩) M B.hc):=fun w' hb=>(hb.cell (p:=⟨B.lb,1,none⟩) hc.lt).trans c1;have d2:∀w',Below w.heap.size w w'->w'.cell? ⟨B.hb,s*2,none⟩=some (.int .i64 (c:Nat)):=fun w' hb=>(hb.cell (p:=⟨B.hb,s*2,none⟩) h.hlt).trans c2;have D:=hid (⟨d1,d2⟩:_/\_);clear h hc h0 hs hn S L h1 I U hb hh h2 Y e1 i1 d1 d2;go_enter Tryz.func203,Tryz.ntmps203;go_wp2_with fail;refine SL.out.mono ?_;rintro e w1 ⟨rfl,rfl⟩;go_wp2_with fail;refine IX.out.mono ?_;rintro e w1 ⟨rfl,O⟩;have f1:=D.out.1 w1 O;have f2:=D.out.2 w1 O;have h3:=hid O;clear O;cases b;·go_wp2;go_ret;exact⟨by rw[HC.out];rfl,h3.out⟩
   ·go_wp2;go_ret;exact⟨by rw[HC.out];rfl,h3.out⟩
theorem z5m (lb wb n wc:Nat) (c:Int) (hc:1<=c/\c<=3) (a:Int) (k:Nat) (ha:a=8*k) (hk:k+8*c.toNat<=n) (hn:n<=1000000) (O:n<=wc) (w:World) (h0:w.cell? ⟨lb,0,none⟩=some (.slice (some ⟨wb,0,none⟩) n wc)):
  Calls Tryz.prog 204 #[.pointer (some ⟨lb,0,none⟩),.int .u64 a,.int .i64 c] w fun e w'=>e= .returned (.slice (some ⟨wb,k,none⟩) (8*c.toNat) (wc-k))/\Below w.heap.size w w':=by
 obtain⟨m,hm⟩:∃m,m=8*c.toNat:=⟨_,rfl⟩;have BY:=hid (z9s c w);have hlt:=World.block_lt_of_cell? w _ h0;have L:q0e c=8*(m:Int):=by unfold q0e;rw[if_pos hc];omega
 rw[L] at BY;rw[<- hm] at hk ⊢;have u1:IntKind.u64.wrap (8*(m:Int))=8*(m:Int):=IntWalk.u64_in _ (by omega);have u2:IntKind.u64.wrap ((8*(m:Int)).tdiv 8)=(m:Int):=by rw[IntWalk.u64_quo _ _ ⟨by omega,by omega,by omega⟩];omega
 have u3:IntKind.u64.wrap (a.tdiv 8)=(k:Int):=by rw[IntWalk.u64_quo _ _ ⟨by omega,by omega,by omega⟩];omega
 have u4:IntKind.u64.wrap ((k:Int)+(m:Int))=(k:Int)+(m:Int):=IntWalk.u64_in _ (by omega);have i0:(0:Int)<=(k:Int):=by omega
 have i1:(k:Int)<=(k:Int)+(m:Int):=by omega
 have i2:(k:Int)+(m:Int)<=(wc:Int):=by omega
 have i3:((k:Int)+(m:Int)).toNat=k+m:=by omega
 have i4:k+m-k=m:=by omega
 have i5: ¬k=wc:=by omega
 have D:=hid (fun w' (hb:Below w.heap.size w w')=>(hb.cell (p:=⟨lb,0,none⟩) hlt).trans h0);clear L hm hc ha hlt h0;go_enter Tryz.func204,Tryz.ntmps204;go_wp2_with fail;refine BY.out.mono ?_;rintro e w1 ⟨rfl,I⟩;have f1:=D.out w1 I;have M:=hid I;clear I;go_wp2;go_ret;refine⟨?_,M.out⟩;first|rfl|(simp[i3,i4];done)|trace_state
theorem z6e (N:Nat) (B:LkP) (bs:List Int) (root:Int) (lv pr:Value) (R:List Int) (a:Int) (ha:a∉R) (w:World) (h:q1j w N B bs root lv pr R):
  Calls Tryz.prog 209 #[.pointer (some ⟨B.lb,0,none⟩),.int .u64 a] w fun e w'=>e= .returned (.tuple #[])/\q1j w' N B bs root lv pr (R++[a])/\Only [B.mb] w w':=by
 have c3:w.cell? ⟨B.lb,3,none⟩=some (.map (some B.mb)):=h.cells.cell 3;have I:=h.set.look a;rw[AK ha] at I;have H:=hid h;have HA:=hid ha;have MY:=hid (q4t (w.alloc (.cells #[] 147)));have h1:q1j (w.alloc (.cells #[] 147)) N B bs root lv pr R:=H.out.bel (ba (Below.refl _ _) _);have d3:(w.alloc (.cells #[] 147)).cell? ⟨B.lb,3,none⟩=some (.map (some B.mb)):=h1.cells.cell 3;obtain⟨w',L,hs,ho⟩:=h1.set.put a HA.out;have HR:=hid (⟨(⟨ho.blk h1.cells (by have:=h1.ne;simp;omega),h1.fix.only ho (by have:=h1.ne;simp;omega) (by have:=h1.ne;simp;omega),hs,h1.ge,h1.ne⟩:q1j w' N B bs root lv pr (R++[a])),(((Only.refl [B.mb] w).alloc _).trans ho (fun _ h=>Or.inl h):Only [B.mb] w w')⟩:_/\_);clear h ha hs ho h1;go_enter Tryz.func209,Tryz.ntmps209;go_wp2_with fail;refine MY.out.mono ?_;rintro e w1 ⟨rfl,rfl⟩;go_wp2;refine bodyPost_end (v:= .tuple #[]) (by simp[results,Tryz.results209,go_sem]) rfl ?_;exact⟨rfl,HR.out⟩
def errC:List PanicEntry:=[{ v:= .iface 33 (.int .i64 6),recovered:=false }]
theorem x1d (N:Nat) (B:LkP) (bs:List Int) (root:Int) (lv pr:Value) (R:List Int) (a:Int) (ha:a∈R) (w:World) (h:q1j w N B bs root lv pr R):
  Calls Tryz.prog 209 #[.pointer (some ⟨B.lb,0,none⟩),.int .u64 a] w fun e w'=>e= .panicked errC/\Below w.heap.size w w':=by
 have c3:w.cell? ⟨B.lb,3,none⟩=some (.map (some B.mb)):=h.cells.cell 3;have I:=h.set.look a;rw[AT ha] at I;have MN:=hid (q6f (w.alloc (.cells #[] 147)));clear h ha;go_enter Tryz.func209,Tryz.ntmps209;go_wp2_with fail;refine MN.out.mono ?_;rintro e w1 ⟨rfl,rfl⟩;exact⟨rfl,rfl,ba (Below.refl _ _) _⟩
theorem z7p {w:World} {wb k:Nat} {bs:List Int} (hb:∀x∈bs,0<=x/\x<256) (h:q1r w wb 0 (q5g bs)) (hk:k+24<=bs.length/8):w.rangeAt wb k (q0o (q2p bs (8*k))).toList:=by intro j v hv;rw[Ad] at hv;have hj:j<24:=(AA.1 hv).1;rw[q3a _ hj] at hv;injection hv with hv;subst hv;obtain⟨x,hx,I,_⟩:=q3l hb (k:=k+j) (by omega);have:=h.2 (k+j) x hx;rw[AQ] at this;rw[this,I];unfold q2p wdI wAt;rw[show((8:Int)*(k:Int)+8*(j:Int)).toNat=8*(k+j) by omega]
theorem q4b {bs:List Int} (hb:∀x∈bs,0<=x/\x<256) (a:Int):∀i,U64 (q2p bs a i):=by
 intro i;unfold U64 q2p wdI;have:=q1h (bs:=(bs.drop (a+8*(i:Int)).toNat).take 8) (fun x hx=>hb x (Ak (Ab hx)));have h8:((bs.drop (a+8*(i:Int)).toNat).take 8).length<=8:=by rw[AU];omega
 have hp:(2:Int)^ (8*((bs.drop (a+8*(i:Int)).toNat).take 8).length)<=2^64:=by
  have hp:=As (n:=2) (by decide) (show 8*((bs.drop (a+8*(i:Int)).toNat).take 8).length<=64 by omega)
  exact_mod_cast hp
 omega
theorem z2q {bs:List Int} {a:Int} (h:clsI bs a=3) (h0:0<=a) (hs:0<q0w bs.length):∃k:Nat,a=8*k/\k+24<=bs.length/8/\0<k:=by
 have hn:=q1s hs;unfold clsI at h;by_cases h1:q1q a=0\/q0w bs.length<q1q a;·rw[if_pos h1] at h;cases h
 ·rw[if_neg h1] at h;by_cases h2:q1u bs (q1q a).toNat<=3/\idxB a (q1u bs (q1q a).toNat:Nat)=true
  ·rw[if_pos h2] at h;have hc:q1u bs (q1q a).toNat=3:=by omega
   rw[hc] at h2;have hi:=h2.2;unfold idxB at hi;have I:idxZ a 3≠ -1:=by simpa using hi
   unfold idxZ at I;split at I
   ·rename_i hh;have hb:q0m 3=5:=by decide
    rw[hb] at hh;unfold q1q at h1 hh;refine⟨(a/8).toNat,?_,?_,?_⟩
    all_goals
     split at h1;·omega
     ·omega
   ·exact absurd rfl I
  ·rw[if_neg h2] at h;cases h
section
theorem z8r (v:Value):Instr.loadAt 184 v=ldM 184 v:=rfl
attribute [local go_sem ↓ high] q0s q0f q0d z8r
attribute [local go_sem] q1x q1p q1v
theorem v4q {w:World} {wb k:Nat} {f:Nat->Int} (h:w.rangeAt wb k (q0o f).toList):ldR Tryz.prog 184 (.pointer (some ⟨wb,k,none⟩)) w= .ok (.agg (q0o f)) w:=by have:=run_loadAt_mid (P:=Tryz.prog) w wb k 184 (q0o f).toList _ h Tryz.underlying184 rfl (by kernel_rfl);simpa[ldR] using this
theorem z1b {W:World} {b:Nat} {m:NodeA} (n:NodeA) (h:Blk W b 55 (q0x m)):∃W',stR Tryz.prog 55 (.pointer (some ⟨b,0,none⟩)) (.agg (q0x n)) W= .ok () W'/\Blk W' b 55 (q0x n)/\Only [b] W W':=by refine⟨W.setRow b (q0x n),h.st (by kernel_rfl) rfl (by kernel_rfl),setRow_heap W b _ _ _ _ h,⟨rfl,rfl,rfl,by simp,fun x hx hn=>setRow_other W b x _ (by simpa using hn)⟩⟩
theorem q3e (W:World) (n:NodeA):∃W',stR Tryz.prog 55 (.pointer (some ⟨W.heap.size,0,none⟩)) (.agg (q0x n)) (W.alloc (.cells #[.int .i64 0,.int .u64 0,.int .u64 0,.int .u64 0,.int .u64 0,.int .u64 0,.int .u64 0,.int .u64 0,.int .u64 0,.int .u64 0,.int .u64 0,.int .u64 0,.int .u64 0,.int .u64 0,.int .u64 0,.int .u64 0,.int .u64 0,.int .u64 0,.int .u64 0,.int .u64 0,.int .u64 0] 55))= .ok () W'/\Blk W' W.heap.size 55 (q0x n)/\Below W.heap.size W W':=by obtain⟨W',h1,h2,h3⟩:=z1b n (Blk.new W 55 (q0x q2w));exact⟨W',h1,h2,(((Only.refl [W.heap.size] W).alloc _).trans h3 (fun _ h=>Or.inl h)).below (by simp) (AG _)⟩
theorem v9v (b k c:Nat) (w:World):Sem.run Tryz.prog (Instr.arrayAt 184 (.slice (some ⟨b,k,none⟩) 24 c)) w= .ok (.pointer (some ⟨b,k,none⟩)) w:=by kernel_rfl
theorem z6t (N:Nat) (B:LkP) (bs:List Int) (root:Int) (lv pr:Value) (R:List Int) (a:Int) (ha:0<=a/\a<=18446744073709551615) (n:NodeA) (hn:q1y bs a=some n) (w:World) (h:q1j w N B bs root lv pr R):
  Calls Tryz.prog 151 #[.pointer (some ⟨B.lb,0,none⟩),.int .u64 a] w fun e w'=>e= .returned (.agg (q0x n))/\Below w.heap.size w w':=by
 have I:clsI bs a=3/\tagN<=wdI bs a/\wdI bs a<=tagN+15:=by
  unfold q1y at hn;split at hn;·assumption
  ·cases hn
 have h3:n=q5t (q2p bs a):=by unfold q1y at hn;rw[if_pos I] at hn;injection hn with hn;exact hn.symm
 obtain⟨k,L,hk,hm⟩:=z2q I.1 ha.1 h.fix.some';have hg:=h.fix.nums;have h7:=h.fix.wc;obtain⟨W1,M⟩:∃W1,W1=w.alloc (.cells #[.int .i64 0,.int .u64 0,.int .u64 0,.int .u64 0,.int .u64 0,.int .u64 0,.int .u64 0,.int .u64 0,.int .u64 0,.int .u64 0,.int .u64 0,.int .u64 0,.int .u64 0,.int .u64 0,.int .u64 0,.int .u64 0,.int .u64 0,.int .u64 0,.int .u64 0,.int .u64 0,.int .u64 0] 55):=⟨_,rfl⟩;have S:Below w.heap.size w W1:=by rw[M];exact ba (Below.refl _ _) _
 have h1:=h.bel S;have k1:Blk W1 w.heap.size 55 (q0x q2w):=by rw[M];exact Blk.new _ _ _
 have CL:=hid (z4o B bs root lv pr a ha W1 h1.fix h1.cells);rw[I.1] at CL;have c0:∀W,Below W1.heap.size W1 W->W.cell? ⟨B.lb,0,none⟩=some (.slice (some ⟨B.wb,0,none⟩) (bs.length/8) B.wc):=fun W hb=>(h1.bel hb).cells.cell 0;have BL:Hid (∀W,Below W1.heap.size W1 W->Calls Tryz.prog 204 #[.pointer (some ⟨B.lb,0,none⟩),.int .u64 a,.int .i64 3] W fun e w'=>e= .returned (.slice (some ⟨B.wb,k,none⟩) 24 (B.wc-k))/\Below W.heap.size W w'):=hid (fun W (hb:Below W1.heap.size W1 W)=>z5m B.lb B.wb (bs.length/8) B.wc 3 (by omega) a k L (by show k+8*3<=_;omega) (by omega) h7 W (c0 W hb));have LD:=hid (fun W (hb:Below W1.heap.size W1 W)=>v4q (z7p h.fix.byte (h1.bel hb).fix.words hk));have OF:=hid (fun W=>v9i (q2p bs (8*k)) W (q4b h.fix.byte _) (by have:=I.2;unfold q2p;rw[<- L];simpa using this));have HN:=hid (show q5t (q2p bs (8*k))=n by rw[h3,L]);have MY:=hid q4t;have FI:Hid (∀W,Calls Tryz.prog 88 #[.int .i64 0] W fun e w'=>e= .returned (.bool true)/\W=w'):=hid (fun W=>z3i 0 W);have O:=hid S;have hl:=hid M;have hp:=hid k1;clear h h1 S M k1 I h3 hg hn h7 c0 hk hm L ha;go_enter Tryz.func151,Tryz.ntmps151;go_upto_region 1 with fail;rw[show w.alloc (.cells #[.int .i64 0,.int .u64 0,.int .u64 0,.int .u64 0,.int .u64 0,.int .u64 0,.int .u64 0,.int .u64 0,.int .u64 0,.int .u64 0,.int .u64 0,.int .u64 0,.int .u64 0,.int .u64 0,.int .u64 0,.int .u64 0,.int .u64 0,.int .u64 0,.int .u64 0,.int .u64 0,.int .u64 0] 55)=W1 from hl.out.symm];go_wp2_with fail;refine CL.out.mono ?_;rintro e w2 ⟨rfl,h8⟩;have Y:=hid h8;clear h8;go_wp2_with fail;refine(MY.out w2).mono ?_;rintro e w3 ⟨rfl,rfl⟩;go_wp2_with fail;refine(BL.out w2 Y.out).mono ?_;rintro e w3 ⟨rfl,h2⟩;have h4:=hid (bx Y.out h2);clear h2;have hi:=LD.out w3 h4.out;have hh:Sem.run Tryz.prog (Instr.arrayAt 184 (.slice (some ⟨B.wb,k,none⟩) 24 (B.wc-k))) w3= .ok (.pointer (some ⟨B.wb,k,none⟩)) w3:=v9v B.wb k (B.wc-k) w3;go_wp2_with fail;refine(OF.out w3).mono ?_;rintro e w4 ⟨rfl,h5⟩;have ho:=hid (bx h4.out h5);clear h5 hi hh;rw[HN.out];obtain⟨W5,hq,k5,h6⟩:=q3e w4 n;have hr:=q2j k5;have U:=hid (bx ho.out h6);have h9:Blk W5 w.heap.size 55 (q0x q2w):=hp.out.bel U.out;obtain⟨W6,hs,k6,he⟩:=z1b n h9;have hf:=hid (q7m k6);have hj:=hid ((O.out.trans (U.out.mono O.out.size)).trans (he.below (B:=w.heap.size) (by simp) (by have:=(O.out.trans (U.out.mono O.out.size)).size;omega)));clear k5 h6 h9 k6 he;go_wp2_with fail;refine(FI.out W5).mono ?_;rintro e w7 ⟨rfl,rfl⟩;go_wp2_with fail;refine(MY.out W5).mono ?_;rintro e w7 ⟨rfl,rfl⟩;go_wp2;refine bodyPost_ret (v:= .agg (q0x n)) (q8i rfl _ _ _ _ rfl hf.out) rfl ?_;exact⟨rfl,hj.out⟩
theorem x1q (N:Nat) (B:LkP) (bs:List Int) (root:Int) (lv pr:Value) (R:List Int) (a:Int) (ha:0<=a/\a<=18446744073709551615) (hn:q1y bs a=none) (w:World) (h:q1j w N B bs root lv pr R):
  Calls Tryz.prog 151 #[.pointer (some ⟨B.lb,0,none⟩),.int .u64 a] w fun e w'=>e= .panicked errC/\Below w.heap.size w w':=by
 obtain⟨W1,O⟩:∃W1,W1=w.alloc (.cells #[.int .i64 0,.int .u64 0,.int .u64 0,.int .u64 0,.int .u64 0,.int .u64 0,.int .u64 0,.int .u64 0,.int .u64 0,.int .u64 0,.int .u64 0,.int .u64 0,.int .u64 0,.int .u64 0,.int .u64 0,.int .u64 0,.int .u64 0,.int .u64 0,.int .u64 0,.int .u64 0,.int .u64 0] 55):=⟨_,rfl⟩;have M:Below w.heap.size w W1:=by rw[O];exact ba (Below.refl _ _) _
 have h1:=h.bel M;have CL:=hid (z4o B bs root lv pr a ha W1 h1.fix h1.cells);have MN:=hid q6f;have MY:=hid q4t;have S:=hid M;have h6:=hid O;by_cases hcl:clsI bs a=3
 ·obtain⟨k,U,hk,he⟩:=z2q hcl ha.1 h.fix.some';rw[hcl] at CL;have h7:=h.fix.nums;have h5:=h.fix.wc;have c0:∀W,Below W1.heap.size W1 W->W.cell? ⟨B.lb,0,none⟩=some (.slice (some ⟨B.wb,0,none⟩) (bs.length/8) B.wc):=fun W hb=>(h1.bel hb).cells.cell 0;have BL:Hid (∀W,Below W1.heap.size W1 W->Calls Tryz.prog 204 #[.pointer (some ⟨B.lb,0,none⟩),.int .u64 a,.int .i64 3] W fun e w'=>e= .returned (.slice (some ⟨B.wb,k,none⟩) 24 (B.wc-k))/\Below W.heap.size W w'):=hid (fun W (hb:Below W1.heap.size W1 W)=>z5m B.lb B.wb (bs.length/8) B.wc 3 (by omega) a k U (by show k+8*3<=_;omega) (by omega) h5 W (c0 W hb));have LD:=hid (fun W (hb:Below W1.heap.size W1 W)=>v4q (z7p h.fix.byte (h1.bel hb).fix.words hk))
  have OF:=hid (fun W=>v9n (q2p bs (8*k)) W (by
   intro hh;have:q1y bs a=some (q5t (q2p bs a)):=by unfold q1y;exact if_pos ⟨hcl,by unfold q2p at hh;rw[<- U] at hh;simpa using hh⟩
   rw[hn] at this;cases this))
  have FI:Hid (∀W,Calls Tryz.prog 88 #[.int .i64 11] W fun e w'=>e= .returned (.bool false)/\W=w'):=hid (fun W=>z3i 11 W);clear h h1 M O hcl h7 hn h5 c0 hk he U ha;go_enter Tryz.func151,Tryz.ntmps151;go_upto_region 1 with fail;rw[show w.alloc (.cells #[.int .i64 0,.int .u64 0,.int .u64 0,.int .u64 0,.int .u64 0,.int .u64 0,.int .u64 0,.int .u64 0,.int .u64 0,.int .u64 0,.int .u64 0,.int .u64 0,.int .u64 0,.int .u64 0,.int .u64 0,.int .u64 0,.int .u64 0,.int .u64 0,.int .u64 0,.int .u64 0,.int .u64 0] 55)=W1 from h6.out.symm];go_wp2_with fail;refine CL.out.mono ?_;rintro e w2 ⟨rfl,I⟩;have L:=hid I;clear I;go_wp2_with fail;refine(MY.out w2).mono ?_;rintro e w3 ⟨rfl,rfl⟩;go_wp2_with fail;refine(BL.out w2 L.out).mono ?_;rintro e w3 ⟨rfl,Y⟩;have h2:=hid (bx L.out Y);clear Y;have h9:=LD.out w3 h2.out;have h8:Sem.run Tryz.prog (Instr.arrayAt 184 (.slice (some ⟨B.wb,k,none⟩) 24 (B.wc-k))) w3= .ok (.pointer (some ⟨B.wb,k,none⟩)) w3:=v9v B.wb k (B.wc-k) w3;go_wp2_with fail;refine(OF.out w3).mono ?_;rintro e w4 ⟨rfl,h3⟩;have hf:=hid (bx h2.out h3);clear h3 h9 h8;obtain⟨W5,hi,k5,h4⟩:=q3e w4 q2w;have hg:=hid (S.out.trans ((bx hf.out h4).mono S.out.size));clear k5 h4;go_wp2_with fail;refine(FI.out W5).mono ?_;rintro e w7 ⟨rfl,rfl⟩;go_wp2_with fail;refine(MN.out W5).mono ?_;rintro e w7 ⟨rfl,rfl⟩;exact⟨rfl,rfl,hg.out⟩
 ·have e1:(clsI bs a==3)=false:=by simp[hcl]
  clear h h1 M O hcl ha hn;go_enter Tryz.func151,Tryz.ntmps151;go_upto_region 1 with fail;rw[show w.alloc (.cells #[.int .i64 0,.int .u64 0,.int .u64 0,.int .u64 0,.int .u64 0,.int .u64 0,.int .u64 0,.int .u64 0,.int .u64 0,.int .u64 0,.int .u64 0,.int .u64 0,.int .u64 0,.int .u64 0,.int .u64 0,.int .u64 0,.int .u64 0,.int .u64 0,.int .u64 0,.int .u64 0,.int .u64 0] 55)=W1 from h6.out.symm];go_wp2_with fail;refine CL.out.mono ?_;rintro e w2 ⟨rfl,I⟩;have L:=hid (S.out.trans (I.mono S.out.size));clear I;go_wp2_with fail;refine(MN.out w2).mono ?_;rintro e w3 ⟨rfl,rfl⟩;exact⟨rfl,rfl,L.out⟩
end
section
attribute [local go_sem ↓ high] q0v
attribute [local go_sem] Oper.semAt_some q0h
theorem v5d:(Tryz.prog.info? 46).map (fun i=>(i.zero,i.size,i.bytes))=some (some (.int .u64 0),1,8):=by kernel_rfl
structure WdI (w:World) (B4 N0:Nat) (bs:List Int) (w5:World) (xs:List Nat) (v:Value) (W:World):Prop where
 blk:Blk W B4 22 #[v]
 own:W.ownsRow N0 46 1 v xs.length (xs.map fun x=> .int .u64 (wAt bs x))
 bel:Below w.heap.size w W
 keep:q0u [B4] N0 w5 W
theorem WdI.step {w W w9 w5:World} {B4 N0:Nat} {bs:List Int} {xs:List Nat} {v:Value} {x:Nat} {va:Option Addr} {vc:Nat} {tmp:Obj} (hI:WdI w B4 N0 bs w5 xs v W) (hm:w.heap.size<=B4) (Y:B4<N0) (hN:N0<=W.heap.size) (h4:w.heap.size<=N0)
  (ho:w9.ownsRow N0 46 1 (.slice va (xs.length+1) vc) (xs.length+1) (xs.map (fun x=> .int .u64 (wAt bs x))++[.int .u64 (wAt bs x)])) (hg:((W.alloc tmp).drew).grownBy w9 v.ownBlock):
  KeepsFrom N0 W (w9.setCell ⟨B4,0,none⟩ (.slice va (xs.length+1) vc))/\q0u [B4] N0 W (w9.setCell ⟨B4,0,none⟩ (.slice va (xs.length+1) vc))/\WdI w B4 N0 bs w5 (xs++[x]) (.slice va (xs.length+1) vc) (w9.setCell ⟨B4,0,none⟩ (.slice va (xs.length+1) vc)):=by
 have M:∀k,v.ownBlock=some k->N0<=k/\ ∃o:Obj,W.heap[k]?=some o/\o.isCells=true:=by
  intro k hk;rcases hI.own.2 with⟨h1,_⟩|⟨g,cap,S,h1,h2,h3,_⟩;·rw[h1] at hk;cases hk
  ·rw[h1] at hk;have:g=k:=by simpa[Value.ownBlock] using hk
   subst this;exact⟨h2,_,h3,rfl⟩
 have O:∀k,(Value.slice va (xs.length+1) vc).ownBlock=some k->N0<=k:=by
  intro k hk;rcases ho.2 with⟨h1,_⟩|⟨g,cap,S,h1,h2,h3,_⟩;·rw[h1] at hk;cases hk
  ·rw[h1] at hk;have:g=k:=by simpa[Value.ownBlock] using hk
   subst this;exact h2
 have hb:Only v.ownBlock.toList W w9:=((Only.refl _ W).alloc tmp).drew.trans (Only.of_grown (f:=v.ownBlock.toList) hg (fun k hk=>by simp[hk])) (fun x hx=>Or.inl hx);have U:B4∉v.ownBlock.toList:=fun hc=>by have:=(M B4 (by simpa[Option.mem_toList] using hc)).1;omega
 have L:=hb.blk hI.blk U;have I:Only (B4::v.ownBlock.toList) W (w9.setCell ⟨B4,0,none⟩ (.slice va (xs.length+1) vc)):=(hb.mono (fun x hx=>AW _ hx)).setCell (Or.inl (by simp)) _
 have hk:q0u [B4] N0 W (w9.setCell ⟨B4,0,none⟩ (.slice va (xs.length+1) vc)):=⟨I.size,fun k hk hn=>I.block k (AL hk hN) (fun hc=>by
  rcases AN.1 hc with h|h;·exact hn (by simp[h])
  ·have:=(M k (by simpa[Option.mem_toList] using h)).1;omega)⟩
 refine⟨⟨I.size,fun k o hB hk ho=> ?_⟩,hk,⟨L.set_ 0 _,?_,?_,hI.keep.trans hk⟩⟩
 ·refine(I.block k (AA.1 hk).1 (fun hc=> ?_)).trans hk;rcases AN.1 hc with h|h;·omega
  ·obtain⟨_,o',h1,h2⟩:=M k (by simpa[Option.mem_toList] using h);rw[hk] at h1;cases h1;rw[ho] at h2;cases h2
 ·have h1:(w9.setCell ⟨B4,0,none⟩ (.slice va (xs.length+1) vc)).ownsRow N0 46 1 (.slice va (xs.length+1) vc) (xs.length+1) (xs.map (fun x=> .int .u64 (wAt bs x))++[.int .u64 (wAt bs x)]):=
   ((Only.refl [B4] w9).setCell (Or.inl (by simp)) _).own ho (fun k hk hc=>by have:=O k hk;simp at hc;omega)
  simpa using h1
 ·refine⟨I.os.trans hI.bel.os,I.tape.trans hI.bel.tape,I.output.trans hI.bel.output,AH hI.bel.size I.size,fun k hk=> ?_⟩;refine(I.block k (AL hk hI.bel.size) (fun hc=> ?_)).trans (hI.bel.block k hk);rcases AN.1 hc with h|h;·omega
  ·have:=(M k (by simpa[Option.mem_toList] using h)).1;omega
theorem WdI.own_from {w:World} {B4 N0 B:Nat} {bs:List Int} {w5:World} (q:Nat) (h1:w.heap.size<=B) (h3:N0<=w5.heap.size) (hB:N0<=B):OwnFrom B (fun(xs:List (Fin q)) W=> ∃v,WdI w B4 N0 bs w5 (xs.map (·.val)) v W):=by
 rintro xs W W' row ⟨v,h⟩ hg hr;have I:∀r,row=some r-> ∃o:Obj,W.heap[r]?=some o/\o.isCells=false:=fun r e=>(hr r e).2
 exact⟨v,h.blk.grown hg (fun e=>by
   obtain⟨o,ho,hn⟩:=I B4 e.symm;have hb:W.heap[B4]?=_:=h.blk;rw[hb] at ho;injection ho with ho;subst ho;cases hn),z5e h.own hg I,⟨hg.os.trans h.bel.os,hg.tape.trans h.bel.tape,hg.output.trans h.bel.output,AH h.bel.size hg.size,fun k hk=>(hg.block k (AL hk h.bel.size) (fun e=>by have:=(hr k e.symm).1;omega)).trans (h.bel.block k hk)⟩,
  ⟨AH h.keep.size hg.size,fun k hk hn=>by
   by_cases hkw:k<W.heap.size;·exact(hg.block k hkw (fun e=>by have:=(hr k e.symm).1;omega)).trans (h.keep.block k hk hn)
   ·exact absurd (AL hk (AH h3 h.keep.size)) hkw⟩⟩
theorem z6o {w:World} {base I:Nat} {e:TypeId} {size n:Nat} {v:Value} {xs:List Value} (h:w.ownsRow base e size v n xs) (hb:I<=base):w.ownsRow I e size v n xs:=⟨h.1,h.2.imp id (fun⟨g,cap,cur,h1,h2,h3⟩=>⟨g,cap,cur,h1,AH hb h2,h3⟩)⟩
theorem x9h (b off cap:Nat) (q:Nat) (bs:List Int) (hq:bs.length=8*q) (kt:q<=10000) (hj:cap<=9223372036854775807) (w:World) (h:q1m w (some ⟨b,off,none⟩) cap bs):
  CallsIn Fence.wide 5 Tryz.prog 89 #[.slice (some ⟨b,off,none⟩) (8*q) cap] w fun e W'=> ∃v,e= .returned (.tuple #[v,.int .i64 0])/\W'.ownsRow w.heap.size 46 1 v q ((List.range q).map fun x=> .int .u64 (wAt bs x))/\Below w.heap.size w W':=by
 obtain⟨Z,hZ⟩:∃Z,Z=8*q:=⟨_,rfl⟩;rw[<- hZ];have e0:((Z:Int)% 8 !=0)=false:=by rw[hZ];simp
 have HH:=hid h;have HQ:=hid hq;have HZ:=hid hZ;clear h hq hZ;refine callsIn_of_wp_marks Tryz.func89 rfl trivial ?_ rfl;simp only[Tryz.ntmps89,List.size_toArray,List.length_cons,List.length_nil,Nat.reduceAdd,Nat.reduceSub,Array.replicate_succ,Array.replicate_zero,List.push_toArray,List.append_toArray,List.nil_append,List.cons_append];gi_wp2_with fail;refine⟨trivial,(z4m _ _ _ ⟨_,_,_,rfl⟩).mono ?_⟩;rintro e w1 ⟨rfl,rfl⟩;gi_wp2_with fail;generalize hW5:World.alloc _ (Obj.cells #[Value.int IntKind.i64 8] 3)=W5;obtain⟨B4,h7⟩:∃B4,B4=w.heap.size:=⟨_,rfl⟩;obtain⟨Bs,h5⟩:∃Bs,Bs=w.heap.size+1:=⟨_,rfl⟩;obtain⟨Bn,h9⟩:∃Bn,Bn=w.heap.size+1+1:=⟨_,rfl⟩;rw[<- h9,<- h5,<- h7];have k8:W5.heap.size=w.heap.size+3:=by rw[<- hW5];simp
 have hbel:Below w.heap.size w W5:=by rw[<- hW5];exact ba (ba (ba (Below.refl _ _) _) _) _
 have h4:Blk W5 B4 22 #[.slice none 0 0]:=by rw[<- hW5,h7];exact((Blk.new w _ _).alloc _).alloc _
 have kh:W5.cell? ⟨Bs,0,none⟩=some (.slice (some ⟨b,off,none⟩) Z cap):=by rw[<- hW5,h5];clear hW5;go_simp
 have ki:W5.cell? ⟨Bn,0,none⟩=some (.int .i64 8):=by rw[<- hW5,h9];clear hW5;go_simp
 have HB:=hid (⟨h7,h5,h9,k8⟩:_/\_/\_/\_);have h3:=hid hbel;have hh:=hid h4;have k4:Bs<W5.heap.size/\Bn<W5.heap.size/\Bs∉ [B4]/\Bn∉ [B4]:=by simp;omega
 have h8:=hid k4;have kj:8*q<=cap:=by have:=HH.out.1;rw[HQ.out] at this;exact this
 clear h7 h5 h9 k8 hbel h4 hW5 k4
 refine wpIn_rangeFunc_ownG rfl (by omega) (gf:=171) (lb:= #[.pointer (some ⟨Bs,0,none⟩),.pointer (some ⟨Bn,0,none⟩)]) rfl trivial (enters_of Tryz.func171 (by kernel_rfl) rfl)
  (z2l 4 q b off cap (some ⟨b,off,none⟩) [B4] W5.heap.size Bs Bn W5 kj hj (fun _=>rfl) h8.out.1 h8.out.2.1 h8.out.2.2.1 h8.out.2.2.2 (AG _) (by rw[<- HZ.out];exact kh) ki) q0u.trans ?hKb (Below.refl _ _) (fun _=>rfl)
  (fun(xs:List (Fin q)) W=> ∃v,WdI w B4 W5.heap.size bs W5 (xs.map (·.val)) v W) (fun _ _ _=>False) ?own (fun _ _ _ _ _ h=>h.elim)
  ?h0
  (fun x=>{ tmps:= #[.slice (some ⟨b,off,none⟩) Z cap,undef,.slice none 0 0,.int .i64 0,.pointer (some ⟨B4,0,none⟩),(.slice (some ⟨b,off+8*x.val,none⟩) 8 8),.slice (some ⟨b,off,none⟩) Z cap,.int .i64 Z,.int .i64 ((Z:Int)% 8),.bool false,.slice (some ⟨b,off,none⟩) Z cap,.func (.func 171) #[] #[.pointer (some ⟨Bs,0,none⟩),.pointer (some ⟨Bn,0,none⟩)],(.slice (some ⟨b,off+8*x.val,none⟩) 8 8),undef,undef,undef,undef,undef,undef],defers:=[] }) ?assign ?body ?done ?stop
 case own=>exact WdI.own_from q h3.out.size (AG _) (AG _)
 case hKb=>intro W l o o' hl ho hc hw;exact q0u.putObj (q0u.refl _ _ _) hl _
 case h0=>exact⟨_,hh.out,⟨rfl,Or.inl ⟨rfl,rfl⟩⟩,h3.out,q0u.refl _ _ _⟩
 case assign=>intro l x W K hK;gi_wp2;exact hK
 case body=>
  rintro l pre x W ⟨v,hI⟩ hlt;obtain⟨cs,ha⟩:∃cs,cs=(bs.drop (8*x.val)).take 8:=⟨_,rfl⟩;have km:=x.isLt;have k3:cs.length=8:=by rw[ha];have:=HQ.out;simp;omega
  have kb:q1m W (some ⟨b,off,none⟩) cap bs:=q2d HH.out hI.bel;have TA:=fun W' (hb:Below W.heap.size W W')=>v5w cs (some ⟨b,off+8*x.val,none⟩) 8 (by omega) W' (by rw[ha];exact(q2d kb hb).cut (8*x.val) 8 (by have:=HQ.out;omega));rw[k3] at TA;have k1:=hid TA;obtain⟨y,hy⟩:∃y,y=leW cs:=⟨_,rfl⟩;rw[<- hy] at k1;have kf:=hid (show y=wAt bs x.val by rw[hy,ha];rfl);obtain⟨L,M⟩:∃L,L=pre.length:=⟨_,rfl⟩;have he:L<10001:=by omega
  have I:=hI.own;rw[AO,<- M] at I;have hr:W5.heap.size<=W.heap.size:=hI.keep.size;have kx:W.drew.cell? ⟨B4,0,none⟩=some v:=hI.blk.cell 0;have kz:(W.alloc (.cells #[.int .u64 y] 46)).drew.cell? ⟨B4,0,none⟩=some v:=(hI.blk.alloc _).cell 0;have z1:(W.drew.alloc (.cells #[.int .u64 y] 46)).cell? ⟨B4,0,none⟩=some v:=(hI.blk.alloc _).cell 0;obtain⟨i0,k5,k9,kc,k0⟩:=info_parts v5d;have ht:(W.alloc (.cells #[.int .u64 y] 46)).drew.ownsRow W5.heap.size 46 1 v L ((pre.map (·.val)).map fun x=> .int .u64 (wAt bs x)):=(((Only.refl [] W).alloc _).drew).own I (by simp);obtain⟨v',w9,hA⟩:=q2b (P:=Tryz.prog) ((W.alloc (.cells #[.int .u64 y] 46)).drew) W5.heap.size 22 22 46 i0 (.int .u64 0) 1 8 Tryz.underlying22 k5 k9 kc k0 rfl (by decide) v L _ ht (.slice (some ⟨W.heap.size,0,none⟩) 1 1) 1 [.int .u64 y] (Or.inr ⟨W.heap.size,0,1,rfl,fun i u hi=>by rw[(Blk.new W 46 #[.int .u64 y]).drew.cell (0+i),AQ];simpa using hi⟩) rfl (fun u hu=>by rw[AF.1 hu];rfl) (by unfold maxLen;omega) (by omega) (by have:=HB.out;simp;omega);have kq:=hA.run;have O:=hA.own;have Y:=hA.grown;obtain⟨kr,kp,rfl⟩:=q0q O
  have hs:some B4≠v.ownBlock:=fun e=>by
   rcases I.2 with⟨h1,_⟩|⟨g,kd,kk,h1,h2,_⟩;·rw[h1] at e;cases e
   ·rw[h1] at e;simp[Value.ownBlock] at e;have:=HB.out;omega
  have hg:Blk w9 B4 22 #[v]:=((hI.blk.alloc (.cells #[.int .u64 y] 46)).drew).grown Y hs;have ky:w9.cell? ⟨B4,0,none⟩=some v:=hg.cell 0;have z2:=hg.frozen 0;have HI:=hid hI;have ke:=hid O;have ko:=hid Y;have k7:=hid M;have kg:=hid hr;clear hlt km ha k3 kb TA hy M he I hr k5 k9 kc k0 ht hA O Y hs hg hI;gi_wp2_with fail;refine z1q (X:= ?X) (fun key=> ?_) ?_
  rotate_left
  ·gi_region_with (first
    | (refine⟨trivial,?_⟩;gi_at_call 168;(with_reducible refine(CallsIn.inRound l (callsIn_wide.2 (k1.out _ (by repeat(first|(exact Below.refl _ _)|(refine Below.drew ?_)))))).mono ?_);rintro e w1 ⟨rfl,rfl⟩))
   all_goals exact key.out
  gi_wp2;have h6:=WdI.step (x:=x.val) (tmp:= .cells #[.int .u64 y] 46) HI.out (by have:=HB.out;omega) (by have:=HB.out;omega) kg.out (by have:=HB.out;omega) (va:=kr) (vc:=kp) (by rw[AO,<- k7.out,<- kf.out];exact ke.out) ko.out;rw[AO,<- k7.out] at h6;refine⟨h6.1,h6.2.1,⟨_,by rw[Ah];exact h6.2.2⟩⟩
 case done=>
  rintro D xs W hD rfl ⟨v,hI⟩ hK;have z0:W.cell? ⟨B4,0,none⟩=some v:=hI.blk.cell 0;have hz:((List.finRange q).map (·.val))=List.range q:=by apply DP<;>simp
  have I:=hI.own;rw[hz,CT] at I;have hf:Only [D] W (W.putObj D (.deferred none)):=(Only.refl [D] W).putObj (Or.inl (by simp)) _;have hp:∀k,v.ownBlock=some k->k∉ [D]:=by intro k hk hm;obtain⟨cs,t,fr,hc⟩:=q5e I k hk;rw[AF] at hm;subst hm;rw[hc] at hK;cases hK
  have S:=hf.own I hp;have U:Below w.heap.size w (W.putObj D (.deferred none)):=hI.bel.trans (hf.below (fun x hx=>by rw[AF.1 hx];have:=HB.out;omega) hI.bel.size);have HR:=hid (⟨S,U⟩:_/\_);have kn:=hid hK;clear hI I hf hp S U hz hK;gi_wp2;refine z3j (v:= .tuple #[v,.int .i64 0]) kn.out (by simp[results,Tryz.results89,go_sem]) ?_;exact⟨v,rfl,z6o HR.out.1 (by have:=HB.out;omega),HR.out.2⟩
 case stop=>exact fun _ _ _ _ _ _ h=>h.elim
theorem v0g (b off cap:Nat) (q:Nat) (bs:List Int) (hq:bs.length=8*q) (L:q<=10000) (I:cap<=9223372036854775807) (w:World) (h:q1m w (some ⟨b,off,none⟩) cap bs):
  Calls Tryz.prog 89 #[.slice (some ⟨b,off,none⟩) (8*q) cap] w fun e W'=> ∃v,e= .returned (.tuple #[v,.int .i64 0])/\W'.ownsRow w.heap.size 46 1 v q ((List.range q).map fun x=> .int .u64 (wAt bs x))/\Below w.heap.size w W':=
 callsIn_wide.1 (x9h b off cap q bs hq L I w h)
end
theorem x9p (bs:List Int) (i:Nat):q1u bs i=(wAt bs (128*i)).toNat:=by unfold q1u wAt;rw[show 8*(128*i)=1024*i by omega]
theorem x5l (bs:List Int) (i:Nat):q4r bs i=(wAt bs (128*i+1)).toNat:=by unfold q4r wAt;rw[show 8*(128*i+1)=1024*i+8 by omega]
theorem x4o:∃i,Tryz.prog.info? 151=some i/\i.zero=some (.agg #[.int .i64 0,.int .u64 0])/\i.size=2/\i.bytes=16:=by
 have h:(Tryz.prog.info? 151).map (fun i=>(i.zero,i.size,i.bytes))=some (some (.agg #[.int .i64 0,.int .u64 0]),2,16):=by kernel_rfl
 obtain⟨i,hi,hz⟩:=BX.1 h;simp only[Prod.mk.injEq] at hz;exact⟨i,hi,hz.1,hz.2.1,hz.2.2⟩
structure HdsI (bs:List Int) (N i:Nat) (cs:Array Value):Prop where
 size:cs.size=N*2
 get:∀k,k<N->cs[k*2]?=some (.int .i64 (if k<i then((z1z bs k:Nat):Int) else 0))/\cs[k*2+1]?=some (.int .u64 (if k<i then((z0g bs k:Nat):Int) else 0))
theorem x9z (bs:List Int) (n:Nat) (hn:n<=1000) (w:World):∃cs,(Instr.makeSlice 138 (.int .i64 (n:Int)) (.int .i64 (n:Int))).run Tryz.prog w= .ok (.slice (some ⟨w.heap.size,0,none⟩) n n) (w.alloc (.cells cs 151))/\HdsI bs n 1 cs:=by
 obtain⟨i,h1,h2,h3,h4⟩:=x4o;have:=run_make (P:=Tryz.prog) w 138 151 i _ Tryz.underlying138 h1 h2 .i64 .i64 (n:Int) (n:Int) (by omega) (Int.le_refl _) (by rw[h4];omega) (by omega);rw[BG,h3] at this;refine⟨_,this,?_,fun k hk=> ?_⟩;·rw[size_madeCells]
 ·have e:∀j,j<n*2->(madeCells (Value.agg #[.int .i64 0,.int .u64 0]).cells (n*2))[j]?=some (if j % 2=0 then .int .i64 0 else .int .u64 0):=by
   intro j hj;rw[AS (by rw[size_madeCells];exact hj)];congr 1;simp only[madeCells,Array.getElem_map,Array.getElem_range];have hc:(Value.agg #[.int .i64 0,.int .u64 0]).cells= #[.int .i64 0,.int .u64 0]:=rfl;rw[hc];have h3:j % 2=0\/j % 2=1:=by omega
   rcases h3 with h3|h3;·simp[h3]
   ·simp[h3]
  have h1:((if k<1 then((z1z bs k:Nat):Int) else 0)=0)/\((if k<1 then((z0g bs k:Nat):Int) else 0)=0):=by
   by_cases h0:k<1
   ·have:k=0:=by omega
    subst this;exact⟨rfl,rfl⟩
   ·rw[if_neg h0,if_neg h0];exact⟨rfl,rfl⟩
  rw[h1.1,h1.2,e (k*2) (by omega),e (k*2+1) (by omega),if_pos (show k*2 % 2=0 by omega),if_neg (show ¬(k*2+1)% 2=0 by omega)];exact⟨rfl,rfl⟩
def z0p (bs:List Int):Prop:=0<q0w bs.length/\ ∀i,1<=i->i<nsI bs+1->q2k bs i=true
structure SlbI (bs:List Int) (w:World) (B:LkP) (i:Nat) (cs:Array Value) (W:World):Prop where
 cells:Blk W B.lb 142 (x6v B bs 0 (.slice none 0 0) (.slice none 0 0))
 words:q1r W B.wb 0 (q5g bs)
 heads:Blk W B.hb 151 cs
 hds:HdsI bs (nsI bs+1) i cs
 set:q7g W B.mb []
 ge:w.heap.size<=B.lb/\w.heap.size<=B.wb/\w.heap.size<=B.hb/\w.heap.size<=B.mb
 ne:B.lb≠B.wb/\B.lb≠B.hb/\B.lb≠B.mb/\B.wb≠B.hb/\B.wb≠B.mb/\B.hb≠B.mb
 wc:bs.length/8<=B.wc
 ok:∀k,1<=k->k<i->q2k bs k=true
 bel:Below w.heap.size w W
theorem SlbI.bel' {bs:List Int} {w:World} {B:LkP} {i:Nat} {cs:Array Value} {W W':World} (h:SlbI bs w B i cs W) (hb:Below W.heap.size W W'):SlbI bs w B i cs W':=⟨h.cells.bel hb,h.words.bel hb,h.heads.bel hb,h.hds,h.set.only (Only.of_below hb []) (by simp),h.ge,h.ne,h.wc,h.ok,bx h.bel hb⟩
theorem SlbI.step {bs:List Int} {w:World} {B:LkP} {i:Nat} {cs:Array Value} {W:World} (h:SlbI bs w B i cs W) (hi:1<=i) (L:q2k bs i=true):SlbI bs w B (i+1) ((cs.setIfInBounds (i*2) (.int .i64 (q1u bs i:Nat))).setIfInBounds (i*2+1) (.int .u64 (q4r bs i:Nat))) ((W.setCell ⟨B.hb,i*2,none⟩ (.int .i64 (q1u bs i:Nat))).setCell ⟨B.hb,i*2+1,none⟩ (.int .u64 (q4r bs i:Nat))):=by
 have ho:Only [B.hb] W ((W.setCell ⟨B.hb,i*2,none⟩ (.int .i64 (q1u bs i:Nat))).setCell ⟨B.hb,i*2+1,none⟩ (.int .u64 (q4r bs i:Nat))):=((Only.refl _ W).setCell (Or.inl (by simp)) _).setCell (Or.inl (by simp)) _;have I:=h.ne;have M:=h.hds.size;refine⟨ho.blk h.cells (by simp;omega),⟨AL h.words.1 ho.size,fun j x hj=>(ho.cell (p:=⟨B.wb,0+j,none⟩) h.words.1 (by simp;omega)).trans (h.words.2 j x hj)⟩,(h.heads.set_ _ _).set_ _ _,⟨by simp[M],fun k hk=> ?_⟩,h.set.only ho (by simp;omega),h.ge,I,h.wc,fun k h1 h2=> ?_,h.bel.trans (ho.below (fun y hy=>by rw[AF.1 hy];exact h.ge.2.2.1) h.bel.size)⟩
 ·have hg:=h.hds.get k hk;by_cases hki:k=i
  ·subst hki;have e1:z1z bs k=q1u bs k:=by unfold z1z;rw[if_neg (by omega)]
   have e2:z0g bs k=q4r bs k:=by unfold z0g;rw[if_neg (by omega)]
   rw[if_pos (by omega),if_pos (by omega),e1,e2];constructor;·rw[AX (by omega),BA (by omega)]
   ·rw[BA (by simp;omega)]
  ·rw[AX (by omega),AX (by omega),AX (by omega),AX (by omega),hg.1,hg.2];by_cases hlt:k<i;·rw[if_pos hlt,if_pos hlt,if_pos (by omega),if_pos (by omega)];exact⟨rfl,rfl⟩
   ·rw[if_neg hlt,if_neg hlt,if_neg (by omega),if_neg (by omega)];exact⟨rfl,rfl⟩
 ·by_cases hki:k=i;·rw[hki];exact L
  ·exact h.ok k h1 (by omega)
theorem SlbI.done {bs:List Int} {w:World} {B:LkP} {cs:Array Value} {W:World} (h:SlbI bs w B (nsI bs+1) cs W) (hs:0<q0w bs.length) (hb:∀x∈bs,0<=x/\x<256):z0p bs/\q1j W w.heap.size B bs 0 (.slice none 0 0) (.slice none 0 0) []:=⟨⟨hs,h.ok⟩,h.cells,⟨h.words,h.wc,h.heads.lt,fun i hi=>by have hg:=h.hds.get i hi;rw[if_pos hi,if_pos hi] at hg;rw[h.heads.cell,h.heads.cell];exact hg,h.ok,hs,hb⟩,h.set,h.ge,h.ne⟩
theorem x4h (p:Option Addr) (n cap:Nat) (hn:n<=1000000) (hs: ¬0<q0w n) (w:World):
  Calls Tryz.prog 149 #[.slice p n cap] w fun e w'=>e= .panicked errC/\Below w.heap.size w w':=by
 have SL:=hid (q8h n w (by omega) (by omega));rw[AK hs] at SL;have MN:=hid (q6f w);clear hs;go_enter Tryz.func149,Tryz.ntmps149;go_wp2_with fail;refine SL.out.mono ?_;rintro e w1 ⟨rfl,rfl⟩;go_wp2_with fail;refine MN.out.mono ?_;rintro e w1 ⟨rfl,rfl⟩;exact⟨rfl,rfl,Below.refl _ _⟩
theorem v1f (b off cap:Nat) (bs:List Int) (n:Nat) (hn:n=bs.length) (hg:cap<=9223372036854775807) (hs:0<q0w bs.length) (w:World) (h:q1m w (some ⟨b,off,none⟩) cap bs):
  Calls Tryz.prog 149 #[.slice (some ⟨b,off,none⟩) n cap] w fun e w'=>
   (z0p bs/\ ∃B,e= .returned (.pointer (some ⟨B.lb,0,none⟩))/\q1j w' w.heap.size B bs 0 (.slice none 0 0) (.slice none 0 0) []/\Below w.heap.size w w')\/
   (¬z0p bs/\e= .panicked errC/\Below w.heap.size w w'):=by
 have hl:=q1s hs;have ha:((nsI bs:Nat):Int)=q0w bs.length:=by unfold nsI;omega
 have ko:nsI bs+1=bs.length/1024:=hl.2.1;obtain⟨N,hN⟩:∃N,N=nsI bs:=⟨_,rfl⟩;have SL:Hid (Calls Tryz.prog 82 #[.int .i64 n] w fun e w'=>e= .returned (.tuple #[.int .i64 (N:Int),.bool true])/\w=w'):=by have:=q8h n w (by omega) (by omega);rw[hn,AT hs,<- ha,<- hN,<- hn] at this;exact this
 have hq:n=8*(bs.length/8):=by omega
 have WW:=v0g b off cap (bs.length/8) bs (by omega) (by omega) hg w h;rw[<- hq] at WW;have ki:=hid WW;have MY:=hid q4t;have MN:=hid q6f;have FI:Hid (∀W,Calls Tryz.prog 88 #[.int .i64 0] W fun e w'=>e= .returned (.bool true)/\W=w'):=hid (fun W=>z3i 0 W);have HN:=hid hN;have HL:=hid (⟨hl,hn,ha⟩:_/\_/\_);have h8:=hid h.2.1;have i1:IntKind.i64.wrap (1+(N:Int))=((N+1:Nat):Int):=by rw[IntWalk.i64_in _ (by omega)];omega
 have kg:N<=64:=by omega
 have k3:∀W:World,(Instr.makeMap 139 none).run Tryz.prog W= .ok (.map (some W.heap.size)) (W.alloc (.map #[] 0)):=fun W=>by simp[Instr.makeMap,run_underlying Tryz.underlying139]
 clear hs hl hn ha ko hN hq WW h;go_enter Tryz.func149,Tryz.ntmps149;go_wp2_with fail;refine SL.out.mono ?_;rintro e w1 ⟨rfl,rfl⟩;go_wp2_with fail;refine(MY.out w).mono ?_;rintro e w1 ⟨rfl,rfl⟩;go_wp2_with fail;refine ki.out.mono ?_;rintro e w1 ⟨v,rfl,h6,hj⟩;go_wp2_with fail;refine(FI.out w1).mono ?_;rintro e w2 ⟨rfl,rfl⟩;go_wp2_with fail;refine(MY.out w1).mono ?_;rintro e w2 ⟨rfl,rfl⟩;obtain⟨L,kf,h5⟩:=x9z bs (N+1) (by omega) w1;have kx:=k3 (w1.alloc (.cells L 151));clear k3;rw[show(((N+1:Nat):Int))=(N:Int)+1 by omega] at kf;have hr:0<bs.length/8:=by have:=HL.out.1;omega
 obtain⟨wb,wc,rfl,kk,hz,ke,k8⟩:=q2e h6 hr
 have hW:q1r w1 wb 0 (q5g bs):=by
  refine⟨ke,fun i x hi=> ?_⟩;have hk:i<bs.length/8:=by have:=(AE.1 hi).1;rwa[q4w] at this
  obtain⟨y,hy,he,_⟩:=q3l h8.out hk;rw[hy] at hi;injection hi with hi;subst hi;rw[he];exact k8 i _ (by rw[AM,BM hk];rfl)
 obtain⟨W4,h3⟩:∃W4,W4=((w1.alloc (.cells L 151)).alloc (.map #[] 0)).alloc (.cells #[.slice (some ⟨wb,0,none⟩) (bs.length/8) wc,.slice (some ⟨w1.heap.size,0,none⟩) (N+1) (N+1),.int .u64 0,.map (some (w1.heap.size+1)),.slice none 0 0,.slice none 0 0] 142):=⟨_,rfl⟩;obtain⟨B,hB⟩:∃B:LkP,B=⟨w1.heap.size+1+1,wb,wc,w1.heap.size,N+1,w1.heap.size+1⟩:=⟨_,rfl⟩;have kn:=hj.size
 have kp:Hid (SlbI bs w B 1 L W4):=by
  have a1:Below w1.heap.size w1 W4:=by rw[h3];exact ba (ba (ba (Below.refl _ _) _) _) _
  have a2:Blk W4 w1.heap.size 151 L:=by rw[h3];exact((Blk.new _ _ _).alloc _).alloc _
  have a3:Blk W4 (w1.heap.size+1+1) 142 #[.slice (some ⟨wb,0,none⟩) (bs.length/8) wc,.slice (some ⟨w1.heap.size,0,none⟩) (N+1) (N+1),.int .u64 0,.map (some (w1.heap.size+1)),.slice none 0 0,.slice none 0 0]:=by rw[h3];have:=Blk.new ((w1.alloc (.cells L 151)).alloc (.map #[] 0)) 142 #[.slice (some ⟨wb,0,none⟩) (bs.length/8) wc,.slice (some ⟨w1.heap.size,0,none⟩) (N+1) (N+1),.int .u64 0,.map (some (w1.heap.size+1)),.slice none 0 0,.slice none 0 0];rw[World.size_alloc,World.size_alloc] at this;exact this
  have a4:q7g W4 (w1.heap.size+1) []:=by
   refine⟨#[],0,?_,rfl,by simp[x6u]⟩;rw[h3,Below.heap_alloc _ _ _ (by simp)];have:=heap_alloc_new (w1.alloc (.cells L 151)) (.map #[] 0)
   rwa[World.size_alloc] at this
  rw[hB];refine⟨by unfold x6v;rw[<- HN.out];exact a3,hW.bel a1,a2,by rw[<- HN.out];exact h5,a4,⟨?_,?_,?_,?_⟩,⟨?_,?_,?_,?_,?_,?_⟩,hz,fun k h1 h2=>by omega,bx hj a1⟩;all_goals(dsimp only;omega)
 have kh:=hid h3;have km:=hid hB;clear h6 h5 kk ke k8 hW kn hj hB h3 hz hr;go_upto_region 6 with fail;rw[<- kh.out];rw[show w1.heap.size+1+1=B.lb by rw[km.out]];have kq:1<=N:=by have:=HL.out;have:=HN.out;omega
 go_wp2;go_loopw [8,9,10] (fun iv s9 kt wr=> ∃(i:Nat) (cs:Array Value),1<=i/\i<=N+1/\iv= .int .i64 i/\Hid (SlbI bs w B i cs wr)) (fun iv _ _ _=>N+1- (intOf iv).toNat);case atStart=>exact⟨1,L,AG _,by omega,rfl,kp⟩
 case round=>
  obtain⟨i,cs,hh,ht,rfl,hI⟩:=hrel;by_cases hle:i<=N
  ·have j0:(i:Int)<=(N:Int):=by omega
   have hbl:128*i+1<bs.length/8:=by have:=HL.out;have:=HN.out;omega
   obtain⟨x,hx,kj,M⟩:=q3l h8.out (show 128*i<bs.length/8 by omega);obtain⟨y,hy,he,h4⟩:=q3l h8.out hbl;have k7:q1u bs i=x:=by rw[x9p];omega
   have kd:q4r bs i=y:=by rw[x5l];omega
   have k5:q1g (i:Int)=8*((128*i:Nat):Int):=by unfold q1g;rw[if_pos (by omega)];omega
   have Y:x8u (i:Int)=8*((128*i+1:Nat):Int):=by unfold x8u;rw[if_pos (by omega)];omega
   have HZ:=hid (q5k (i:Int) wr);have BZ:=hid (v8u (i:Int) wr);rw[k5] at HZ;rw[Y] at BZ;have c0:wr.cell? ⟨B.lb,0,none⟩=some (.slice (some ⟨B.wb,0,none⟩) (bs.length/8) B.wc):=hI.out.cells.cell 0;have A1:=hid (v7a B.lb B.wb (bs.length/8) B.wc (q5g bs) (q4w bs).symm (by have:=HL.out;omega) (128*i) x hx _ rfl wr c0 hI.out.words);have A2:=hid (v7a B.lb B.wb (bs.length/8) B.wc (q5g bs) (q4w bs).symm (by have:=HL.out;omega) (128*i+1) y hy _ rfl wr c0 hI.out.words);have S:=hid (⟨k7,kd,M,h4⟩:_/\_/\_/\_);have hm:=hid hh;have U:=hid hle;clear hbl hx hy kj he k5 Y c0 k7 kd hh ht hle h4;by_cases hx3:x<=3
   ·have t1:(x:Int)<=3:=by omega
    have xw:IntKind.i64.wrap (x:Int)=(x:Int):=IntWalk.i64_in _ (by omega);have BK:=hid (q7n (x:Int) wr);obtain⟨bz,Y⟩:∃bz,bz=q0m (x:Int):=⟨_,rfl⟩;rw[<- Y] at BK;have MB:=hid (fun W=>v9u y bz S.out.2.2.2 W);obtain⟨mb,hf⟩:∃mb,mb=q4y y bz:=⟨_,rfl⟩;have O:=MB.out;rw[<- hf] at O;have MB:=hid O;have h7:=hid (show q2k bs i=mb by unfold q2k;rw[S.out.1,S.out.2.1,AT hx3,<- Y,<- hf];rfl);clear hx3 Y hf O M;go_wp2_with fail;refine HZ.out.mono ?_;rintro e w2 ⟨rfl,rfl⟩;go_wp2_with fail;refine A1.out.mono ?_;rintro e w2 ⟨rfl,rfl⟩;go_wp2_with fail;refine BZ.out.mono ?_;rintro e w2 ⟨rfl,rfl⟩;go_wp2_with fail;refine A2.out.mono ?_;rintro e w2 ⟨rfl,rfl⟩;go_wp2_with fail;refine BK.out.mono ?_;rintro e w2 ⟨rfl,k9⟩;go_wp2_with fail;refine(MB.out w2).mono ?_;rintro e w3 ⟨rfl,kc⟩;have I:=hid (hI.out.bel' (bx k9 kc));clear k9 kc A1 A2 HZ BZ BK MB;cases mb;·go_wp2_with fail;refine(MN.out w3).mono ?_;rintro e w4 ⟨rfl,rfl⟩;refine⟨rfl,Or.inr ⟨fun h9=> ?_,rfl,I.out.bel⟩⟩;have:=h9.2 i hm.out (by have:=U.out;have:=HN.out;omega);rw[h7.out] at this;cases this
    ·go_wp2_with fail;refine(MY.out w3).mono ?_;rintro e w4 ⟨rfl,rfl⟩;have c1:w3.cell? ⟨B.lb,1,none⟩=some (.slice (some ⟨B.hb,0,none⟩) (nsI bs+1) B.hc):=I.out.cells.cell 1;rw[<- HN.out] at c1;have ho:=I.out.hds.size;rw[<- HN.out] at ho;obtain⟨u0,hp⟩:∃u,cs[i*2]?=some u:=⟨_,AS (by have:=U.out;omega)⟩;obtain⟨u1,k4⟩:∃u,cs[i*2+1]?=some u:=⟨_,AS (by have:=U.out;omega)⟩;have f0:w3.cell? ⟨B.hb,i*2,none⟩=some u0:=(I.out.heads.cell _).trans hp;have f1:w3.cell? ⟨B.hb,i*2+1,none⟩=some u1:=(I.out.heads.cell _).trans k4;have z0:w3.frozen? ⟨B.hb,i*2,none⟩=false:=I.out.heads.frozen _;have z1:w3.frozen? ⟨B.hb,i*2+1,none⟩=false:=I.out.heads.frozen _;have k0:(0:Int)<=(i:Int):=by omega
     have k1:(i:Int)< (N:Int)+1:=by omega
     have kr:=hid ho;clear ho hp k4;have hS:=I.out.step hm.out h7.out;rw[S.out.1,S.out.2.1] at hS;have HS:=hid hS;clear hS;go_wp2;go_roundw;case rel=>exact⟨i+1,_,by omega,by have:=U.out;omega,by go_num,HS⟩
     case measure=>simp[intOf];have:=U.out;omega
   ·have t1: ¬(x:Int)<=3:=by omega
    have h7:=hid (show q2k bs i=false by unfold q2k;rw[S.out.1,AK hx3];rfl);clear hx3 M;go_wp2_with fail;refine HZ.out.mono ?_;rintro e w2 ⟨rfl,rfl⟩;go_wp2_with fail;refine A1.out.mono ?_;rintro e w2 ⟨rfl,rfl⟩;go_wp2_with fail;refine BZ.out.mono ?_;rintro e w2 ⟨rfl,rfl⟩;go_wp2_with fail;refine A2.out.mono ?_;rintro e w2 ⟨rfl,rfl⟩;go_wp2_with fail;refine(MN.out wr).mono ?_;rintro e w4 ⟨rfl,rfl⟩;refine⟨rfl,Or.inr ⟨fun h9=> ?_,rfl,hI.out.bel⟩⟩;have:=h9.2 i hm.out (by have:=U.out;have:=HN.out;omega);rw[h7.out] at this;cases this
  ·obtain rfl:i=N+1:=by omega
   have j0: ¬(((N+1:Nat):Int))<=(N:Int):=by omega
   have hD:=hI.out;have kb:N+1=nsI bs+1:=by rw[HN.out]
   rw[kb] at hD;have HD:=hid (hD.done (by have:=HL.out;omega) h8.out);clear hle ht hh kb hD;go_wp2;go_ret;exact Or.inl ⟨HD.out.1,B,rfl,HD.out.2,hI.out.bel⟩
end Go.Proofs.YtibiekfjbibpbaaGreat
