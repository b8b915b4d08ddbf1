import Derived.Test.YtibiekfjbibpbaaGreatWorM
import Derived.Test.YtibiekfjbibpbaaGreatGeoN
set_option maxRecDepth 100000
set_option maxHeartbeats 1000000
set_option linter.unusedVariables false
set_option linter.unusedSimpArgs false
namespace Go.Proofs.YtibiekfjbibpbaaGreat
open Go.RowKit
def q1r (w:World) (b off:Nat) (ns:List Nat):Prop:=b<w.heap.size/\ ∀i x,ns[i]?=some x->w.cell? ⟨b,off+i,none⟩=some (.int .u64 ((x:Nat):Int))
theorem q1r.bel {w w':World} {b off:Nat} {ns:List Nat} (h:q1r w b off ns) (hb:Below w.heap.size w w'):q1r w' b off ns:=⟨AL h.1 hb.size,fun i x hi=>(hb.cell (p:=⟨b,off+i,none⟩) h.1).trans (h.2 i x hi)⟩
theorem q1r.nums {w:World} {b off:Nat} {ns:List Nat} (h:q1r w b off ns) (m cap:Nat) (hm:m=ns.length):q1w .u64 w (.slice (some ⟨b,off,none⟩) m cap) (ns.map fun x:Nat=>(x:Int)):=by
 refine⟨some ⟨b,off,none⟩,cap,by rw[AO,hm],Or.inr ⟨b,off,rfl,h.1,fun i x hi=> ?_⟩⟩;rw[AM] at hi;cases he:ns[i]? with
 | none=>rw[he] at hi;cases hi
 | some y=>rw[he] at hi;injection hi with hi;subst hi;exact h.2 i y he
theorem q1r.drop {w:World} {b off:Nat} {ns:List Nat} (h:q1r w b off ns) (k:Nat):q1r w b (off+k) (ns.drop k):=⟨h.1,fun i x hi=>by rw[Ar] at hi;have:=h.2 (k+i) x hi;rwa[<- Ce] at this⟩
theorem q1r.take {w:World} {b off:Nat} {ns:List Nat} (h:q1r w b off ns) (k:Nat):q1r w b off (ns.take k):=
 ⟨h.1,fun i x hi=>by
  rw[AV] at hi;split at hi;·exact h.2 i x hi
  ·cases hi⟩
theorem q2e {w:World} {base:Nat} {e:TypeId} {v:Value} {n:Nat} {xs:List Value} (h:w.ownsRow base e 1 v n xs) (h0:0<n):∃g cap,v= .slice (some ⟨g,0,none⟩) n cap/\base<=g/\n<=cap/\g<w.heap.size/\ ∀i x,xs[i]?=some x->w.cell? ⟨g,0+i,none⟩=some x:=by
 rcases h.2 with⟨_,h2⟩|⟨g,cap,I,rfl,h2,h3,h4,h5,h6,h7⟩;·omega
 ·refine⟨g,cap,rfl,h2,h4,(AA.1 h3).1,fun i x hi=> ?_⟩;have hc:Blk w g e I:=h3;have hl:i<n:=by have:=(AE.1 hi).1;have:=h.1;omega
  rw[hc.cell,AQ,<- Ad];rw[<- h7,AV,if_pos (by omega)] at hi;exact hi
theorem z0b (w:World) (g cap n:Nat) (bs:List Int) (hn:n<=bs.length) (hc:∀i x,(q2u bs)[i]?=some x->w.cell? ⟨g,0+i,none⟩=some x):(convert 36 9 (.slice (some ⟨g,0,none⟩) n cap)).run Tryz.prog w= .ok (.string (strOfNums (bs.take n))) w:=by
 refine run_convert_bytes_arg (P:=Tryz.prog) w 36 5 Tryz.underlying36 Tryz.underlying5 g 0 n cap (bs.take n) (by rw[AU];omega) (fun i hi=>hc i _ ?_) 9 Tryz.underlying9;have I:i< (bs.take n).length:=by rw[AU];omega
 unfold q2u;rw[AM,Ag,AD I,AD (by omega:i<bs.length)];simp
def q6n (n:Nat) (ns:List Nat):Value:=if q4h ns n then .tuple #[.string (strOfNums ((q0i ns).take n)),.int .i64 0] else .tuple #[.string { data:= #[] },.int .i64 11]
theorem x5b (n:Nat) (ns:List Nat) (hn:n<=120) (hl:ns.length=(n+7)/8) (ho:∀x∈ns,x<18446744073709551616) (b off m cap:Nat) (hm:m=ns.length+1) (he:m<=cap) (w:World) (h:q1r w b off (n::ns)):
  Calls Tryz.prog 270 #[.slice (some ⟨b,off,none⟩) m cap] w fun e W'=>e= .returned (q6n n ns)/\Below w.heap.size w W':=by
 have c0:w.cell? ⟨b,off,none⟩=some (.int .u64 (n:Int)):=h.2 0 n rfl;have ht:m<=16:=by omega
 have e0:((m:Int)==0)=false:=by simp;omega
 have e1:IntKind.i64.wrap ((m:Int)-1)=(m:Int)-1:=IntWalk.i64_in _ (by omega);have e2:IntKind.i64.wrap (8*((m:Int)-1))=8*((m:Int)-1):=IntWalk.i64_in _ (by omega);have e3:IntKind.u64.wrap (8*((m:Int)-1))=8*((m:Int)-1):=IntWalk.u64_in _ (by omega);have e4: ¬8*((m:Int)-1)< (n:Int):=by omega
 have i0:(0:Int)< (m:Int):=by omega
 have i1:(1:Int)<=(m:Int):=by omega
 have im:1<=m:=by omega
 have H:=hid h;have HM:=hid hm;have hf:=hid he;have HL:=hid hl;have h9:=hid ho;clear h hm hl ho he;have TB:∀W,Below w.heap.size w W->Calls Tryz.prog 185 #[.slice (some ⟨b,off+1,none⟩) (m-1) (cap-1)] W fun e W'=> ∃u,e= .returned u/\W'.ownsRow W.heap.size 5 1 u (8*ns.length) (q2u (q0i ns))/\Below W.heap.size W W'/\(ns.length=0->u= .slice none 0 0):=fun W hW=>x2t ns h9.out (by have:=HL.out;omega) _ W (((H.out.drop 1).bel hW).nums (m-1) (cap-1) (by have:=HM.out;show _=ns.length;omega));have hr:ns.length=0-> ∀W,Below w.heap.size w W->Calls Tryz.prog 185 #[.slice (some ⟨b,off,none⟩) 0 0] W fun e W'=> ∃u,e= .returned u/\W'.ownsRow W.heap.size 5 1 u (8*ns.length) (q2u (q0i ns))/\Below W.heap.size W W'/\(ns.length=0->u= .slice none 0 0):=fun h0 W hW=>x2t ns h9.out (by have:=HL.out;omega) _ W (by rw[Am.1 h0];exact⟨_,_,rfl,Or.inl rfl⟩);have hq:=hid TB;have hh:=hid hr;clear TB hr;by_cases hc1:cap=1
 ·have hi:m=1:=by have:=HM.out;have:=hf.out;omega
  have hz:ns.length=0:=by have:=HM.out;omega
  have hg:n=0:=by have:=HL.out;omega
  have hj:=hid (show q0i ns=[] by rw[Am.1 hz];rfl);have HZ:=hid (⟨hz,trivial⟩:_/\True);subst hc1 hi;clear hz;subst hg;go_enter Tryz.func270,Tryz.ntmps270;go_wp2_with fail;go_region_with ((go_at_call 185;refine(hh.out HZ.out.1 _ (by repeat(first|(exact Below.refl _ _)|(refine Below.drew ?_)))).mono ?_;rintro e v1 ⟨u,rfl,L,h5,hu⟩;obtain rfl:=hu HZ.out.1;have O:Below w.heap.size w v1:=bx (by repeat(first|(exact Below.refl _ _)|(refine Below.drew ?_))) h5;have d1:v1.cell? ⟨b,off,none⟩=some (.int .u64 ((0:Nat):Int)):=(H.out.bel O).2 0 0 rfl;have hk:(convert 36 9 (.slice none 0 0)).run Tryz.prog v1= .ok (.string ByteArray.empty) v1:=run_convert_bytes_nil (P:=Tryz.prog) v1 36 5 Tryz.underlying36 Tryz.underlying5 0 0 9 Tryz.underlying9;have ha:=hid O;clear L hu h5 O))
  all_goals
   obtain⟨T,hT⟩:∃T,T=strOfNums ((q0i ns).take 0):=⟨_,rfl⟩;have M:strB T=(q0i ns).take 0:=by rw[hT];exact q8p (fun x hx=>q9c ns x (Ab hx))
   have h7:T.size=0:=by rw[<- q2v,M,AU,q2f];have:=HL.out;omega
   rw[show(ByteArray.empty:ByteArray)=T by rw[hT,hj.out];rfl];have S:=hid (⟨hT,M,h7⟩:_/\_/\_);have PK:=hid (z9x T (by omega) v1);clear hT M h7;go_wp2_with fail;refine PK.out.mono ?_;rintro e v2 ⟨u2,rfl,I,h4⟩;rw[S.out.2.2] at I;obtain⟨a2,c2,rfl⟩:=q0q I
   have h3:q1w .u64 v2 (.slice a2 ((0+7)/8+1) c2) (q5m (strB T) ((0+7)/8)):=q1w.of_own (by
    have hl:(q5m (strB T) ((0+7)/8)).length=(0+7)/8+1:=by unfold q5m;simp
    rw[hl];exact I)
   have Y:Below w.heap.size w v2:=bx ha.out h4;have EQ:=hid (x0t _ _ _ _ v2 h3 ((H.out.bel Y).nums 1 1 HM.out) (by unfold q5m;simp<;>omega) (by simp<;>(have:=HM.out;omega)));have h1:decide (q5m (strB T) ((0+7)/8)=(0::ns).map (fun x:Nat=>(x:Int)))=q4h ns 0:=by rw[S.out.2.1];exact z0n ns 0 h9.out HL.out
   rw[h1] at EQ;have h8:=hid Y;obtain⟨cl,U⟩:∃cl,cl=q4h ns 0:=⟨_,rfl⟩;rw[<- U] at EQ;have HC:=hid U;clear U h1 h3 Y I h4 PK;go_wp2_with fail;refine EQ.out.mono ?_;rintro e v3 ⟨rfl,h6⟩;have h2:=hid (bx h8.out h6);clear h6 EQ;cases cl;·go_wp2;refine bodyPost_ret (v:= .tuple #[.string { data:= #[] },.int .i64 11]) (by simp[results,Tryz.results270,go_sem]) rfl ?_;exact⟨by unfold q6n;rw[<- HC.out];rfl,h2.out⟩
   ·go_wp2;refine bodyPost_ret (v:= .tuple #[.string T,.int .i64 0]) (by simp[results,Tryz.results270,go_sem]) rfl ?_;exact⟨by unfold q6n;rw[<- HC.out,<- S.out.1];rfl,h2.out⟩
 ·have hy: ¬(1:Nat)=cap:=fun h=>hc1 h.symm;rcases Bt ns.length with hz|hp
  ·have hi:m=1:=by have:=HM.out;omega
   have hg:n=0:=by have:=HL.out;omega
   have hj:=hid (show q0i ns=[] by rw[Am.1 hz];rfl);have HZ:=hid (⟨hz,trivial⟩:_/\True);subst hi;clear hz;subst hg;go_enter Tryz.func270,Tryz.ntmps270;go_wp2_with fail;go_region_with ((go_at_call 185;refine(hq.out _ (by repeat(first|(exact Below.refl _ _)|(refine Below.drew ?_)))).mono ?_;rintro e v1 ⟨u,rfl,L,h5,hu⟩;obtain rfl:=hu HZ.out.1;have O:Below w.heap.size w v1:=bx (by repeat(first|(exact Below.refl _ _)|(refine Below.drew ?_))) h5;have d1:v1.cell? ⟨b,off,none⟩=some (.int .u64 ((0:Nat):Int)):=(H.out.bel O).2 0 0 rfl;have hk:(convert 36 9 (.slice none 0 0)).run Tryz.prog v1= .ok (.string ByteArray.empty) v1:=run_convert_bytes_nil (P:=Tryz.prog) v1 36 5 Tryz.underlying36 Tryz.underlying5 0 0 9 Tryz.underlying9;have ha:=hid O;clear L hu h5 O))
   all_goals
    obtain⟨T,hT⟩:∃T,T=strOfNums ((q0i ns).take 0):=⟨_,rfl⟩;have M:strB T=(q0i ns).take 0:=by rw[hT];exact q8p (fun x hx=>q9c ns x (Ab hx))
    have h7:T.size=0:=by rw[<- q2v,M,AU,q2f];have:=HL.out;omega
    rw[show(ByteArray.empty:ByteArray)=T by rw[hT,hj.out];rfl];have S:=hid (⟨hT,M,h7⟩:_/\_/\_);have PK:=hid (z9x T (by omega) v1);clear hT M h7;go_wp2_with fail;refine PK.out.mono ?_;rintro e v2 ⟨u2,rfl,I,h4⟩;rw[S.out.2.2] at I;obtain⟨a2,c2,rfl⟩:=q0q I
    have h3:q1w .u64 v2 (.slice a2 ((0+7)/8+1) c2) (q5m (strB T) ((0+7)/8)):=q1w.of_own (by
     have hl:(q5m (strB T) ((0+7)/8)).length=(0+7)/8+1:=by unfold q5m;simp
     rw[hl];exact I)
    have Y:Below w.heap.size w v2:=bx ha.out h4;have EQ:=hid (x0t _ _ _ _ v2 h3 ((H.out.bel Y).nums 1 cap HM.out) (by unfold q5m;simp<;>omega) (by simp<;>(have:=HM.out;omega)));have h1:decide (q5m (strB T) ((0+7)/8)=(0::ns).map (fun x:Nat=>(x:Int)))=q4h ns 0:=by rw[S.out.2.1];exact z0n ns 0 h9.out HL.out
    rw[h1] at EQ;have h8:=hid Y;obtain⟨cl,U⟩:∃cl,cl=q4h ns 0:=⟨_,rfl⟩;rw[<- U] at EQ;have HC:=hid U;clear U h1 h3 Y I h4 PK;go_wp2_with fail;refine EQ.out.mono ?_;rintro e v3 ⟨rfl,h6⟩;have h2:=hid (bx h8.out h6);clear h6 EQ;cases cl;·go_wp2;refine bodyPost_ret (v:= .tuple #[.string { data:= #[] },.int .i64 11]) (by simp[results,Tryz.results270,go_sem]) rfl ?_;exact⟨by unfold q6n;rw[<- HC.out];rfl,h2.out⟩
    ·go_wp2;refine bodyPost_ret (v:= .tuple #[.string T,.int .i64 0]) (by simp[results,Tryz.results270,go_sem]) rfl ?_;exact⟨by unfold q6n;rw[<- HC.out,<- S.out.1];rfl,h2.out⟩
  ·have i8:(0:Int)<=(n:Int):=by omega
   have hs:=hid hp;clear hp;go_enter Tryz.func270,Tryz.ntmps270;go_wp2_with fail;go_region_with ((go_at_call 185;refine(hq.out _ (by repeat(first|(exact Below.refl _ _)|(refine Below.drew ?_)))).mono ?_;rintro e v1 ⟨u,rfl,L,h5,hu⟩;obtain⟨g,cp,rfl,hg1,hg2,hg3,hg4⟩:=q2e L (by have:=hs.out;omega);have O:Below w.heap.size w v1:=bx (by repeat(first|(exact Below.refl _ _)|(refine Below.drew ?_))) h5;have d1:v1.cell? ⟨b,off,none⟩=some (.int .u64 ((n:Nat):Int)):=(H.out.bel O).2 0 n rfl;have hk:=z0b v1 g cp n (q0i ns) (by rw[q2f];have:=HL.out;omega) hg4;have i7:(n:Int)<=(cp:Int):=(by have:=HL.out;omega);have ha:=hid O;clear L hu h5 O hg1 hg2 hg3 hg4))
   all_goals
    obtain⟨T,hT⟩:∃T,T=strOfNums ((q0i ns).take n):=⟨_,rfl⟩;have M:strB T=(q0i ns).take n:=by rw[hT];exact q8p (fun x hx=>q9c ns x (Ab hx))
    have h7:T.size=n:=by rw[<- q2v,M,AU,q2f];have:=HL.out;omega
    rw[<- hT];have S:=hid (⟨hT,M,h7⟩:_/\_/\_);have PK:=hid (z9x T (by omega) v1);clear hT M h7;go_wp2_with fail;refine PK.out.mono ?_;rintro e v2 ⟨u2,rfl,I,h4⟩;rw[S.out.2.2] at I;obtain⟨a2,c2,rfl⟩:=q0q I
    have h3:q1w .u64 v2 (.slice a2 ((n+7)/8+1) c2) (q5m (strB T) ((n+7)/8)):=q1w.of_own (by
     have hl:(q5m (strB T) ((n+7)/8)).length=(n+7)/8+1:=by unfold q5m;simp
     rw[hl];exact I)
    have Y:Below w.heap.size w v2:=bx ha.out h4;have EQ:=hid (x0t _ _ _ _ v2 h3 ((H.out.bel Y).nums m cap HM.out) (by unfold q5m;simp<;>omega) (by simp<;>(have:=HM.out;omega)));have h1:decide (q5m (strB T) ((n+7)/8)=(n::ns).map (fun x:Nat=>(x:Int)))=q4h ns n:=by rw[S.out.2.1];exact z0n ns n h9.out HL.out
    rw[h1] at EQ;have h8:=hid Y;obtain⟨cl,U⟩:∃cl,cl=q4h ns n:=⟨_,rfl⟩;rw[<- U] at EQ;have HC:=hid U;clear U h1 h3 Y I h4 PK;go_wp2_with fail;refine EQ.out.mono ?_;rintro e v3 ⟨rfl,h6⟩;have h2:=hid (bx h8.out h6);clear h6 EQ;cases cl;·go_wp2;refine bodyPost_ret (v:= .tuple #[.string { data:= #[] },.int .i64 11]) (by simp[results,Tryz.results270,go_sem]) rfl ?_;exact⟨by unfold q6n;rw[<- HC.out];rfl,h2.out⟩
    ·go_wp2;refine bodyPost_ret (v:= .tuple #[.string T,.int .i64 0]) (by simp[results,Tryz.results270,go_sem]) rfl ?_;exact⟨by unfold q6n;rw[<- HC.out,<- S.out.1];rfl,h2.out⟩
theorem z7r (n:Nat) (ns:List Nat) (hn:n<=120) (hl:ns.length=(n+7)/8) (h5:∀x∈ns,x<18446744073709551616) (b off m cap:Nat) (hm:m=ns.length+1) (U:m<=cap) (w:World) (h:q1r w b off (n::ns)):
  Calls Tryz.prog 165 #[.slice (some ⟨b,off,none⟩) m cap] w fun e W'=>e= .returned (q6n n ns)/\Below w.heap.size w W':=by
 have c0:w.cell? ⟨b,off,none⟩=some (.int .u64 (n:Int)):=h.2 0 n rfl;have hj:m<=16:=by omega
 have e0:((m:Int)==0)=false:=by simp;omega
 have e1:IntKind.i64.wrap ((m:Int)-1)=(m:Int)-1:=IntWalk.i64_in _ (by omega);have e2:IntKind.u64.wrap ((m:Int)-1)=(m:Int)-1:=IntWalk.u64_in _ (by omega);have e3:IntKind.u64.wrap (((m:Int)-1)*8)=((m:Int)-1)*8:=IntWalk.u64_in _ (by omega);have e4: ¬((m:Int)-1)*8< (n:Int):=by omega
 have e5:IntKind.u64.wrap (((m:Int)-1)*8- (n:Int))=((m:Int)-1)*8- (n:Int):=IntWalk.u64_in _ (by omega);have e6: ¬(8:Int)<=((m:Int)-1)*8- (n:Int):=by omega
 have e7:IntKind.i64.wrap (n:Int)=(n:Int):=IntWalk.i64_in _ (by omega);have i0:(0:Int)< (m:Int):=by omega
 have i1:(1:Int)<=(m:Int):=by omega
 have i2:(0:Int)<=(n:Int):=by omega
 have im:1<=m:=by omega
 have H:=hid h;have HM:=hid hm;have M:=hid U;have HL:=hid hl;have k0:=hid h5
 have TB:∀ao c,(ao=some ⟨b,off+1,none⟩\/ns.length=0)->Calls Tryz.prog 214 #[.slice ao (m-1) c] w fun e W'=> ∃u,e= .returned u/\W'.ownsRow w.heap.size 5 1 u (8*ns.length) (q2u (q0i ns))/\Below w.heap.size w W'/\(ns.length=0->u= .slice none 0 0):=by
  intro ao c ho;refine x9n ns h5 (by omega) _ w ?_;by_cases h0:ns.length=0;·rw[Am.1 h0,show m-1=0 by omega];exact⟨_,_,rfl,Or.inl rfl⟩
  ·rcases ho with rfl|ho;·exact(h.drop 1).nums (m-1) c (by show _=ns.length;omega)
   ·exact absurd ho h0
 have S:=hid TB;clear TB h hm hl h5 U;rcases Bt ns.length with hz|hp
 ·have hf:n=0:=by have:=HL.out;omega
  have ht:=hid (show q0i ns=[] by rw[Am.1 hz];rfl);have HZ:=hid hz;subst hf;clear hz;go_enter Tryz.func165,Tryz.ntmps165;go_wp2_with fail
  all_goals
   refine(S.out _ _ (by first|exact Or.inl rfl|(right;have:=M.out;have:=HM.out;omega))).mono ?_;rintro e v1 ⟨u,rfl,I,O,hu⟩;obtain rfl:=hu HZ.out;have hg:(convert 36 9 (.slice none 0 0)).run Tryz.prog v1= .ok (.string ByteArray.empty) v1:=run_convert_bytes_nil (P:=Tryz.prog) v1 36 5 Tryz.underlying36 Tryz.underlying5 0 0 9 Tryz.underlying9;have Y:=hid O;clear I hu O;go_wp2;go_loopw [7] (fun iv wr=>iv= .int .i64 0/\wr=v1) (fun _ _=>0);case atStart=>exact⟨rfl,rfl⟩
   case round=>obtain⟨rfl,rfl⟩:=hrel;go_wp2;refine bodyPost_ret (v:= .tuple #[.string ByteArray.empty,.int .i64 0]) (by simp[results,Tryz.results165,go_sem]) rfl ?_;refine⟨?_,Y.out⟩;unfold q6n q4h;rw[ht.out];rfl
 ·obtain⟨q,hq⟩:∃q,q=8*ns.length:=⟨_,rfl⟩;have L:=S.out;rw[<- hq] at L;have S:=hid L;clear L;have hs:n<=q:=by have:=HL.out;omega
  have hh:0<q:=by omega
  have h8:q<=128:=by have:=HL.out;omega
  have HQ:=hid hq;clear hq hp;go_enter Tryz.func165,Tryz.ntmps165;go_wp2_with fail
  all_goals
   refine(S.out _ _ (by first|exact Or.inl rfl|(right;have:=M.out;have:=HM.out;omega))).mono ?_;rintro e v1 ⟨u,rfl,I,O,hu⟩;obtain⟨g,cp,rfl,k1,hy,k3,h4⟩:=q2e I hh;have hg:=z0b v1 g cp n (q0i ns) (by rw[q2f];have:=HQ.out;omega) h4;have i7:(n:Int)<=(cp:Int):=(by omega);have Y:=hid O;have hi:=hid h4;clear I hu O h4 S;go_wp2;go_loopw [7] (fun iv wr=> ∃i:Nat,n<=i/\i<=q/\iv= .int .i64 i/\wr=v1/\Hid (∀j x,n<=j->j<i->(q0i ns)[j]?=some x->x=0)) (fun iv _=>q- (intOf iv).toNat);case atStart=>exact⟨n,AG _,hs,rfl,rfl,fun j x h1 h2=>by omega⟩
   case round=>
    obtain⟨i,h6,he,rfl,rfl,hZ⟩:=hrel;have j0:(0:Int)<=(i:Int):=by omega
    by_cases hlt:i<q
    ·have j1:(i:Int)< (q:Int):=by omega
     obtain⟨x,hx⟩:∃x,(q0i ns)[i]?=some x:=⟨_,AD (by rw[q2f];have:=HQ.out;omega)⟩
     have c1:wr.cell? ⟨g,i,none⟩=some (.int .u8 x):=by
      have:=hi.out i (.int .u8 x) (by unfold q2u;rw[AM,hx];rfl)
      rwa[AQ] at this
     have HX:=hid hx;have h9:=hid hlt;have h7:=hid h6;clear hx hlt h6 he;by_cases hx0:x=0
     ·have t1:(x !=0)=false:=by simp[hx0]
      have hr:Hid (∀j x,n<=j->j<i+1->(q0i ns)[j]?=some x->x=0):=by
       intro j y h1 h2 h3;by_cases hji:j=i;·subst hji;rw[HX.out] at h3;injection h3 with h3;rw[<- h3];exact hx0
       ·exact hZ.out j y h1 (by omega) h3
      clear hx0;go_wp2;go_roundw;case rel=>exact⟨i+1,by have:=h7.out;omega,h9.out,by go_num,(by first|rfl|exact trivial),hr⟩
      case measure=>simp[intOf];have:=h9.out;omega
     ·have t1:(x !=0)=true:=by simp[hx0]
      have HC:Hid (q4h ns n=false):=by
       show q4h ns n=false;unfold q4h;rw[DK];refine⟨x,?_,by simpa using hx0⟩;have:((q0i ns).drop n)[i-n]?=some x:=by rw[Ar,show n+(i-n)=i by have:=h7.out;omega];exact HX.out
       exact AJ this
      clear hx0;go_wp2;refine bodyPost_ret (v:= .tuple #[.string { data:= #[] },.int .i64 11]) (by simp[results,Tryz.results165,go_sem]) rfl ?_;exact⟨by unfold q6n;rw[HC.out];rfl,Y.out⟩
    ·obtain rfl:i=q:=by omega
     have j1: ¬(i:Int)< (i:Int):=by omega
     have HC:Hid (q4h ns n=true):=by show q4h ns n=true;unfold q4h;rw[Bc];intro x hx;obtain⟨k,hk⟩:=Bb.1 hx;rw[Ar] at hk;have ha:=(AE.1 hk).1;rw[q2f,<- HQ.out] at ha;simpa using hZ.out (n+k) x (by omega) ha hk
     clear hlt he h6;go_wp2;refine bodyPost_ret (v:= .tuple #[.string (strOfNums ((q0i ns).take n)),.int .i64 0]) (by simp[results,Tryz.results165,go_sem]) rfl ?_;exact⟨by unfold q6n;rw[HC.out];rfl,Y.out⟩
theorem q7b (n:Nat) (ns:List Nat):∃s e,q6n n ns= .tuple #[.string s,.int .i64 e]:=by
 unfold q6n;split;·exact⟨_,_,rfl⟩
 ·exact⟨_,_,rfl⟩
theorem x6p (n:Nat) (ns:List Nat) (hn:n<=120) (hl:ns.length=(n+7)/8) (M:∀x∈ns,x<18446744073709551616) (b off m cap:Nat) (hm:m=ns.length+1) (I:m<=cap) (w:World) (h:q1r w b off (n::ns)):
  Calls Tryz.prog 248 #[.slice (some ⟨b,off,none⟩) m cap] w fun e W'=>e= .returned (q6n n ns)/\Below w.heap.size w W':=by
 have U:=hid (x5b n ns hn hl M b off m cap hm I w h);obtain⟨s,e,L⟩:=q7b n ns;rw[L] at U ⊢;clear h hm hl M I L;go_enter Tryz.func248,Tryz.ntmps248;go_wp2_with fail;refine U.out.mono ?_;rintro e w1 ⟨rfl,O⟩;go_wp2;refine bodyPost_ret (v:= .tuple #[.string s,.int .i64 e]) (by simp[results,Tryz.results248,go_sem]) rfl ?_;exact⟨rfl,O⟩
def q2m (c:Int) (l:List Nat):Value:=
 match l with
 | []=> .tuple #[.string { data:= #[] },.int .i64 2]
 | n::r=>if c<1\/2<c then .tuple #[.string { data:= #[] },.int .i64 2] else if 120<n\/q2o n≠c then .tuple #[.string { data:= #[] },.int .i64 11] else if(r.length+1:Int)<q4v n then .tuple #[.string { data:= #[] },.int .i64 2] else q6n n (r.take ((n+7)/8))
theorem v5a (c:Int) (hc:c=1\/c=2) (n:Nat) (ns:List Nat) (S:ns.length+1=8*c.toNat) (h3:∀x∈n::ns,x<18446744073709551616) (b off m cap:Nat) (hm:m=8*c.toNat) (O:m<=cap) (w:World) (h:q1r w b off (n::ns)):
  Calls Tryz.prog 210 #[.int .i64 c,.slice (some ⟨b,off,none⟩) m cap] w fun e W'=>e= .returned (q2m c (n::ns))/\Below w.heap.size w W':=by
 have c0:w.cell? ⟨b,off,none⟩=some (.int .u64 (n:Int)):=h.2 0 n rfl;have e0:((m:Int)==0)=false:=by simp;omega
 have i0:(0:Int)< (m:Int):=by omega
 have i1: ¬c<1:=by omega
 have i2: ¬2<c:=by omega
 have M:=h3 n (Ae ..);have H:=hid h;have HM:=hid hm;have h2:=hid O;have HL:=hid S;have ha:=hid h3;clear h hm S h3 O;by_cases hn:n<=120
 ·have j1: ¬(120:Int)< (n:Int):=by omega
  have j2:IntKind.i64.wrap (n:Int)=(n:Int):=IntWalk.i64_in _ (by omega);have CZ:=hid (v6s n w (by omega) (by omega));by_cases hcl:q2o n=c
  ·have e1:(q2o n !=c)=false:=by simp[hcl]
   have VW:=hid (v2u n hn)
   have h1:(n+7)/8+1<=m:=by
    have:=HM.out;unfold q2o q7j at hcl;rw[if_neg (by omega)] at hcl;split at hcl;·omega
    ·split at hcl;·omega
     ·omega
   obtain⟨q,hq⟩:∃q,q=q4v n:=⟨_,rfl⟩;have he:q<=m:=by rw[hq];unfold q4v;omega
   have h4:=VW.out;rw[<- hq] at h4;have VW:=hid h4;clear h4;have k1: ¬(m:Int)< (q:Int):=by omega
   have k2:(0:Int)<=(q:Int):=by omega
   have k3:(q:Int)<=(cap:Int):=by have:=h2.out;omega
   have k4:(q:Int)<=(m:Int):=by omega
   have h8:q=(n+7)/8+1:=by rw[hq];unfold q4v;omega
   have h5:q1r w b off (n::ns.take ((n+7)/8)):=by
    have:=H.out.take q
    rwa[h8,Cz] at this
   have U:=hid (fun w' (hb:Below w.heap.size w w')=>x6p n (ns.take ((n+7)/8)) hn (by rw[AU];have:=HL.out;have:=HM.out;omega) (fun x hx=>ha.out x (AW _ (Ab hx))) b off q q (by rw[AU];have:=HL.out;have:=HM.out;omega) (AG _) w' (h5.bel hb));have I:q2m c (n::ns)=q6n n (ns.take ((n+7)/8)):=by unfold q2m;simp only;rw[if_neg (by omega),if_neg (by intro h;rcases h with h|h;exact absurd hn (by omega);exact h hcl),if_neg (by have:=HL.out;have:=HM.out;unfold q4v;omega)]
   rw[I];obtain⟨s,e,h7⟩:=q7b n (ns.take ((n+7)/8));rw[h7] at U ⊢;clear h7 I h5 h8 hq hcl h1 M hc;go_enter Tryz.func210,Tryz.ntmps210;go_wp2_with fail;refine CZ.out.mono ?_;rintro e w1 ⟨rfl,L⟩;have d0:w1.cell? ⟨b,off,none⟩=some (.int .u64 (n:Int)):=(H.out.bel L).2 0 n rfl;have Y:=hid L;clear L;go_wp2_with fail;refine(VW.out w1).mono ?_;rintro e w2 ⟨rfl,rfl⟩;go_wp2_with fail;refine(U.out w1 Y.out).mono ?_;rintro e w2 ⟨rfl,h6⟩;have h9:=hid (bx Y.out h6);clear h6;go_wp2;refine bodyPost_ret (v:= .tuple #[.string s,.int .i64 e]) (by simp[results,Tryz.results210,go_sem]) rfl ?_;exact⟨rfl,h9.out⟩
  ·have e1:(q2o n !=c)=true:=by simp[hcl]
   have I:q2m c (n::ns)= .tuple #[.string { data:= #[] },.int .i64 11]:=by unfold q2m;simp only;rw[if_neg (by omega),if_pos (Or.inr hcl)]
   rw[I];clear I hcl M hc;go_enter Tryz.func210,Tryz.ntmps210;go_wp2_with fail;refine CZ.out.mono ?_;rintro e w1 ⟨rfl,L⟩;have Y:=hid L;clear L;go_wp2;refine bodyPost_ret (v:= .tuple #[.string { data:= #[] },.int .i64 11]) (by simp[results,Tryz.results210,go_sem]) rfl ?_;exact⟨rfl,Y.out⟩
 ·have j1:(120:Int)< (n:Int):=by omega
  have I:q2m c (n::ns)= .tuple #[.string { data:= #[] },.int .i64 11]:=by unfold q2m;simp only;rw[if_neg (by omega),if_pos (Or.inl (by omega))]
  rw[I];clear I hn hc;go_enter Tryz.func210,Tryz.ntmps210;go_wp2;refine bodyPost_ret (v:= .tuple #[.string { data:= #[] },.int .i64 11]) (by simp[results,Tryz.results210,go_sem]) rfl ?_;exact⟨rfl,Below.refl _ _⟩
section
attribute [local go_sem ↓ high] q0s q0f q0d q2c q0v
attribute [local go_sem] q1x q1p q1v Oper.semAt_some q0h
def q6h (p:Int×Int->Bool) (l:List (Int×Int)):List (Int×Int):=l.filter fun x=> !p x
structure DelI (l:List (Int×Int)) (p:Int×Int->Bool) (g cap j i:Nat) (w W:World) (cs:Array Value):Prop where
 blk:Blk W g 166 cs
 size:cs.size=cap*2
 kept:i=(q6h p (l.take j)).length
 head:∀k x,(q6h p (l.take j))[k]?=some x->cs[k*2]?=some (.int .u64 x.1)/\cs[k*2+1]?=some (.int .u64 x.2)
 rest:∀k x,j<=k->l[k]?=some x->cs[k*2]?=some (.int .u64 x.1)/\cs[k*2+1]?=some (.int .u64 x.2)
 only:Only [g] w W
theorem Only.setCells (b:Nat):∀(vs:List Value) (o:Nat) (w:World),Only [b] w (w.setCells b o vs)
 | [],_,w=>Only.refl _ w
 | v::r,o,w=>((Only.refl [b] w).setCell (Or.inl (by simp)) v).trans (Only.setCells b r (o+1) _) (fun _ h=>Or.inl h)
theorem v2f (ty:TypeId) (W:World) (g o m c:Nat) (hm:0<m) (cs:Array Value) (hb:Blk W g 166 cs) (L:o+m*2<=cs.size):∃vs:List Value,vs.length=m*2/\(Builtin.clear_ #[162] ty #[.slice (some ⟨g,o,none⟩) m c]).run Tryz.prog W= .ok (.tuple #[]) (W.setCells g o vs):=by
 obtain⟨k,rfl⟩:∃k,m=k+1:=⟨m-1,by omega⟩;have hv:(zeroValue 166).run Tryz.prog W= .ok (.agg #[.int .u64 0,.int .u64 0]) W:=by kernel_rfl
 have I:=run_storeCells_cells (P:=Tryz.prog) g o (Builtin.zeroCells #[.int .u64 0,.int .u64 0] (k+1)).toList 0 W (fun j hj=>by
  rw[hb.cell];simp[Builtin.zeroCells] at hj;rw[AS (by omega)];rfl) (fun j _=>hb.frozen _) (fun v hv=>by
  simp[Builtin.zeroCells] at hv;obtain⟨a,_,rfl⟩:=hv;rcases Nat.mod_two_eq_zero_or_one a with h|h<;>rw[h]<;>rfl)
 simp only[Nat.add_zero] at I;refine⟨(Builtin.zeroCells #[.int .u64 0,.int .u64 0] (k+1)).toList,?_,?_⟩
 rotate_left
 ·have ec:(Value.agg #[.int .u64 0,.int .u64 0]).cells= #[.int .u64 0,.int .u64 0]:=rfl;simp[Builtin.clear_,run_underlying Tryz.underlying162,hv,ec,I]
 ·simp[Builtin.zeroCells]
theorem v4z (Bh Bd:Nat) (has:Bool) (I k p:Int) (w:World) (h1:w.cell? ⟨Bh,0,none⟩=some (.bool has)) (h2:w.cell? ⟨Bd,0,none⟩=some (.int .u64 I)):
  Calls Tryz.prog 267 #[.agg #[.int .u64 k,.int .u64 p],.pointer (some ⟨Bh,0,none⟩),.pointer (some ⟨Bd,0,none⟩)] w fun e w'=>e= .returned (.bool (!actE I has (k,p)))/\Below w.heap.size w w':=by
 have L:=World.block_lt_of_cell? w _ h1;have M:=World.block_lt_of_cell? w _ h2;have O:Below w.heap.size w (w.alloc (.cells #[.int .u64 k,.int .u64 p] 166)):=ba (Below.refl _ _) _;have c1:(w.alloc (.cells #[.int .u64 k,.int .u64 p] 166)).cell? ⟨Bh,0,none⟩=some (.bool has):=(O.cell (p:=⟨Bh,0,none⟩) L).trans h1;have c2:(w.alloc (.cells #[.int .u64 k,.int .u64 p] 166)).cell? ⟨Bd,0,none⟩=some (.int .u64 I):=(O.cell (p:=⟨Bd,0,none⟩) M).trans h2;have HB:=hid O;clear O L M;go_enter Tryz.func267,Tryz.ntmps267;cases has;·go_wp2;go_ret;exact⟨by unfold actE;rfl,HB.out⟩
 ·by_cases hp:I<=k;·have H:=hid (AT hp);have H2:=hid (AK (show ¬k<I by omega));go_wp2;go_ret;refine⟨?_,HB.out⟩;unfold actE;simp only[Bool.not_true,Bool.false_or,H2.out];rfl
  ·have H:=hid (AK hp);have H2:=hid (AT (show k<I by omega));go_wp2;go_ret;refine⟨?_,HB.out⟩;unfold actE;simp only[Bool.not_true,Bool.false_or,H2.out];rfl
theorem v8s (Bh Bd:Nat) (has:Bool) (L:Int) (l:List (Int×Int)) (h8:l.length<=8) (g cap:Nat) (cs:Array Value) (w:World) (hg:Blk w g 166 cs) (kp:cs.size=cap*2) (k7:l.length<=cap) (I:∀k x,l[k]?=some x->cs[k*2]?=some (.int .u64 x.1)/\cs[k*2+1]?=some (.int .u64 x.2)) (h1:w.cell? ⟨Bh,0,none⟩=some (.bool has)) (h2:w.cell? ⟨Bd,0,none⟩=some (.int .u64 L)) (g1:Bh≠g) (g2:Bd≠g):
  Calls Tryz.prog 266 #[.slice (some ⟨g,0,none⟩) l.length cap,.func (.func 267) #[] #[.pointer (some ⟨Bh,0,none⟩),.pointer (some ⟨Bd,0,none⟩)]] w fun e w'=> ∃m,e= .returned (.slice (some ⟨g,0,none⟩) m cap)/\m=(l.filter (actE L has)).length/\q1l w' (.slice (some ⟨g,0,none⟩) m cap) (l.filter (actE L has))/\Only [g] w w':=by
 have hE:q1l w (.slice (some ⟨g,0,none⟩) l.length cap) l:=⟨_,_,rfl,Or.inr ⟨g,0,rfl,hg.lt,fun i x hi=>by have:=I i x hi;exact⟨by rw[hg.cell,AQ];exact this.1,by rw[hg.cell,AQ];exact this.2⟩⟩⟩;have hA:v2v 267 #[.pointer (some ⟨Bh,0,none⟩),.pointer (some ⟨Bd,0,none⟩)] l (fun x=> !actE L has x) w:=fun W hW x hx=>v4z Bh Bd has L x.1 x.2 W ((hW.cell (p:=⟨Bh,0,none⟩) (World.block_lt_of_cell? w _ h1)).trans h1) ((hW.cell (p:=⟨Bd,0,none⟩) (World.block_lt_of_cell? w _ h2)).trans h2);have HI:=hid (x9j 267 #[.pointer (some ⟨Bh,0,none⟩),.pointer (some ⟨Bd,0,none⟩)] l (fun x=> !actE L has x) _ h8 w hE hA (Or.inr ⟨_,_,rfl,rfl⟩));obtain⟨P,hP⟩:∃P:Int×Int->Bool,P=fun x=> !actE L has x:=⟨_,rfl⟩;have hm:∀x,actE L has x= !P x:=fun x=>by rw[hP];simp
 have S:∀l':List (Int×Int),l'.filter (actE L has)=q6h P l':=fun l'=>by unfold q6h;congr 1;funext x;exact hm x
 rw[<- hP] at HI;rw[S];obtain⟨n,hn⟩:∃n,n=l.length:=⟨_,rfl⟩;rw[<- hn] at HI h8 k7 ⊢;have HP:=hid hm;have HN:=hid hn;by_cases ha:l.any P=true
 ·obtain⟨i0,Y⟩:∃i0,i0=l.findIdx P:=⟨_,rfl⟩;have h9:idxE l P=(i0:Int):=by rw[idxE,if_pos ha,Y]
  have U:i0<l.length:=by rw[Y];exact List.findIdx_lt_length_of_exists (by simpa using CM.1 ha)
  have M:∀k y,k<i0->l[k]?=some y->P y=false:=fun k y hk hy=>by have:=List.not_of_lt_findIdx (p:=P) (xs:=l) (i:=k) (by rw[<- Y];exact hk);have k8:=(AE.1 hy).2;rw[k8] at this;simpa using this
  have kb:P l[i0]=true:=by have:=List.findIdx_getElem (p:=P) (xs:=l) (w:=by rw[<- Y];exact U);simpa[<- Y] using this
  have k4:q6h P (l.take i0)=l.take i0:=by
   unfold q6h;rw[CY];intro x hx;obtain⟨k,hk⟩:=Bb.1 hx;rw[AV] at hk;split at hk;·rename_i hlt;rw[M k x hlt hk];rfl
   ·cases hk
  have hz:q6h P (l.take (i0+1))=l.take i0:=by rw[Ai,AD U];unfold q6h at k4 ⊢;rw[Aq,k4];simp[kb]
  rw[h9] at HI;have iw:IntKind.i64.wrap ((i0:Int)+1)=(i0:Int)+1:=IntWalk.i64_in _ (by omega);have im:((i0:Int)== -1)=false:=by simp
  have kd:∀w2,Below w.heap.size w w2->Hid (DelI l P g cap (i0+1) i0 w w2 cs):=fun w2 hb=>by
   refine⟨hg.bel hb,kp,?_,?_,fun k x _ hx=>I k x hx,Only.of_below hb _⟩;·rw[hz,AU];omega
   ·intro k x hx;rw[hz,AV] at hx;split at hx;·exact I k x hx
    ·cases hx
  have k9:=hid kd;have hp:i0<n:=by omega
  have HG:=hid (⟨g1,g2⟩:_/\_);have HH:=hid (⟨h1,h2⟩:_/\_);clear k4 hz M kb Y h9 I hg hE hA ha S hm kd U g1 g2 h1 h2 hn hP;go_enter Tryz.func266,Tryz.ntmps266;go_wp2_with fail;refine HI.out.mono ?_;rintro e w2 ⟨rfl,h6⟩;have kn:=k9.out w2 h6;clear HI h6 k9;go_wp2;go_loopw [5,6,7] (fun iv jv s7 wr=> ∃i j:Nat,iv= .int .i64 i/\jv= .int .i64 j/\i<j/\j<=n/\(∃O,Hid (DelI l P g cap j i w wr O))) (fun _ jv _ _=>n- (intOf jv).toNat);case atStart=>exact⟨i0,i0+1,rfl,by go_num,Nat.lt_succ_self _,hp,cs,kn⟩
  case round=>
   obtain⟨i,j,rfl,rfl,h3,km,O,hI⟩:=hrel;by_cases hlt:j<n
   ·have i1:(0:Int)<=(j:Int):=by omega
    have i2:(j:Int)< (n:Int):=by omega
    have i3:(0:Int)<=(i:Int):=by omega
    have i4:(i:Int)< (n:Int):=by omega
    obtain⟨x,hx⟩:∃x,l[j]?=some x:=⟨_,AD (by rw[<- HN.out];exact hlt)⟩;have hr:=hI.out.rest j x (AG _) hx;have c1:wr.cell? ⟨g,j*2,none⟩=some (.int .u64 x.1):=(hI.out.blk.cell _).trans hr.1;have c2:wr.cell? ⟨g,j*2+1,none⟩=some (.int .u64 x.2):=(hI.out.blk.cell _).trans hr.2;have HX:=hid hx;clear hx hr;have kh:=World.block_lt_of_cell? w _ HH.out.1;have kk:=World.block_lt_of_cell? w _ HH.out.2;have k1:Blk (wr.alloc (.cells #[.int .u64 x.1,.int .u64 x.2] 166)) g 166 O:=hI.out.blk.alloc _;have o1:Only [g] w (wr.alloc (.cells #[.int .u64 x.1,.int .u64 x.2] 166)):=hI.out.only.alloc _;have CA:=hid (v4z Bh Bd has L x.1 x.2 (wr.alloc (.cells #[.int .u64 x.1,.int .u64 x.2] 166)) ((o1.cell (p:=⟨Bh,0,none⟩) kh (by simpa using HG.out.1)).trans HH.out.1) ((o1.cell (p:=⟨Bd,0,none⟩) kk (by simpa using HG.out.2)).trans HH.out.2));have n1:Blk (wr.alloc (.cells #[.int .u64 x.1,.int .u64 x.2] 166)) wr.heap.size 166 #[.int .u64 x.1,.int .u64 x.2]:=Blk.new _ _ _;have kg:=hI.out.blk.lt;have ht:=hid (⟨k1,o1,n1,kg⟩:_/\_/\_/\_);have hl:=hid hlt;clear k1 o1 n1 kh kk hlt km kg;go_wp2_with fail;refine CA.out.mono ?_;rintro e w5 ⟨rfl,h5⟩;have k5:Blk w5 g 166 O:=ht.out.1.bel h5;have n5:Blk w5 wr.heap.size 166 #[.int .u64 x.1,.int .u64 x.2]:=ht.out.2.2.1.bel h5;have o5:Only [g] w w5:=ht.out.2.1.trans (Only.of_below h5 []) (fun _ h=>by cases h);have d1:w5.cell? ⟨wr.heap.size,0,none⟩=some (.int .u64 x.1):=n5.cell 0;have d2:w5.cell? ⟨wr.heap.size,1,none⟩=some (.int .u64 x.2):=n5.cell 1;rw[HP.out (x.1,x.2)];have hf:l.take (j+1)=l.take j++[x]:=by rw[Ai,HX.out];rfl
    obtain⟨pb,hj⟩:∃pb,pb=P (x.1,x.2):=⟨_,rfl⟩;rw[<- hj];have ki:=hid hj;cases pb
    ·have h4:=hI.out.size;obtain⟨y0,kj⟩:∃y,O[i*2]?=some y:=⟨_,AS (by omega)⟩;obtain⟨y1,kc⟩:∃y,O[i*2+1]?=some y:=⟨_,AS (by omega)⟩;have f0:w5.cell? ⟨g,i*2,none⟩=some y0:=(k5.cell _).trans kj;have f1:w5.cell? ⟨g,i*2+1,none⟩=some y1:=(k5.cell _).trans kc;have z0:w5.frozen? ⟨g,i*2,none⟩=false:=k5.frozen _;have z1:w5.frozen? ⟨g,i*2+1,none⟩=false:=k5.frozen _
     have k3:Hid (DelI l P g cap (j+1) (i+1) w ((w5.setCell ⟨g,i*2,none⟩ (.int .u64 x.1)).setCell ⟨g,i*2+1,none⟩ (.int .u64 x.2)) ((O.setIfInBounds (i*2) (.int .u64 x.1)).setIfInBounds (i*2+1) (.int .u64 x.2))):=by
      have ek:q6h P (l.take (j+1))=q6h P (l.take j)++[x]:=by rw[hf];unfold q6h;rw[Aq];simp[show P x=false from ki.out.symm]
      have hs:=hI.out.kept;refine⟨(k5.set_ _ _).set_ _ _,by simp[h4],by rw[ek,AI,<- hs];rfl,fun k y hk=> ?_,fun k y hk hy=> ?_,(o5.setCell (Or.inl (by simp)) _).setCell (Or.inl (by simp)) _⟩
      ·rw[ek] at hk;by_cases hki:k=i
       ·subst hki;have e:q6h P (l.take j)++[x]=q6h P (l.take j)++[x]:=rfl;rw[Ac (by omega),<- hs,Bz] at hk;injection hk with hk;subst hk;constructor;·rw[AX (by omega),BA (by omega)]
        ·rw[BA (by simp;omega)]
       ·have k8:k<i:=by
         have:=(AE.1 hk).1;rw[AI,<- hs] at this;simp at this;omega
        rw[Aa (by omega)] at hk;have:=hI.out.head k y hk;constructor;·rw[AX (by omega),AX (by omega)];exact this.1
        ·rw[AX (by omega),AX (by omega)];exact this.2
      ·have:=hI.out.rest k y (by omega) hy;constructor;·rw[AX (by omega),AX (by omega)];exact this.1
       ·rw[AX (by omega),AX (by omega)];exact this.2
     have he:=hid h3;clear hj h5 CA kj kc h4 k5 n5 o5 hf h3 hI;go_wp2;go_roundw;case rel=>exact⟨i+1,j+1,by go_num,by go_num,by have:=he.out;omega,hl.out,_,k3⟩
     case measure=>simp[intOf];have:=hl.out;omega
    ·have k3:Hid (DelI l P g cap (j+1) i w w5 O):=by
      have ek:q6h P (l.take (j+1))=q6h P (l.take j):=by rw[hf];unfold q6h;rw[Aq];simp[show P x=true from ki.out.symm]
      exact⟨k5,hI.out.size,by rw[ek];exact hI.out.kept,by rw[ek];exact hI.out.head,fun k y hk hy=>hI.out.rest k y (by omega) hy,o5⟩
     have he:=hid h3;clear hj h5 CA k5 n5 o5 hf h3 hI;go_wp2;go_roundw;case rel=>exact⟨i,j+1,rfl,by go_num,Nat.lt_succ_of_lt he.out,hl.out,O,k3⟩
     case measure=>simp[intOf];have:=hl.out;omega
   ·obtain rfl:j=n:=by omega
    have i1: ¬(j:Int)< (j:Int):=by omega
    have i2:(0:Int)<=(i:Int):=by omega
    have i3:(i:Int)<=(j:Int):=by omega
    have i4:(i:Int)<=(cap:Int):=by omega
    have i5:(j:Int)<=(cap:Int):=by omega
    have i6: ¬i=cap:=by omega
    have he:=hid h3;have hq:=hI.out.size;obtain⟨vs,kf,ko⟩:=v2f 0 wr g (i*2) (j-i) (cap-i) (by omega) O hI.out.blk (by omega);have HV:=hid kf;clear hlt km kf hq;have o9:Only [g] w (wr.setCells g (i*2) vs):=hI.out.only.trans (Only.setCells g vs (i*2) wr) (fun _ h=>Or.inl h)
    have ke:q1l (wr.setCells g (i*2) vs) (.slice (some ⟨g,0,none⟩) i cap) (q6h P l):=by
     have hk:=hI.out.kept;have hh:=hI.out.head;rw[AY (by rw[HN.out];exact AG _)] at hk hh;refine⟨_,_,by rw[hk],Or.inr ⟨g,0,rfl,AL hI.out.blk.lt (Only.setCells g vs (i*2) wr).size,fun k x hx=> ?_⟩⟩;have k8:k<i:=by rw[hk];exact(AE.1 hx).1
     rw[World.cell?_setCells_out g vs (i*2) wr _ (fun _ _=>Or.inl (by show 0+k*2<i*2;omega)),World.cell?_setCells_out g vs (i*2) wr _ (fun _ _=>Or.inl (by show 0+k*2+1<i*2;omega)),hI.out.blk.cell,hI.out.blk.cell,AQ];exact hh k x hx
    have ho:=hI.out.kept;rw[AY (by rw[HN.out];exact AG _)] at ho;have HR:=hid (⟨ho,ke,o9⟩:_/\_/\_);clear ho ke o9 hI h3;go_wp2;go_ret;exact⟨i,rfl,HR.out⟩
 ·have h7:idxE l P= -1:=by rw[idxE,if_neg ha]
  have hk:q6h P l=l:=by
   unfold q6h;rw[CY];intro x hx;cases hb:P x;·rfl
   ·exact absurd (CM.2 ⟨x,hx,hb⟩) ha
  have k0:=hid (⟨hE,hk⟩:_/\_);rw[h7] at HI;clear hE hA h7 hk ha hn hP hm S I hg;go_enter Tryz.func266,Tryz.ntmps266;go_wp2_with fail;refine HI.out.mono ?_;rintro e w2 ⟨rfl,h6⟩;go_wp2;go_ret;refine⟨n,rfl,by rw[k0.out.2];exact HN.out,by rw[k0.out.2];rw[HN.out];exact k0.out.1.bel h6,Only.of_below h6 _⟩
end
section
attribute [local go_sem ↓ high] q0s q0f q0d q2c q0v
attribute [local go_sem] q1x q1p q1v Oper.semAt_some q0h
theorem v5v (Bh Bd:Nat) (has:Bool) (I:Int) (w:World) (h1:w.cell? ⟨Bh,0,none⟩=some (.bool has)) (h2:w.cell? ⟨Bd,0,none⟩=some (.int .u64 I)):
  Calls Tryz.prog 266 #[.slice none 0 0,.func (.func 267) #[] #[.pointer (some ⟨Bh,0,none⟩),.pointer (some ⟨Bd,0,none⟩)]] w fun e w'=>e= .returned (.slice none 0 0)/\Below w.heap.size w w':=by
 have hE:q1l w (.slice none 0 0) []:=⟨_,_,rfl,Or.inl rfl⟩;have hA:v2v 267 #[.pointer (some ⟨Bh,0,none⟩),.pointer (some ⟨Bd,0,none⟩)] [] (fun x=> !actE I has x) w:=fun W hW x hx=>by cases hx
 have HI:=hid (x9j 267 #[.pointer (some ⟨Bh,0,none⟩),.pointer (some ⟨Bd,0,none⟩)] [] (fun x=> !actE I has x) _ (by simp) w hE hA (Or.inr ⟨_,_,rfl,rfl⟩));have hi:idxE [] (fun x=> !actE I has x)= -1:=rfl;rw[hi] at HI;clear hE hA hi h1 h2;go_enter Tryz.func266,Tryz.ntmps266;go_wp2_with fail;refine HI.out.mono ?_;rintro e w2 ⟨rfl,L⟩;go_wp2;go_ret;exact⟨rfl,L⟩
structure x7i (w W:World) (v:Value) (l:List (Int×Int)):Prop where
 ents:q1l W v l
 new:∀b,v.ownBlock=some b->w.heap.size<=b
 bel:Below w.heap.size w W
 cap:x3i v
theorem x8a (n:NodeA) (I:Int) (has:Bool) (w:World):
  Calls Tryz.prog 245 #[.agg (q0x n),.int .u64 I,.bool has] w fun e W'=> ∃v,e= .returned v/\x7i w W' v (q1n n I has):=by
 obtain⟨W3,O⟩:∃W3,W3=((w.alloc (.cells (q0x n) 55)).alloc (.cells #[.int .u64 I] 46)).alloc (.cells #[.bool has] 4):=⟨_,rfl⟩;have he:Below w.heap.size w W3:=by rw[O];exact ba (ba (ba (Below.refl _ _) _) _) _
 have k1:Blk W3 w.heap.size 55 (q0x n):=by rw[O];exact((Blk.new _ _ _).alloc _).alloc _
 have k2:Blk W3 (w.heap.size+1) 46 #[.int .u64 I]:=by rw[O];have:=Blk.new (w.alloc (.cells (q0x n) 55)) 46 #[.int .u64 I];rw[World.size_alloc] at this;exact this.alloc _
 have k3:Blk W3 (w.heap.size+2) 4 #[.bool has]:=by rw[O];have:=Blk.new ((w.alloc (.cells (q0x n) 55)).alloc (.cells #[.int .u64 I] 46)) 4 #[.bool has];rw[World.size_alloc,World.size_alloc] at this;exact this
 have hp:=q2j k1;have HW:=hid O;have hj:=hid he;have HK:=hid (⟨k2,k3⟩:_/\_);have HP:=hid (x1v n W3);have hg:w.heap.size+3<=W3.heap.size:=by rw[O];simp
 have HS:=hid hg;clear O he k1 k2 k3 hg;go_enter Tryz.func245,Tryz.ntmps245;go_upto_region 1 with fail;rw[show _=W3 from HW.out.symm];go_wp2_with fail;refine HP.out.mono ?_;rintro e w4 ⟨v,rfl,M,U⟩;have c2:w4.cell? ⟨w.heap.size+1,0,none⟩=some (.int .u64 I):=(HK.out.1.bel U).cell 0;have c3:w4.cell? ⟨w.heap.size+2,0,none⟩=some (.bool has):=(HK.out.2.bel U).cell 0;have Y:=hid (bx hj.out U);have S:=hid (⟨c2,c3⟩:_/\_);have ha:=q3j n;have h8:=q1l.of_own M;have hr:=M.2;have hh:=M.1;clear U M HP hp c2 c3;rcases hr with⟨rfl,h0⟩|⟨g,cap,cs,rfl,h2,h3,h4,h5,h6,h7⟩
 ·have DE:=hid (v5v (w.heap.size+1+1) (w.heap.size+1) has I w4 S.out.2 S.out.1);have hi:=hid (Am.1 h0);clear h8 hh h0;go_wp2_with fail;refine DE.out.mono ?_;rintro e w5 ⟨rfl,hk⟩;go_wp2;go_ret;have HA:q1n n I has=[]:=by unfold q1n;rw[hi.out];rfl
  refine⟨.slice none 0 0,rfl,⟨none,0,by rw[HA];rfl,Or.inl HA⟩,fun b hb=>by simp[Value.ownBlock] at hb,bx Y.out hk,?_⟩;·intro ao m c h;injection h with _ h1 h2;omega
 ·have L:∀k x,(q0r n)[k]?=some x->cs[k*2]?=some (.int .u64 x.1)/\cs[k*2+1]?=some (.int .u64 x.2):=by
   intro k x hx;have h9:Blk w4 g 166 cs:=h3;obtain⟨ao,cc,e1,e2⟩:=h8;injection e1 with e1 _ _;rcases e2 with e2|⟨b,off,e2,_,e3⟩;·rw[e2] at hx;simp at hx
   ·rw[<- e1] at e2;injection e2 with e2;injection e2 with e2 e4;subst e2;subst e4;have:=e3 k x hx
    rwa[h9.cell,h9.cell,AQ] at this
  have DE:=hid (v8s (w.heap.size+1+1) (w.heap.size+1) has I (q0r n) ha g cap cs w4 h3 h6 h4 L S.out.2 S.out.1 (by have:=HS.out;omega) (by have:=HS.out;omega));have HG:=hid (show w.heap.size<=g by have:=HS.out;omega);obtain⟨q,hq⟩:∃q,q=(q0r n).length:=⟨_,rfl⟩;have HQ:=hid hq;have hf:q<=cap:=by omega
  rw[<- hq] at DE ⊢;have hl:=hid hf;clear h8 hh L h2 h3 h4 h5 h6 h7 hq hf ha;go_wp2_with fail;refine DE.out.mono ?_;rintro e w5 ⟨m,rfl,hm,hE,ho⟩;have HE:=hid (⟨hm,hE,ho⟩:_/\_/\_);clear hm hE ho DE;go_wp2;go_ret;refine⟨_,rfl,HE.out.2.1,fun b hb=> ?_,Y.out.trans (HE.out.2.2.below (fun x hx=> ?_) Y.out.size),?_⟩;·injection hb with hb;rw[<- hb];exact HG.out
  ·rw[AF.1 hx];exact HG.out
  ·intro ao m' c h;injection h with _ h1 h2;have h3:=Ao (actE I has) (q0r n);have:=HE.out.1;have:=HQ.out;have:=hl.out;omega
end
end Go.Proofs.YtibiekfjbibpbaaGreat
