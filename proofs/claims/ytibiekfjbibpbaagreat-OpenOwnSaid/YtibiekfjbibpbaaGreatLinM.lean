import Derived.Deep.Onto
import Derived.Test.YtibiekfjbibpbaaGreatRefW
set_option maxRecDepth 100000
set_option maxHeartbeats 2000000
set_option linter.unusedVariables false
set_option linter.unusedSimpArgs false
namespace Go.Proofs.YtibiekfjbibpbaaGreat
section
open Go.RowKit
attribute [local go_sem] Oper.semAt_some
theorem v7m (n q g cap:Nat) (p:Option Addr) (f:Nat->Nat) (F:List Nat) (N0 l Bs:Nat) (J Jx:List (Fin q)->World->Prop) (W:World) (hq:q<=1000000) (hp:0<q->p=some ⟨g,0,none⟩)
  (I:∀i,i<q->W.cell? ⟨g,i,none⟩=some (.int .u64 (f i:Nat)))
  (hJ:AbidesFrom W.heap.size J) (S:Bs<N0) (hg:g<N0) (L:Bs∉F) (Y:g∉F) (hN:N0<=W.heap.size)
  (hY:∀pre (x:Fin q) W1,J pre W1->pre.length<q->YieldAt Fence.wide (n-1) Tryz.prog l #[.int .i64 (x.val:Int),.int .u64 (f x.val:Nat)] W1 fun e W'=>(e= .returned (.bool true)/\J (pre++[x]) W'/\q0u F N0 W1 W')\/(e= .returned (.bool false)/\Jx (pre++[x]) W'))
  (hs:W.cell? ⟨Bs,0,none⟩=some (.slice p q cap)) (h0:J [] W):
  CallsIn Fence.wide n Tryz.prog 250 #[.func (.yield l) #[] #[],.pointer (some ⟨Bs,0,none⟩)] W fun e W'=>(∃v,e= .returned v)/\
   ((∃ys,True/\J ys W')\/(∃pre,True/\Jx pre W')):=by
 refine callsIn_of_wp Tryz.func250 rfl trivial ?_ rfl;simp only[Tryz.ntmps250,List.size_toArray,List.length_cons,List.length_nil,Nat.reduceAdd,Nat.reduceSub,Array.replicate_succ,Array.replicate_zero,List.push_toArray,List.append_toArray,List.nil_append,List.cons_append];have O:=hid I;have HY:=hid hY;have HB:=hid (⟨S,hg,L,Y,hN⟩:_/\_/\_/\_/\_);clear I hY S hg L Y hN;gi_wp2_with fail;clear hs;gi_loopw [7] (fun iv wr=> ∃k:Nat,k<=q/\iv= .int .i64 (k:Nat)/\ ∃pre:List (Fin q),pre.length=k/\Hid (J pre wr)/\Hid (q0u F N0 W wr)) (fun iv _=>(q- (intOf iv).toNat));case atStart=>exact⟨0,by omega,rfl,[],rfl,h0,q0u.refl _ _ _⟩
 case round=>
  obtain⟨i,hi,rfl,pre,h7,U,hK⟩:=hrel;by_cases hlt:i<q
  ·have i2:decide ((i:Int)< (q:Int))=true:=AT (by omega);have h8:(i:Int)< (q:Int):=by omega
   have i1:(0:Int)<=(i:Int):=by omega
   have i3:IntKind.i64.wrap ((i:Int)+1)=(i:Int)+1:=IntWalk.i64_in _ (by omega);obtain rfl:=hp (by omega);have x1:wr.cell? ⟨g,0+i,none⟩=some (.int .u64 (f i:Nat)):=by rw[AQ];exact(hK.out.cell (p:=⟨g,i,none⟩) HB.out.2.1 HB.out.2.2.2.1).trans (O.out i hlt)
   have h3:wr.cell? ⟨g,i,none⟩=some (.int .u64 (f i:Nat)):=by rw[AQ] at x1;exact x1
   obtain⟨fn,tmps,assign,body,hy,hR⟩:=HY.out pre (⟨i,hlt⟩:Fin q) wr U.out (by omega);have HR:=hid hR;have h2:(Instr.yield l #[.int .i64 (i:Int),.int .u64 (f i:Nat)]).run Tryz.prog wr= .ok (.round l fn tmps assign body) wr:=hy;clear hR hy;gi_wp2;refine⟨fun h=>by simp[Fence.wide] at h,HR.out.mono ?_⟩;rintro e' W5 (⟨rfl,h1,hk5⟩|⟨rfl,M⟩)
   ·have h4:=hid (hK.out.trans hk5);have h6:=hid h1;clear h1 hk5 h2 x1 h3;gi_wp2;go_roundw;case rel=>exact⟨i+1,by omega,by go_num,pre++[⟨i,hlt⟩],by simp[h7],h6,h4⟩
    case measure=>simp[intOf];omega
   ·have h5:=hid M;clear M h2 x1 h3;gi_wp2;refine bodyPost_ret (results_none rfl _ _ _) rfl ?_;exact⟨⟨_,rfl⟩,.inr ⟨_,trivial,h5.out⟩⟩
  ·obtain rfl:i=q:=by omega
   have i2:decide ((i:Int)< (i:Int))=false:=AK (by omega);gi_wp2;go_end0;exact⟨⟨_,rfl⟩,.inl ⟨pre,trivial,U.out⟩⟩
theorem x7b (n q g cap:Nat) (p:Option Addr) (f:Nat->Nat) (F:List Nat) (N0 Bs:Nat) (w:World) (hq:q<=1000000) (hp:0<q->p=some ⟨g,0,none⟩)
  (I:∀i,i<q->w.cell? ⟨g,i,none⟩=some (.int .u64 (f i:Nat))) (O:Bs<N0) (hg:g<N0) (L:Bs∉F) (M:g∉F) (hN:N0<=w.heap.size)
  (hs:w.cell? ⟨Bs,0,none⟩=some (.slice p q cap)):
  SeqStopsK Fence.wide n Tryz.prog 250 #[.pointer (some ⟨Bs,0,none⟩)] (fun x:Fin q=> #[.int .i64 (x.val:Int),.int .u64 (f x.val:Nat)]) (q0u F N0) (fun _=>True) (fun _=>True) q w:=by
 intro l J Jx W hW hJ _ hY h0;have h1:=(hW.cell (p:=⟨Bs,0,none⟩) (World.block_lt_of_cell? w _ hs)).trans hs;exact v7m n q g cap p f F N0 l Bs J Jx W hq hp (fun i hi=>(hW.cell (p:=⟨g,i,none⟩) (World.block_lt_of_cell? w _ (I i hi))).trans (I i hi)) hJ O hg L M (AH hN hW.size) hY h1 h0
theorem v6t {W:World} {base:Nat} {v:Value} {ys:List Int} (h:W.ownsRow base 51 1 v ys.length (ys.map (Value.int .u64))) {d:Nat} (h1:base<=d) (h2:d<W.heap.size):
  ∃p g c,v= .slice p ys.length c/\(0<ys.length->p=some ⟨g,0,none⟩)/\(∀i x,ys[i]?=some x->W.cell? ⟨g,i,none⟩=some (.int .u64 x))/\base<=g/\g<W.heap.size:=by
 rcases h.2 with⟨e1,e2⟩|⟨g,c,I,e1,e2,e3,e4,e5,e6,e7⟩
 ·have:ys=[]:=by
   have:ys.length=0:=by omega
   exact Am.1 this
  subst this;exact⟨none,d,0,e1,fun hh=>absurd hh (by simp),fun i x hx=>by simp at hx,h1,h2⟩
 ·refine⟨_,g,c,e1,fun _=>rfl,fun i x hi=> ?_,e2,(AA.1 e3).1⟩;have hb:Blk W g 51 I:=e3;have L:=(AE.1 hi).1;rw[hb.cell,<- Ad];have:(I.toList.take (ys.length*1))[i]?=some (.int .u64 x):=by rw[e7,AM,hi];rfl
  rw[AV,if_pos (by omega)] at this;exact this
end
section
open Go.RowKit Go.Shelf
attribute [local go_sem] Oper.semAt_some
def z6c (e:MapEntry):Option Int:=
 match e.key with
 | .int .u64 a=>some a
 | _=>none
theorem z3z (L:z0q):z6c (q7y L)=some (L.adr:Int):=rfl
theorem x4i (ls:List z0q):(ls.map q7y).filterMap z6c=ls.map fun L=>(L.adr:Int):=by
 induction ls with
 | nil=>rfl
 | cons L ls ih=>rw[Be,List.filterMap_cons,z3z,ih];rfl
theorem x6s (n:Nat) (F:List Nat) (N0 l Bm lb ck:Nat) (ls:List z0q) (J Jx:List Int->World->Prop) (W:World) (h9:W.heap[lb]?=some (.map (ls.map q7y).toArray ck))
  (hi:ls.Pairwise fun a b=>a.born≠b.born) (hold:∀L∈ls,L.born<ck)
  (hJ:AbidesFrom W.heap.size J) (hm:lb<N0) (h5:lb∉F) (hN:N0<=W.heap.size)
  (hY:∀pre (x:Int) W1,J pre W1->pre.length<ls.length->YieldAt Fence.wide (n-1) Tryz.prog l #[.int .u64 x] W1 fun e W'=>(e= .returned (.bool true)/\J (pre++[x]) W'/\q9o F N0 W1 W')\/(e= .returned (.bool false)/\Jx (pre++[x]) W'))
  (hz:W.cell? ⟨Bm,0,none⟩=some (.map (some lb))) (h0:J [] W):
  CallsIn Fence.wide n Tryz.prog 251 #[.func (.yield l) #[] #[],.pointer (some ⟨Bm,0,none⟩)] W fun e W'=>(∃v,e= .returned v)/\
   ((∃ys,ys.Perm (ls.map fun L=>(L.adr:Int))/\J ys W')\/(∃pre,True/\Jx pre W')):=by
 refine callsIn_of_wp Tryz.func251 rfl trivial ?_ rfl;simp only[Tryz.ntmps251,List.size_toArray,List.length_cons,List.length_nil,Nat.reduceAdd,Nat.reduceSub,Array.replicate_succ,Array.replicate_zero,List.push_toArray,List.append_toArray,List.nil_append,List.cons_append];obtain⟨es,h6⟩:∃es,es=(ls.map q7y).toArray:=⟨_,rfl⟩;rw[<- h6] at h9;have k1:=run_range_map (P:=Tryz.prog) W 204 51 222 lb es ck Tryz.underlying204 h9;have HJ:=hid hJ;have HY:=hid hY;have H0:=hid h0;have k3:=hid h9;have hg:=hid h6;have hs:Hid (∀x∈es.toList,x.born<ck):=fun x hx=>by rw[h6] at hx;simp only[List.mem_map] at hx;obtain⟨L,hL,rfl⟩:=hx;exact hold L hL
 have ND:Hid ((es.toList.map (·.born)).Nodup):=by show(es.toList.map (·.born)).Nodup;rw[h6];show((ls.map q7y).map (·.born)).Nodup;rw[BU];exact CI.2 hi
 have HB:=hid (show lb<N0/\lb∉F/\N0<=W.heap.size from⟨hm,h5,hN⟩);clear hJ hY h0 h9 hm h5 hN h6 hi hold;gi_wp2;obtain⟨r,hr⟩:∃r,r=W.heap.size:=⟨_,rfl⟩;obtain⟨W2,h7⟩:∃W2,W2=W.alloc (.mapIter (some lb) ck #[] ck):=⟨_,rfl⟩;have U:Below W.heap.size W W2:=by rw[h7];exact ba (Below.refl _ _) _
 have I2:Hid (W2.heap[r]?=some (.mapIter (some lb) ck #[] ck)):=by rw[h7,hr];exact heap_alloc_new _ _
 have M2:Hid (W2.heap[lb]?=some (.map es ck)):=(U.block _ (by have:=HB.out;omega)).trans k3.out;have K2:Hid (q0u F N0 W W2):=⟨U.size,fun x hx _=>U.block x (by have:=HB.out;omega)⟩;have J2:Hid (J [] W2):=HJ.out _ _ _ none H0.out (z6v U) (fun r e=>by cases e);have HR:=hid hr;rw[<- hr,<- h7];clear h7 hr U hz k1;gi_loopw [3] (fun _ wr=> ∃(seen:Array Nat) (pre:List Int),Hid (wr.heap[r]?=some (.mapIter (some lb) ck seen ck))/\Hid (wr.heap[lb]?=some (.map es ck))/\Hid (J pre wr)/\Hid (pre.Perm (gotM z6c es.toList seen))/\Hid (q0u F N0 W wr)) (fun _ wr=>(leftOf es (wr.iterSeen r)).size);case atStart=>exact⟨#[],[],I2,M2,J2,(by rw[z8b]:([]:List Int).Perm (gotM z6c es.toList #[])),K2⟩
 case round=>
  obtain⟨seen,pre,hI,hM,hf,hP,hK⟩:=hrel;rcases run_next_at (P:=Tryz.prog) wr 0 r lb ck ck seen es ck hI.out hM.out hs.out (AG _) with⟨h0,I⟩|⟨e,he,w1,ha,I⟩;·have hh:=hid (x2g z6c es seen h0);clear h0;gi_wp2;go_end0;refine⟨⟨_,rfl⟩,.inl ⟨pre,?_,hf.out⟩⟩;have hp:=hP.out;rw[hh.out,hg.out] at hp;rw[<- x4i];exact hp
  ·obtain⟨L,hL,rfl⟩:∃L∈ls,e=q7y L:=by
    have:=(mem_left he).1;rw[hg.out] at this;simp only[List.mem_map] at this;obtain⟨L,hL,rfl⟩:=this;exact⟨L,hL,rfl⟩
   have kc:=hid (left_shrinks es seen (q7y L) he);have hit:=hid hI.out;obtain⟨W3,h8⟩:∃W3,W3=w1.putObj r (.mapIter (some lb) ck (seen.push (q7y L).born) ck):=⟨_,rfl⟩;replace I:(Instr.next (.pointer (some ⟨r,0,none⟩)) false 0).run Tryz.prog wr= .ok (.tuple #[.bool true,(q7y L).key,(q7y L).val]) W3:=by rw[h8];exact I
   have Y:Only [r] wr w1:=by rcases ha with rfl|rfl;exact Only.refl _ _;exact(Only.refl _ _).drew
   have M:Only [r] wr W3:=by rw[h8];exact Only.putObj Y (Or.inl (by simp)) _
   have hj:Hid (W3.heap[r]?=some (.mapIter (some lb) ck (seen.push L.born) ck)):=by rw[h8];exact q9a (w:=w1) (o:= .mapIter (some lb) ck seen ck) (by rcases ha with rfl|rfl<;>exact hI.out)
   have ho:Hid (W3.heap[lb]?=some (.map es ck)):=(M.block _ (AA.1 hM.out).1 (by have:=HB.out;have:=HR.out;simp;omega)).trans hM.out;have hk:wr.grownBy W3 (some r):=⟨M.os,M.tape,M.output,M.size,fun x hx hn=>M.block x hx (by simpa using fun h=>hn (by rw[h]))⟩;have k9:Hid (J pre W3):=HJ.out _ _ _ (some r) hf.out hk (fun r' e=>by cases e;exact⟨by rw[HR.out];exact AG _,_,hI.out,rfl⟩)
   have k8:Hid (q0u F N0 W W3):=hK.out.trans ⟨M.size,fun x hx _=>by
    by_cases hxl:x<wr.heap.size;·exact M.block x hxl (by have:=HB.out;have:=HR.out;simp;omega)
    ·exfalso;have:=hK.out.size;have:=HB.out;omega⟩
   have O:=run_entry_at (P:=Tryz.prog) W3 r lb ck seen es ck (q7y L) hj.out ho.out (mem_left he).1 ND.out;have S:=hid (z3k z6c ND.out (mem_left he).1 (mem_left he).2);have hlt:=x5c z6c ND.out (mem_left he).1 (mem_left he).2 (by rw[z3z];rfl);have h3:es.toList.length=ls.length:=by rw[hg.out];simp
   rw[h3] at hlt;simp only[q7y] at I O;have k4:Hid ((pre++[(L.adr:Int)]).Perm (gotM z6c es.toList (seen.push L.born))):=((hP.out.append_right [(L.adr:Int)])).trans (by have:=S.out;rw[z3z] at this;exact this.symm);obtain⟨fn,tmps,assign,body,hy,hR⟩:=HY.out pre (L.adr:Int) W3 k9.out (by rw[hP.out.length_eq];exact hlt);have kb:=hid hR;clear ha h8 M Y hI hM hf hK he hk hlt h3 hR hL;gi_wp2;refine⟨fun h=>by simp[Fence.wide] at h,kb.out.mono ?_⟩;rintro e' W5 (⟨rfl,hq,hk5⟩|⟨rfl,h4⟩)
   ·have hl:Hid (W5.heap[r]?=some (.mapIter (some lb) ck (seen.push L.born) ck)):=hk5.walks.same r _ hj.out rfl;have k7:Hid (W5.heap[lb]?=some (.map es ck)):=hk5.walks.same lb _ ho.out rfl;have ht:=hid (k8.out.trans hk5.keep);have k5:=hid hq;clear hq hk5 I O hy;gi_wp2;go_roundw;case rel=>exact⟨seen.push L.born,pre++[(L.adr:Int)],hl,k7,k5,k4,ht⟩
    case measure=>
     have h1:W5.iterSeen r=seen.push L.born:=by unfold World.iterSeen;rw[hl.out]
     have h2:wr.iterSeen r=seen:=by unfold World.iterSeen;rw[hit.out]
     rw[h1,h2];exact kc.out
   ·have k0:=hid h4;clear h4 I O hy;gi_wp2;refine bodyPost_ret (results_none rfl _ _ _) rfl ?_;exact⟨⟨_,rfl⟩,.inr ⟨_,trivial,k0.out⟩⟩
theorem x0s (n:Nat) (F:List Nat) (N0 Bm lb ck:Nat) (ls:List z0q) (w:World) (O:w.heap[lb]?=some (.map (ls.map q7y).toArray ck))
  (S:ls.Pairwise fun a b=>a.born≠b.born) (hold:∀L∈ls,L.born<ck) (U:lb<N0) (I:lb∉F) (hN:N0<=w.heap.size)
  (M:w.cell? ⟨Bm,0,none⟩=some (.map (some lb))):
  SeqStopsK Fence.wide n Tryz.prog 251 #[.pointer (some ⟨Bm,0,none⟩)] (fun x:Int=> #[.int .u64 x]) (q9o F N0) (fun ys=>ys.Perm (ls.map fun L=>(L.adr:Int))) (fun _=>True) ls.length w:=by
 intro l J Jx W hW hJ _ hY h0;have h1:=(hW.cell (p:=⟨Bm,0,none⟩) (World.block_lt_of_cell? w _ M)).trans M;exact x6s n F N0 l Bm lb ck ls J Jx W ((hW.block _ (AA.1 O).1).trans O) S hold hJ U I (AH hN hW.size) hY h1 h0
theorem x4w (n:Nat) (lb:Nat) (w:World):
  CallsIn Fence.wide n Tryz.prog 218 #[.map (some lb)] w fun e w'=>e= .returned (.func (.func 251) #[] #[.pointer (some ⟨w.heap.size,0,none⟩)])/\w'=w.alloc (.cells #[.map (some lb)] 204):=by
 refine callsIn_of_wp Tryz.func218 rfl trivial ?_ rfl;simp only[Tryz.ntmps218,List.size_toArray,List.length_cons,List.length_nil,Nat.reduceAdd,Nat.reduceSub,Array.replicate_succ,Array.replicate_zero,List.push_toArray,List.append_toArray,List.nil_append,List.cons_append];gi_wp2;go_ret;exact⟨rfl,rfl⟩
end
section
open Go.RowKit Go.Shelf
attribute [local go_sem] Oper.semAt_some
def x2v (w:World) (pre:List Int) (W:World):Prop:=(∃v,Boxed W w.heap.size 30 v/\W.ownsRow w.heap.size 51 1 v pre.length (pre.map (Value.int .u64))/\True)/\Below w.heap.size w W
theorem x2v.own (w:World) (B:Nat) (hB:w.heap.size<=B):OwnFrom B (x2v w):=
 OwnFrom.and (Own.from (holdsRow_own w.heap.size w.heap.size 30 51 1 (fun pre:List Int=>pre.length) (fun pre=>pre.map (Value.int .u64)) (fun _ _=>True)) B)
  (ownFrom_below (AG _) hB)
theorem x3l (Bm lb ck:Nat) (ls:List z0q) (w:World) (h3:w.heap[lb]?=some (.map (ls.map q7y).toArray ck)) (h4:ls.Pairwise fun a b=>a.born≠b.born) (hold:∀L∈ls,L.born<ck)
  (h2:w.cell? ⟨Bm,0,none⟩=some (.map (some lb))) (hl:ls.length<=1000000):
  CallsIn Fence.wide 5 Tryz.prog 211 #[.slice none 0 0,.func (.func 251) #[] #[.pointer (some ⟨Bm,0,none⟩)]] w fun e W'=>(∃(v:Value) (ys:List Int),e= .returned v/\ys.Perm (ls.map fun L=>(L.adr:Int))/\W'.ownsRow w.heap.size 51 1 v ys.length (ys.map (Value.int .u64)))/\Below w.heap.size w W':=by
 obtain⟨i0,hk,hs,ht,hj⟩:=info_parts q9s;refine callsIn_of_wp_marks Tryz.func211 rfl trivial ?_ rfl;simp only[Tryz.ntmps211,List.size_toArray,List.length_cons,List.length_nil,Nat.reduceAdd,Nat.reduceSub,Array.replicate_succ,Array.replicate_zero,List.push_toArray,List.append_toArray,List.nil_append,List.cons_append];gi_wp2_with fail;obtain⟨W0,Y⟩:∃W0,W0=w.alloc (Obj.cells #[.slice none 0 0] 30):=⟨_,rfl⟩;have hx:W0.heap.size=w.heap.size+1:=by rw[Y];simp
 have h1:Below w.heap.size w W0:=by rw[Y];exact ba (Below.refl _ _) _
 have S:=(AA.1 h3).1;have h9:=(h1.block _ S).trans h3;have O:Bm<w.heap.size:=World.block_lt_of_cell? w _ h2;have h7:=(h1.cell (p:=⟨Bm,0,none⟩) O).trans h2;have h8:Boxed W0 w.heap.size 30 (.slice none 0 0):=by rw[Y];exact Boxed.new w 30 (.slice none 0 0)
 rw[<- Y];have HL:=hid hl;clear Y
 refine wpIn_rangeFunc_ownG rfl (by omega) (gf:=251) (lb:= #[.pointer (some ⟨Bm,0,none⟩)]) rfl trivial (enters_of Tryz.func251 (by kernel_rfl) rfl)
  (x0s 4 [w.heap.size] (w.heap.size+1) Bm lb ck ls W0 h9 h4 hold (by omega) (by simp;omega) (by omega) h7) q9o.trans ?hKb (Below.refl _ _) (fun _=>rfl)
  (x2v w) (fun _ _ _=>False) (x2v.own w _ (by omega)) (fun _ _ _ _ _ h _ _=>h)
  ?h0
  (fun x=>{ tmps:= #[.slice none 0 0,.func (.func 251) #[] #[.pointer (some ⟨Bm,0,none⟩)],.pointer (some ⟨w.heap.size,0,none⟩),undef,.slice none 0 0,.int .u64 x,.func (.func 251) #[] #[.pointer (some ⟨Bm,0,none⟩)],.int .u64 x,undef,undef,undef,undef,undef],defers:=[] }) ?assign ?body ?done ?stop
 case hKb=>intro W l o o' hl ho hc hw;exact q9o.putObj ho hw (by omega)
 case h0=>exact⟨⟨.slice none 0 0,h8,⟨rfl,Or.inl ⟨rfl,rfl⟩⟩,trivial⟩,h1⟩
 case assign=>intro l x W K hK;gi_wp2;exact hK
 case body=>
  rintro l pre x W hI hlt;obtain⟨⟨v,hv,I,_⟩,hB⟩:=hI;have hc:=hv.cell;have HV:=hid hv;have HR:=hid I;have h5:=hid hB;have k3:=hid hlt;have k1:=h5.out.size;obtain⟨a,c,rfl⟩:=q0q I;obtain⟨nn,h6⟩:∃nn,nn=pre.length:=⟨_,rfl⟩;have HN:=hid h6;have hf:nn<=1000000:=by have:=HL.out;omega
  rw[<- h6] at hc HV HR;clear hv I hB h6 hlt h3 h2 S h9 h7 O h8 h1 hl h4 hold;gi_wp2_with (gi_at_builtin;go_loud (refine wpListIn_append_own_at _ rfl _ _ 30 rfl w.heap.size 51 i0 (.int .u64 0) 1 8 Tryz.underlying30 hk hs ht hj rfl (by decide) _ _ _ rfl (HR.out.alloc _) ⟨W.heap.size,0,none⟩ 1 1 [.int .u64 x] rfl rfl (q9p _ _ _) (by simp[Value.oneCell']) (by unfold maxLen;omega) (by omega) (by simp;omega) ?_;intro v' w1 M U _ hz;obtain⟨a',c',rfl⟩:=q0q M;obtain⟨hv1,hv2,hr2,hk2,hb2⟩:=HV.out.appended (by decide) HR.out h5.out.size (AG _) M U;have hg:=hv1.cell;have k0:=hv1.frozen));have hq:(pre++[x]).length=nn+1:=by rw[AI,<- HN.out];rfl
  have hr:(pre++[x]).map (Value.int .u64)=pre.map (Value.int .u64)++[.int .u64 x]:=by rw[Ah];rfl
  refine⟨hk2.from _,⟨⟨hk2.size,?_⟩,z1l hk2⟩,⟨_,hv2,by rw[hq,hr];exact hr2,trivial⟩,h5.out.trans hb2⟩;intro y hy hi;have hh:y<w.heap.size:=by simp at hi;omega
  exact hb2.block y hh
 case done=>rintro D ys W hD ha ⟨⟨v,hv,I,_⟩,hB⟩ hK;have hc:=hv.cell;have HB:=hid hB;have HV:=hid hv;have HR:=hid I;have HY:=hid ha;clear hv I hB h3 h2 S h9 h7 O h8 h1 hl h4 hold ha;gi_wp2;have hp:=HB.out.trans (belowK_b (w:=w) (AG _) W D _ (.deferred none) (by omega) hK rfl rfl);have hm:=ownsRow_putObj HR.out (.deferred none) hK rfl;refine⟨by simp,.inl ⟨_,_,rfl,run_takeDeferred hK,?_⟩⟩;refine⟨v,?_,⟨v,ys,rfl,HY.out,hm⟩,hp⟩;simp[results,Tryz.results211,go_sem]
 case stop=>rintro D c0 pre W hD he h hK;exact h.elim
structure x2s (w:World) (ls:List z0q) (v:Value) (ys:List Int) (W:World):Prop where
 perm:ys.Perm (ls.map fun L=>(L.adr:Int))
 row:W.ownsRow w.heap.size 51 1 v ys.length (ys.map (Value.int .u64))
 bel:Below w.heap.size w W
theorem x4q (Bm lb ck:Nat) (ls:List z0q) (w:World) (O:w.heap[lb]?=some (.map (ls.map q7y).toArray ck)) (M:ls.Pairwise fun a b=>a.born≠b.born) (hold:∀L∈ls,L.born<ck)
  (I:w.cell? ⟨Bm,0,none⟩=some (.map (some lb))) (hl:ls.length<=1000000):
  Calls Tryz.prog 155 #[.func (.func 251) #[] #[.pointer (some ⟨Bm,0,none⟩)]] w fun e W'=> ∃v ys,e= .returned v/\x2s w ls v ys W':=by
 have HA:=hid (callsIn_wide.1 (x3l Bm lb ck ls w O M hold I hl));clear O M hold I hl;go_enter Tryz.func155,Tryz.ntmps155;go_wp2_with fail;refine HA.out.mono ?_;rintro e w1 ⟨⟨v,ys,rfl,h1,h2⟩,h3⟩;have HR:Hid (x2s w ls v ys w1):=⟨h1,h2,h3⟩;clear h1 h2 h3;go_wp2;go_ret;exact⟨v,ys,rfl,HR.out⟩
theorem x8r (Bm lb ck:Nat) (ls:List z0q) (w:World) (M:w.heap[lb]?=some (.map (ls.map q7y).toArray ck)) (I:ls.Pairwise fun a b=>a.born≠b.born) (hold:∀L∈ls,L.born<ck)
  (O:w.cell? ⟨Bm,0,none⟩=some (.map (some lb))) (hl:ls.length<=1000000):
  Calls Tryz.prog 67 #[.func (.func 251) #[] #[.pointer (some ⟨Bm,0,none⟩)]] w fun e W'=> ∃v ys,e= .returned v/\x2s w ls v ys W':=by
 have HA:=hid (x4q Bm lb ck ls w M I hold O hl);have HL:=hid hl;clear M I hold O hl;go_enter Tryz.func67,Tryz.ntmps67;go_wp2_with fail;refine HA.out.mono ?_;rintro e w1 ⟨v,ys,rfl,hr⟩;have HS:=hid (z6b hr.row (by have h1:=hr.perm.length_eq;have:=HL.out;simp at h1;omega));have HR:=hid hr;clear hr;go_wp2_with fail;refine HS.out.mono ?_;rintro e w2 ⟨⟨rv,rfl⟩,zs,p1,p2,p3,p4,p5⟩
 have hb:Below w.heap.size w w2:=by
  rcases p5 with⟨_,rfl⟩|⟨g,n',S,_,U,ho⟩;·exact HR.out.bel
  ·exact HR.out.bel.trans (ho.below (by simpa using U) HR.out.bel.size)
 have HF:Hid (x2s w ls v zs w2):=⟨p1.trans HR.out.perm,by rw[p1.length_eq];exact p3,hb⟩;clear p1 p2 p3 p4 p5 hb HS;go_wp2;go_ret;exact⟨v,zs,rfl,HF.out⟩
theorem x8t (m:Nat) (B:MB) (M:MemS) (w:World) (h:q4f w m B M) (hl:M.lines.length<=1000000):
  Calls Tryz.prog 179 #[.pointer (some ⟨m,0,none⟩)] w fun e W'=> ∃(b:Nat) (v:Value) (ys:List Int),e= .returned (.func (.func 250) #[] #[.pointer (some ⟨b,0,none⟩)])/\
   ys.Perm (M.lines.map fun L=>(L.adr:Int))/\W'.ownsRow w.heap.size 51 1 v ys.length (ys.map (Value.int .u64))/\w.heap.size<=b/\Blk W' b 30 #[v]/\v.ownBlock≠some b/\Below w.heap.size w W':=by
 obtain⟨W1,I⟩:∃W1,W1=w.alloc (.cells #[.map (some B.lb)] 204):=⟨_,rfl⟩;have S:Below w.heap.size w W1:=by rw[I];exact ba (Below.refl _ _) _
 have Y:W1.cell? ⟨w.heap.size,0,none⟩=some (.map (some B.lb)):=by rw[I];exact(Blk.new w _ _).cell 0
 have HS:=hid (x8r w.heap.size B.lb M.clock M.lines W1 ((S.block _ (AA.1 h.map).1).trans h.map) h.born h.old Y hl);have y2:w.cell? ⟨m,2,none⟩=some (.map (some B.lb)):=h.blk.cell 2;have HW:=hid I;have HB:=hid S;clear I S Y h hl;go_enter Tryz.func179,Tryz.ntmps179;go_wp2_with fail;refine(callsIn_wide.1 (x4w 5 B.lb w)).mono ?_;rintro e w1 ⟨rfl,rfl⟩;go_wp2_with fail;rw[<- HW.out];refine HS.out.mono ?_;rintro e w2 ⟨v,ys,rfl,hr⟩;obtain⟨a,c,rfl⟩:=q0q hr.row;have HR:=hid hr;obtain⟨ny,O⟩:∃ny,ny=ys.length:=⟨_,rfl⟩;rw[<- O];have U:=hid O;clear hr O;go_wp2;go_ret;have h1:Below w.heap.size w w2:=HB.out.trans (HR.out.bel.mono HB.out.size);have hr:=HR.out.row;rw[<- U.out] at hr;refine⟨w2.heap.size,.slice a ny c,ys,rfl,HR.out.perm,?_,h1.size,Blk.new w2 _ _,fun e=> ?_,ba h1 _⟩;·rw[<- U.out];exact(hr.alloc _).mono HB.out.size
 ·have:=x2j hr _ e;omega
end
section
open Go.RowKit Go.Shelf
attribute [local go_sem] Oper.semAt_some
theorem x9a (m:Nat) (B:MB) (M0:MemS) (w:World) (h:q4f w m B M0) (hl:M0.lines=[]):
  CallsIn Fence.wide 5 Tryz.prog 121 #[ptrV m] w fun e W'=>(∃a c,e= .returned (.slice a 0 c))/\Below w.heap.size w W':=by
 have HT:=hid (q8c m B M0.view.length M0.st h.pos);have h2:=hid (fun W1 (hb:Below w.heap.size w W1)=>x8t m B M0 W1 (h.only (Only.of_below hb []) (fun _ _ h=>by cases h)) (by rw[hl];decide));have H:=hid h;refine callsIn_of_wp_marks Tryz.func121 rfl trivial ?_ rfl;simp only[Tryz.ntmps121,List.size_toArray,List.length_cons,List.length_nil,Nat.reduceAdd,Nat.reduceSub,Array.replicate_succ,Array.replicate_zero,List.push_toArray,List.append_toArray,List.nil_append,List.cons_append];gi_wp2_with fail;obtain⟨W1,I⟩:∃W1,W1=w.alloc (.cells #[.slice none 0 0] 30):=⟨_,rfl⟩;have M:Below w.heap.size w W1:=by rw[I];exact ba (Below.refl _ _) _
 have hbl:Blk W1 w.heap.size 30 #[.slice none 0 0]:=by rw[I];exact Blk.new _ _ _
 rw[<- I];have HR:=hid (h2.out W1 M);have S:=h.blk.bel M;have h6:=hid M;have h7:=hid hbl;have HL:=hid hl;have h5:=hid I;clear I M h2 h hl hbl;refine⟨trivial,(callsIn_wide.2 (HT.out W1 S)).mono ?_⟩;rintro e w1 ⟨rfl,rfl⟩;gi_wp2_with fail;refine⟨trivial,(callsIn_wide.2 HR.out).mono ?_⟩;rintro e W2 ⟨b,v,ys,rfl,p1,p2,p3,p4,p5,p6⟩;rw[HL.out] at p1;have hy:ys=[]:=by have:=p1.length_eq;simpa using this
 subst hy;obtain⟨p,g,c,rfl,r1,r2,r3,r4⟩:=v6t p2 p3 p4.lt;gi_wp2_with fail;have HS:=hid (x7b 4 0 g c p (fun _=>0) [] W2.heap.size b W2 (by decide) (fun h=>absurd h (Nat.lt_irrefl 0)) (fun i hi=>absurd hi (BP _)) p4.lt r4 (by simp) (by simp) (AG _) (p4.cell 0));have HP:=hid (⟨p6,p4.lt,r4,p3,r3⟩:_/\_/\_/\_/\_);have U:Below W1.heap.size W1 W2:=p6;have HJ:=hid U;clear p1 p2 p4 p5 r1 r2 p6 U p3 r3 r4 HR
 refine wpIn_rangeFunc_ownG rfl (by omega) (gf:=250) (lb:= #[.pointer (some ⟨b,0,none⟩)]) rfl trivial (enters_of Tryz.func250 (by kernel_rfl) rfl)
  HS.out q0u.trans ?hKb (Below.refl _ _) (fun _=>rfl)
  (fun _=>Below W1.heap.size W1) (fun _ _ _=>False) ?own (fun _ _ _ _ _ h _ _=>h)
  HJ.out
  (fun x=>Fin.elim0 x) ?assign ?body ?done ?stop
 case hKb=>intro W l o o' hl ho hc hw;exact(q0u.refl _ _ W).putObj (by omega) o'
 case own=>intro s W W' row hs hg O;refine hs.trans ((Only.of_grown (f:=row.toList) hg (fun k hk=>by simp[hk])).below (fun k hk=> ?_) hs.size);have:=(O k (by simpa using hk)).1;have:=HP.out.1.size;omega
 case assign=>intro l x;exact Fin.elim0 x
 case body=>rintro l pre x;exact Fin.elim0 x
 case done=>
  rintro D xs W hD _ hI hK;have hbl:=h7.out.bel hI;have ha:=hbl.cell 0;have hh:=hbl.frozen 0;have HX:=hid (⟨hD,hI,hK,hbl⟩:_/\_/\_/\_);clear hD hI hK hbl;gi_wp2_with fail;obtain⟨W',L⟩:∃W',W'=W.setCell ⟨w.heap.size,0,none⟩ (.slice none 0 0):=⟨_,rfl⟩;have he:W1.heap.size=w.heap.size+1:=by have:=h5.out;rw[this];simp
  have h8:=(AA.1 HX.out.2.2.1).1;have hlt:=HX.out.2.2.2.lt;have hf:=HP.out.1.size;have hD:=HX.out.1;have h1:Blk W' w.heap.size 30 #[.slice none 0 0]:=by rw[L];exact HX.out.2.2.2.set_ 0 (.slice none 0 0)
  have oW:Only [w.heap.size] W W':=by rw[L];exact(Only.refl _ _).setCell (Or.inl (by simp)) _
  have h3:W'.heap[D]?=some (.deferred (some [])):=(oW.block D h8 (by simp;omega)).trans HX.out.2.2.1;rw[<- L];refine⟨by simp,.inl ⟨_,_,rfl,run_takeDeferred h3,?_⟩⟩;have o2:Only [D] W' (W'.putObj D (.deferred none)):=Only.putObj (Only.refl _ _) (Or.inl (by simp)) _;have Y:=o2.blk h1 (by simp;omega);have h9:(W'.putObj D (.deferred none)).cell? ⟨w.heap.size,0,none⟩=some (.slice none 0 0):=Y.cell 0;refine⟨.slice none 0 0,?_,⟨_,_,rfl⟩,?_⟩;·clear L oW h3 Y o2 h1;simp[results,Tryz.results121,go_sem,h9]
  ·have o3:Only [w.heap.size,D] w (W'.putObj D (.deferred none)):=((((Only.of_below h6.out []).trans (Only.of_below HX.out.2.1 []) (by simp)).mono (by simp)).trans (oW.mono (by simp)) (fun x hx=>Or.inl hx)).trans (o2.mono (by simp)) (fun x hx=>Or.inl hx);exact o3.below (fun k hk=>by simp at hk;omega) (AG _)
 case stop=>rintro D c0 pre W hD h4 h hK;exact h.elim
theorem v3b (m:Nat) (B:MB) (M0:MemS) (w:World) (h:q4f w m B M0) (hl:M0.lines=[]):
  Calls Tryz.prog 121 #[ptrV m] w fun e W'=>(∃a c,e= .returned (.slice a 0 c))/\Below w.heap.size w W':=callsIn_wide.1 (x9a m B M0 w h hl)
end
end Go.Proofs.YtibiekfjbibpbaaGreat
