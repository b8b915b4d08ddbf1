import Derived.Test.YtibiekfjbibpbaaGreatLkQ
import Derived.Deep.Onto
import Derived.Test.YtibiekfjbibpbaaGreatRefW
set_option maxRecDepth 100000
set_option maxHeartbeats 2000000
set_option linter.unusedVariables false
set_option linter.unusedSimpArgs false
namespace Go.Proofs.YtibiekfjbibpbaaGreat
section
open Go.RowKit
theorem v4f (p:Addr) (x:Int) (w:World) (hc:w.cell? p=some (.int .i64 x)) (hz:w.frozen? p=false):
  CallsD Tryz.prog 148 #[.pointer (some p)] (.panicking errC) w fun e u' w'=>e= .returned (.tuple #[])/\u'= .panicking [{ v:= .iface 33 (.int .i64 6),recovered:=true }]/\w'=w.setCell p (.int .i64 6):=by
 have he:∀W:World,Sem.run Tryz.prog (binOp BinOp.eql 20 (.iface 33 (.int .i64 6)) .nilIface) W= .ok (.bool false) W:=fun W=>by kernel_rfl
 have ha:∀W:World,Sem.run Tryz.prog (Instr.typeAssert (.iface 33 (.int .i64 6)) 20 33 true) W= .ok (.tuple #[.int .i64 6,.bool true]) W:=fun W=>by kernel_rfl
 refine callsD_of_wpS Tryz.func148 rfl fun I cs hu=> ?_;unfold errC at hu;apply wpS_seq;apply wpS_region;simp[wpOpsS,go_sem,recoverD,hu,Tryz.ntmps148,Exit.thenS];refine wpS_of_wp ?_;go_wp2;simp[bodyPostS,results,Tryz.results148]
theorem v5e (p:Addr) (w:World):
  CallsD Tryz.prog 148 #[.pointer (some p)] .returning w fun e u' w'=>e= .returned (.tuple #[])/\u'= .returning/\w'=w:=by
 have he:∀W:World,Sem.run Tryz.prog (binOp BinOp.eql 20 .nilIface .nilIface) W= .ok (.bool true) W:=fun W=>by kernel_rfl
 refine callsD_of_wpS Tryz.func148 rfl fun I cs hu=> ?_;apply wpS_seq;apply wpS_region;simp[wpOpsS,go_sem,recoverD,hu,Tryz.ntmps148,Exit.thenS];refine wpS_of_wp ?_;go_wp2;cases I;simp_all [bodyPostS,results,Tryz.results148]
def CatQ (OK BAD:World->Prop) (e:Ending) (w':World):Prop:=(e= .returned (.tuple #[])/\OK w')\/(e= .panicked errC/\BAD w')
def CatR (b:Nat) (OK BAD:World->Prop) (e:Ending) (w':World):Prop:=∃w1,(OK w1/\e= .returned (.int .i64 0)/\w'=w1.setCell ⟨b,0,none⟩ (.int .i64 0))\/(BAD w1/\e= .returned (.int .i64 6)/\w'=w1.setCell ⟨b,0,none⟩ (.int .i64 6))
theorem v2p (F:Nat) (cap:Array Value) (hF:∀w,Sem.run Tryz.prog (callFunc F cap) w= .ok (.enter F cap) w) (w:World) (OK L:World->Prop) (h:Calls Tryz.prog F cap (w.alloc (.cells #[.int .i64 0] 33)) (CatQ OK L))
  (hk:∀w',OK w'\/L w'->w'.cell? ⟨w.heap.size,0,none⟩=some (.int .i64 0)/\w'.frozen? ⟨w.heap.size,0,none⟩=false):
  Calls Tryz.prog 64 #[.func (.func F) #[] cap] w (CatR w.heap.size OK L):=by
 have S:∀(fn:Fn) (first cap:Array Value) (w:World),(Instr.makeFunc fn first cap).run Tryz.prog w= .ok (.func fn first cap) w:=fun _ _ _ _=>rfl;have H:=hid h;have HK:=hid hk;clear h hk;go_enter_defers Tryz.func64,Tryz.ntmps64;go_wp2_with fail;refine H.out.mono ?_;rintro e w1 (⟨rfl,M⟩|⟨rfl,I⟩);·obtain⟨hc,hz⟩:=HK.out w1 (Or.inl M);go_wp2;refine leaves_cons (f:=148) (args:= #[.pointer (some ⟨w.heap.size,0,none⟩)]) (by simp) (by simp[go_sem]) ?_;refine(v5e ⟨w.heap.size,0,none⟩ _).mono ?_;rintro e u' O ⟨rfl,rfl,rfl⟩;simp[Leaves,settle,results,Tryz.results64,go_sem,hc,hz];exact⟨w1,Or.inl ⟨M,rfl,rfl⟩⟩
 ·obtain⟨hc,hz⟩:=HK.out w1 (Or.inr I);refine leaves_cons (f:=148) (args:= #[.pointer (some ⟨w.heap.size,0,none⟩)]) (by simp) (by simp[go_sem]) ?_;refine(v4f ⟨w.heap.size,0,none⟩ 0 _ hc hz).mono ?_;rintro e u' O ⟨rfl,rfl,rfl⟩;simp[Leaves,settle,results,Tryz.results64,go_sem,hc,hz];exact⟨w1,Or.inr ⟨I,rfl,rfl⟩⟩
end
section
open Go.RowKit Go.Shelf
attribute [local go_sem] Oper.semAt_some
structure KeyA where
 adr:Int
 born:Nat
def keyE (K:KeyA):MapEntry:={ key:= .int .u64 K.adr,val:= .agg #[],born:=K.born }
def adrF (e:MapEntry):Option Int:=
 match e.key with
 | .int .u64 a=>some a
 | _=>none
theorem z4e (L:KeyA):adrF (keyE L)=some L.adr:=rfl
theorem v1y (ls:List KeyA):(ls.map keyE).filterMap adrF=ls.map fun L=>L.adr:=by
 induction ls with
 | nil=>rfl
 | cons L ls ih=>rw[Be,List.filterMap_cons,z4e,ih];rfl
theorem v1o (n:Nat) (F:List Nat) (N0 l Bm lb ck:Nat) (ls:List KeyA) (J Jx:List Int->World->Prop) (W:World) (h9:W.heap[lb]?=some (.map (ls.map keyE).toArray ck))
  (hi:ls.Pairwise fun a b=>a.born≠b.born) (hold:∀L∈ls,L.born<ck)
  (hJ:AbidesFrom W.heap.size J) (hm:lb<N0) (h5:lb∉F) (hN:N0<=W.heap.size)
  (hY:∀pre (x:Int) W1,J pre W1->pre.length<ls.length->YieldAt Fence.wide (n-1) Tryz.prog l #[.int .u64 x] W1 fun e W'=>(e= .returned (.bool true)/\J (pre++[x]) W'/\q9o F N0 W1 W')\/(e= .returned (.bool false)/\Jx (pre++[x]) W'))
  (hz:W.cell? ⟨Bm,0,none⟩=some (.map (some lb))) (h0:J [] W):
  CallsIn Fence.wide n Tryz.prog 156 #[.func (.yield l) #[] #[],.pointer (some ⟨Bm,0,none⟩)] W fun e W'=>(∃v,e= .returned v)/\
   ((∃ys,ys.Perm (ls.map fun L=>L.adr)/\J ys W')\/(∃pre,True/\Jx pre W')):=by
 refine callsIn_of_wp Tryz.func156 rfl trivial ?_ rfl;simp only[Tryz.ntmps156,List.size_toArray,List.length_cons,List.length_nil,Nat.reduceAdd,Nat.reduceSub,Array.replicate_succ,Array.replicate_zero,List.push_toArray,List.append_toArray,List.nil_append,List.cons_append];obtain⟨es,h6⟩:∃es,es=(ls.map keyE).toArray:=⟨_,rfl⟩;rw[<- h6] at h9;have k1:=run_range_map (P:=Tryz.prog) W 139 51 147 lb es ck Tryz.underlying139 h9;have HJ:=hid hJ;have HY:=hid hY;have H0:=hid h0;have k3:=hid h9;have hg:=hid h6;have hs:Hid (∀x∈es.toList,x.born<ck):=fun x hx=>by rw[h6] at hx;simp only[List.mem_map] at hx;obtain⟨L,hL,rfl⟩:=hx;exact hold L hL
 have ND:Hid ((es.toList.map (·.born)).Nodup):=by show(es.toList.map (·.born)).Nodup;rw[h6];show((ls.map keyE).map (·.born)).Nodup;rw[BU];exact CI.2 hi
 have HB:=hid (show lb<N0/\lb∉F/\N0<=W.heap.size from⟨hm,h5,hN⟩);clear hJ hY h0 h9 hm h5 hN h6 hi hold;gi_wp2;obtain⟨r,hr⟩:∃r,r=W.heap.size:=⟨_,rfl⟩;obtain⟨W2,h7⟩:∃W2,W2=W.alloc (.mapIter (some lb) ck #[] ck):=⟨_,rfl⟩;have U:Below W.heap.size W W2:=by rw[h7];exact ba (Below.refl _ _) _
 have I2:Hid (W2.heap[r]?=some (.mapIter (some lb) ck #[] ck)):=by rw[h7,hr];exact heap_alloc_new _ _
 have M2:Hid (W2.heap[lb]?=some (.map es ck)):=(U.block _ (by have:=HB.out;omega)).trans k3.out;have K2:Hid (q0u F N0 W W2):=⟨U.size,fun x hx _=>U.block x (by have:=HB.out;omega)⟩;have J2:Hid (J [] W2):=HJ.out _ _ _ none H0.out (z6v U) (fun r e=>by cases e);have HR:=hid hr;rw[<- hr,<- h7];clear h7 hr U hz k1;gi_loopw [3] (fun _ wr=> ∃(seen:Array Nat) (pre:List Int),Hid (wr.heap[r]?=some (.mapIter (some lb) ck seen ck))/\Hid (wr.heap[lb]?=some (.map es ck))/\Hid (J pre wr)/\Hid (pre.Perm (gotM adrF es.toList seen))/\Hid (q0u F N0 W wr)) (fun _ wr=>(leftOf es (wr.iterSeen r)).size);case atStart=>exact⟨#[],[],I2,M2,J2,(by rw[z8b]:([]:List Int).Perm (gotM adrF es.toList #[])),K2⟩
 case round=>
  obtain⟨seen,pre,hI,hM,hf,hP,hK⟩:=hrel;rcases run_next_at (P:=Tryz.prog) wr 0 r lb ck ck seen es ck hI.out hM.out hs.out (AG _) with⟨h0,I⟩|⟨e,he,w1,ha,I⟩;·have hh:=hid (x2g adrF es seen h0);clear h0;gi_wp2;go_end0;refine⟨⟨_,rfl⟩,.inl ⟨pre,?_,hf.out⟩⟩;have hp:=hP.out;rw[hh.out,hg.out] at hp;rw[<- v1y];exact hp
  ·obtain⟨L,hL,rfl⟩:∃L∈ls,e=keyE L:=by
    have:=(mem_left he).1;rw[hg.out] at this;simp only[List.mem_map] at this;obtain⟨L,hL,rfl⟩:=this;exact⟨L,hL,rfl⟩
   have kc:=hid (left_shrinks es seen (keyE L) he);have hit:=hid hI.out;obtain⟨W3,h8⟩:∃W3,W3=w1.putObj r (.mapIter (some lb) ck (seen.push (keyE L).born) ck):=⟨_,rfl⟩;replace I:(Instr.next (.pointer (some ⟨r,0,none⟩)) false 0).run Tryz.prog wr= .ok (.tuple #[.bool true,(keyE L).key,(keyE L).val]) W3:=by rw[h8];exact I
   have Y:Only [r] wr w1:=by rcases ha with rfl|rfl;exact Only.refl _ _;exact(Only.refl _ _).drew
   have M:Only [r] wr W3:=by rw[h8];exact Only.putObj Y (Or.inl (by simp)) _
   have hj:Hid (W3.heap[r]?=some (.mapIter (some lb) ck (seen.push L.born) ck)):=by rw[h8];exact q9a (w:=w1) (o:= .mapIter (some lb) ck seen ck) (by rcases ha with rfl|rfl<;>exact hI.out)
   have ho:Hid (W3.heap[lb]?=some (.map es ck)):=(M.block _ (AA.1 hM.out).1 (by have:=HB.out;have:=HR.out;simp;omega)).trans hM.out;have hk:wr.grownBy W3 (some r):=⟨M.os,M.tape,M.output,M.size,fun x hx hn=>M.block x hx (by simpa using fun h=>hn (by rw[h]))⟩;have k9:Hid (J pre W3):=HJ.out _ _ _ (some r) hf.out hk (fun r' e=>by cases e;exact⟨by rw[HR.out];exact AG _,_,hI.out,rfl⟩)
   have k8:Hid (q0u F N0 W W3):=hK.out.trans ⟨M.size,fun x hx _=>by
    by_cases hxl:x<wr.heap.size;·exact M.block x hxl (by have:=HB.out;have:=HR.out;simp;omega)
    ·exfalso;have:=hK.out.size;have:=HB.out;omega⟩
   have O:=run_entry_at (P:=Tryz.prog) W3 r lb ck seen es ck (keyE L) hj.out ho.out (mem_left he).1 ND.out;have S:=hid (z3k adrF ND.out (mem_left he).1 (mem_left he).2);have hlt:=x5c adrF ND.out (mem_left he).1 (mem_left he).2 (by rw[z4e];rfl);have h3:es.toList.length=ls.length:=by rw[hg.out];simp
   rw[h3] at hlt;simp only[keyE] at I O;have k4:Hid ((pre++[L.adr]).Perm (gotM adrF es.toList (seen.push L.born))):=((hP.out.append_right [L.adr])).trans (by have:=S.out;rw[z4e] at this;exact this.symm);obtain⟨fn,tmps,assign,body,hy,hR⟩:=HY.out pre L.adr W3 k9.out (by rw[hP.out.length_eq];exact hlt);have kb:=hid hR;clear ha h8 M Y hI hM hf hK he hk hlt h3 hR hL;gi_wp2;refine⟨fun h=>by simp[Fence.wide] at h,kb.out.mono ?_⟩;rintro e' W5 (⟨rfl,hq,hk5⟩|⟨rfl,h4⟩)
   ·have hl:Hid (W5.heap[r]?=some (.mapIter (some lb) ck (seen.push L.born) ck)):=hk5.walks.same r _ hj.out rfl;have k7:Hid (W5.heap[lb]?=some (.map es ck)):=hk5.walks.same lb _ ho.out rfl;have ht:=hid (k8.out.trans hk5.keep);have k5:=hid hq;clear hq hk5 I O hy;gi_wp2;go_roundw;case rel=>exact⟨seen.push L.born,pre++[L.adr],hl,k7,k5,k4,ht⟩
    case measure=>
     have h1:W5.iterSeen r=seen.push L.born:=by unfold World.iterSeen;rw[hl.out]
     have h2:wr.iterSeen r=seen:=by unfold World.iterSeen;rw[hit.out]
     rw[h1,h2];exact kc.out
   ·have k0:=hid h4;clear h4 I O hy;gi_wp2;refine bodyPost_ret (results_none rfl _ _ _) rfl ?_;exact⟨⟨_,rfl⟩,.inr ⟨_,trivial,k0.out⟩⟩
theorem x4b (n:Nat) (F:List Nat) (N0 Bm lb ck:Nat) (ls:List KeyA) (w:World) (O:w.heap[lb]?=some (.map (ls.map keyE).toArray ck))
  (S:ls.Pairwise fun a b=>a.born≠b.born) (hold:∀L∈ls,L.born<ck) (U:lb<N0) (I:lb∉F) (hN:N0<=w.heap.size)
  (M:w.cell? ⟨Bm,0,none⟩=some (.map (some lb))):
  SeqStopsK Fence.wide n Tryz.prog 156 #[.pointer (some ⟨Bm,0,none⟩)] (fun x:Int=> #[.int .u64 x]) (q9o F N0) (fun ys=>ys.Perm (ls.map fun L=>L.adr)) (fun _=>True) ls.length w:=by
 intro l J Jx W hW hJ _ hY h0;have h1:=(hW.cell (p:=⟨Bm,0,none⟩) (World.block_lt_of_cell? w _ M)).trans M;exact v1o n F N0 l Bm lb ck ls J Jx W ((hW.block _ (AA.1 O).1).trans O) S hold hJ U I (AH hN hW.size) hY h1 h0
theorem x5g (n:Nat) (lb:Nat) (w:World):
  CallsIn Fence.wide n Tryz.prog 68 #[.map (some lb)] w fun e w'=>e= .returned (.func (.func 156) #[] #[.pointer (some ⟨w.heap.size,0,none⟩)])/\w'=w.alloc (.cells #[.map (some lb)] 139):=by
 refine callsIn_of_wp Tryz.func68 rfl trivial ?_ rfl;simp only[Tryz.ntmps68,List.size_toArray,List.length_cons,List.length_nil,Nat.reduceAdd,Nat.reduceSub,Array.replicate_succ,Array.replicate_zero,List.push_toArray,List.append_toArray,List.nil_append,List.cons_append];gi_wp2;go_ret;exact⟨rfl,rfl⟩
end
section
open Go.RowKit Go.Shelf
attribute [local go_sem] Oper.semAt_some
def x9r (w:World) (pre:List Int) (W:World):Prop:=(∃v,Boxed W w.heap.size 30 v/\W.ownsRow w.heap.size 51 1 v pre.length (pre.map (Value.int .u64))/\True)/\Below w.heap.size w W
theorem x9r.own (w:World) (B:Nat) (hB:w.heap.size<=B):OwnFrom B (x9r w):=
 OwnFrom.and (Own.from (holdsRow_own w.heap.size w.heap.size 30 51 1 (fun pre:List Int=>pre.length) (fun pre=>pre.map (Value.int .u64)) (fun _ _=>True)) B)
  (ownFrom_below (AG _) hB)
theorem x6o (Bm lb ck:Nat) (ls:List KeyA) (w:World) (h3:w.heap[lb]?=some (.map (ls.map keyE).toArray ck)) (h4:ls.Pairwise fun a b=>a.born≠b.born) (hold:∀L∈ls,L.born<ck)
  (h2:w.cell? ⟨Bm,0,none⟩=some (.map (some lb))) (hl:ls.length<=1000000):
  CallsIn Fence.wide 5 Tryz.prog 211 #[.slice none 0 0,.func (.func 156) #[] #[.pointer (some ⟨Bm,0,none⟩)]] w fun e W'=>(∃(v:Value) (ys:List Int),e= .returned v/\ys.Perm (ls.map fun L=>L.adr)/\W'.ownsRow w.heap.size 51 1 v ys.length (ys.map (Value.int .u64)))/\Below w.heap.size w W':=by
 obtain⟨i0,hk,hs,ht,hj⟩:=info_parts q9s;refine callsIn_of_wp_marks Tryz.func211 rfl trivial ?_ rfl;simp only[Tryz.ntmps211,List.size_toArray,List.length_cons,List.length_nil,Nat.reduceAdd,Nat.reduceSub,Array.replicate_succ,Array.replicate_zero,List.push_toArray,List.append_toArray,List.nil_append,List.cons_append];gi_wp2_with fail;obtain⟨W0,Y⟩:∃W0,W0=w.alloc (Obj.cells #[.slice none 0 0] 30):=⟨_,rfl⟩;have hx:W0.heap.size=w.heap.size+1:=by rw[Y];simp
 have h1:Below w.heap.size w W0:=by rw[Y];exact ba (Below.refl _ _) _
 have S:=(AA.1 h3).1;have h9:=(h1.block _ S).trans h3;have O:Bm<w.heap.size:=World.block_lt_of_cell? w _ h2;have h7:=(h1.cell (p:=⟨Bm,0,none⟩) O).trans h2;have h8:Boxed W0 w.heap.size 30 (.slice none 0 0):=by rw[Y];exact Boxed.new w 30 (.slice none 0 0)
 rw[<- Y];have HL:=hid hl;clear Y
 refine wpIn_rangeFunc_ownG rfl (by omega) (gf:=156) (lb:= #[.pointer (some ⟨Bm,0,none⟩)]) rfl trivial (enters_of Tryz.func156 (by kernel_rfl) rfl)
  (x4b 4 [w.heap.size] (w.heap.size+1) Bm lb ck ls W0 h9 h4 hold (by omega) (by simp;omega) (by omega) h7) q9o.trans ?hKb (Below.refl _ _) (fun _=>rfl)
  (x9r w) (fun _ _ _=>False) (x9r.own w _ (by omega)) (fun _ _ _ _ _ h _ _=>h)
  ?h0
  (fun x=>{ tmps:= #[.slice none 0 0,.func (.func 156) #[] #[.pointer (some ⟨Bm,0,none⟩)],.pointer (some ⟨w.heap.size,0,none⟩),undef,.slice none 0 0,.int .u64 x,.func (.func 156) #[] #[.pointer (some ⟨Bm,0,none⟩)],.int .u64 x,undef,undef,undef,undef,undef],defers:=[] }) ?assign ?body ?done ?stop
 case hKb=>intro W l o o' hl ho hc hw;exact q9o.putObj ho hw (by omega)
 case h0=>exact⟨⟨.slice none 0 0,h8,⟨rfl,Or.inl ⟨rfl,rfl⟩⟩,trivial⟩,h1⟩
 case assign=>intro l x W K hK;gi_wp2;exact hK
 case body=>
  rintro l pre x W hI hlt;obtain⟨⟨v,hv,I,_⟩,hB⟩:=hI;have hc:=hv.cell;have HV:=hid hv;have HR:=hid I;have h5:=hid hB;have k3:=hid hlt;have k1:=h5.out.size;obtain⟨a,c,rfl⟩:=q0q I;obtain⟨nn,h6⟩:∃nn,nn=pre.length:=⟨_,rfl⟩;have HN:=hid h6;have hf:nn<=1000000:=by have:=HL.out;omega
  rw[<- h6] at hc HV HR;clear hv I hB h6 hlt h3 h2 S h9 h7 O h8 h1 hl h4 hold;gi_wp2_with (gi_at_builtin;go_loud (refine wpListIn_append_own_at _ rfl _ _ 30 rfl w.heap.size 51 i0 (.int .u64 0) 1 8 Tryz.underlying30 hk hs ht hj rfl (by decide) _ _ _ rfl (HR.out.alloc _) ⟨W.heap.size,0,none⟩ 1 1 [.int .u64 x] rfl rfl (q9p _ _ _) (by simp[Value.oneCell']) (by unfold maxLen;omega) (by omega) (by simp;omega) ?_;intro v' w1 M U _ hz;obtain⟨a',c',rfl⟩:=q0q M;obtain⟨hv1,hv2,hr2,hk2,hb2⟩:=HV.out.appended (by decide) HR.out h5.out.size (AG _) M U;have hg:=hv1.cell;have k0:=hv1.frozen));have hq:(pre++[x]).length=nn+1:=by rw[AI,<- HN.out];rfl
  have hr:(pre++[x]).map (Value.int .u64)=pre.map (Value.int .u64)++[.int .u64 x]:=by rw[Ah];rfl
  refine⟨hk2.from _,⟨⟨hk2.size,?_⟩,z1l hk2⟩,⟨_,hv2,by rw[hq,hr];exact hr2,trivial⟩,h5.out.trans hb2⟩;intro y hy hi;have hh:y<w.heap.size:=by simp at hi;omega
  exact hb2.block y hh
 case done=>rintro D ys W hD ha ⟨⟨v,hv,I,_⟩,hB⟩ hK;have hc:=hv.cell;have HB:=hid hB;have HV:=hid hv;have HR:=hid I;have HY:=hid ha;clear hv I hB h3 h2 S h9 h7 O h8 h1 hl h4 hold ha;gi_wp2;have hp:=HB.out.trans (belowK_b (w:=w) (AG _) W D _ (.deferred none) (by omega) hK rfl rfl);have hm:=ownsRow_putObj HR.out (.deferred none) hK rfl;refine⟨by simp,.inl ⟨_,_,rfl,run_takeDeferred hK,?_⟩⟩;refine⟨v,?_,⟨v,ys,rfl,HY.out,hm⟩,hp⟩;simp[results,Tryz.results211,go_sem]
 case stop=>rintro D c0 pre W hD he h hK;exact h.elim
structure x7m (w:World) (ls:List KeyA) (v:Value) (ys:List Int) (W:World):Prop where
 perm:ys.Perm (ls.map fun L=>L.adr)
 row:W.ownsRow w.heap.size 51 1 v ys.length (ys.map (Value.int .u64))
 bel:Below w.heap.size w W
theorem x6x (Bm lb ck:Nat) (ls:List KeyA) (w:World) (O:w.heap[lb]?=some (.map (ls.map keyE).toArray ck)) (M:ls.Pairwise fun a b=>a.born≠b.born) (hold:∀L∈ls,L.born<ck)
  (I:w.cell? ⟨Bm,0,none⟩=some (.map (some lb))) (hl:ls.length<=1000000):
  Calls Tryz.prog 155 #[.func (.func 156) #[] #[.pointer (some ⟨Bm,0,none⟩)]] w fun e W'=> ∃v ys,e= .returned v/\x7m w ls v ys W':=by
 have HA:=hid (callsIn_wide.1 (x6o Bm lb ck ls w O M hold I hl));clear O M hold I hl;go_enter Tryz.func155,Tryz.ntmps155;go_wp2_with fail;refine HA.out.mono ?_;rintro e w1 ⟨⟨v,ys,rfl,h1,h2⟩,h3⟩;have HR:Hid (x7m w ls v ys w1):=⟨h1,h2,h3⟩;clear h1 h2 h3;go_wp2;go_ret;exact⟨v,ys,rfl,HR.out⟩
theorem v2o (Bm lb ck:Nat) (ls:List KeyA) (w:World) (M:w.heap[lb]?=some (.map (ls.map keyE).toArray ck)) (I:ls.Pairwise fun a b=>a.born≠b.born) (hold:∀L∈ls,L.born<ck)
  (O:w.cell? ⟨Bm,0,none⟩=some (.map (some lb))) (hl:ls.length<=1000000):
  Calls Tryz.prog 67 #[.func (.func 156) #[] #[.pointer (some ⟨Bm,0,none⟩)]] w fun e W'=> ∃v ys,e= .returned v/\x7m w ls v ys W'/\ys.Pairwise (· <= ·):=by
 have HA:=hid (x6x Bm lb ck ls w M I hold O hl);have HL:=hid hl;clear M I hold O hl;go_enter Tryz.func67,Tryz.ntmps67;go_wp2_with fail;refine HA.out.mono ?_;rintro e w1 ⟨v,ys,rfl,hr⟩;have HS:=hid (z6b hr.row (by have h1:=hr.perm.length_eq;have:=HL.out;simp at h1;omega));have HR:=hid hr;clear hr;go_wp2_with fail;refine HS.out.mono ?_;rintro e w2 ⟨⟨rv,rfl⟩,zs,p1,p2,p3,p4,p5⟩
 have hb:Below w.heap.size w w2:=by
  rcases p5 with⟨_,rfl⟩|⟨g,n',S,_,U,ho⟩;·exact HR.out.bel
  ·exact HR.out.bel.trans (ho.below (by simpa using U) HR.out.bel.size)
 have HF:Hid (x7m w ls v zs w2/\zs.Pairwise (· <= ·)):=⟨⟨p1.trans HR.out.perm,by rw[p1.length_eq];exact p3,hb⟩,p2⟩;clear p1 p2 p3 p4 p5 hb HS;go_wp2;go_ret;exact⟨v,zs,rfl,HF.out⟩
end
section
open Go.RowKit
def x3m (bs:List Int) (a:Int):Bool:=hasB (q4r bs (q1q a).toNat) (idxI a (q1u bs (q1q a).toNat:Nat)).toNat
theorem x1l {bs:List Int} {a:Int} (h:clsI bs a≠0):∃s:Nat,q1q a=s/\1<=s/\(s:Int)<=q0w bs.length/\q1u bs s<=3/\1<=q1u bs s/\idxB a (q1u bs s:Nat)=true/\clsI bs a=(q1u bs s:Nat):=by
 have I:=q5w a;unfold clsI at h ⊢;by_cases h1:q1q a=0\/q0w bs.length<q1q a;·rw[if_pos h1] at h;exact absurd rfl h
 ·rw[if_neg h1] at h ⊢;by_cases h2:q1u bs (q1q a).toNat<=3/\idxB a (q1u bs (q1q a).toNat:Nat)=true;·rw[if_pos h2] at h ⊢;exact⟨(q1q a).toNat,by omega,by omega,by omega,h2.1,by omega,h2.2,rfl⟩
  ·rw[if_neg h2] at h;exact absurd rfl h
theorem x0r {bs:List Int} (hb:∀x∈bs,0<=x/\x<256) (i:Nat):q4r bs i<18446744073709551616:=by
 have h1:=q1h (bs:=(bs.drop (1024*i+8)).take 8) (fun x hx=>hb x (Ak (Ab hx)))
 have h2:(2:Int)^ (8*((bs.drop (1024*i+8)).take 8).length)<=2^64:=by
  have hp:=As (n:=2) (by decide) (show 8*((bs.drop (1024*i+8)).take 8).length<=64 by rw[AU];omega)
  exact_mod_cast hp
 unfold q4r;omega
theorem v5l (B:LkP) (bs:List Int) (root:Int) (lv pr:Value) (a:Int) (ha:0<=a/\a<=18446744073709551615) (h8:clsI bs a≠0) (w:World) (h:z5r w B bs) (hc:Blk w B.lb 142 (x6v B bs root lv pr)):
  Calls Tryz.prog 69 #[.pointer (some ⟨B.lb,0,none⟩),.int .u64 a] w fun e w'=>e= .returned (.bool (x3m bs a))/\Below w.heap.size w w':=by
 obtain⟨s,hs,hk,hi,h7,h5,I,_⟩:=x1l h8;have hn:=h.nums;have hg:((nsI bs:Nat):Int)=q0w bs.length:=by have:=h.some';unfold nsI;omega
 have hh:=h.heads s (by omega);have M:z1z bs s=q1u bs s:=by unfold z1z;rw[if_neg (by omega)]
 have L:z0g bs s=q4r bs s:=by unfold z0g;rw[if_neg (by omega)]
 rw[M,L] at hh;obtain⟨c,S⟩:∃c,c=q1u bs s:=⟨_,rfl⟩;obtain⟨t,O⟩:∃t,t=q4r bs s:=⟨_,rfl⟩;rw[<- S,<- O] at hh;rw[<- S] at I h7 h5
 obtain⟨j,hj⟩:∃j:Nat,idxI a (c:Nat)=j/\j<64:=by
  have h1:=x6m a (c:Nat);have h2:=q3d (c:Nat);have h3:idxZ a (c:Nat)≠ -1:=by intro e;unfold idxB at I;rw[e] at I;simp at I
  obtain⟨j,hj⟩:∃j:Nat,idxZ a (c:Nat)=j:=⟨(idxZ a (c:Nat)).toNat,by omega⟩;exact⟨j,(x4a (by omega) hj).1,by omega⟩
 have hU:x3m bs a=hasB t j:=by unfold x3m;rw[hs,BG,<- S,<- O,hj.1,BG]
 have SL:=hid (fun W=>z7m a W ha.1 ha.2);have IX:=hid (fun W=>q8s a (c:Nat) W ha.1 ha.2);have HA:=hid (fun W=>v9j t j (by rw[O];exact x0r h.byte s) hj.2 W);rw[hs] at SL;rw[hj.1,I] at IX;have c1:w.cell? ⟨B.lb,1,none⟩=some (.slice (some ⟨B.hb,0,none⟩) (nsI bs+1) B.hc):=hc.cell 1;obtain⟨nn,h4⟩:∃nn,nn=nsI bs+1:=⟨_,rfl⟩;rw[<- h4] at c1;have i1:(s:Int)< (nn:Int):=by omega
 have i0:(0:Int)<=(s:Int):=by omega
 obtain⟨c2,c3⟩:=hh;have HU:=hid hU;have he:=hc.lt;have hf:=h.hlt;clear hU I h7 h5 O S M L h4 hg hn hs hk hi h8 h hc hj;go_enter Tryz.func69,Tryz.ntmps69;go_wp2;refine z1q (X:= ?X) (fun key=> ?_) ?_
 rotate_left
 ·go_region_with (first
   | (go_at_call 83;refine(SL.out _).mono ?_;rintro e w1 ⟨rfl,rfl⟩))
  all_goals
   try go_simp
   try simp only[Act.put,List.setIfInBounds_toArray,List.set_cons_zero,List.set_cons_succ]
  all_goals exact key.out
 obtain⟨W1,U⟩:∃W1,W1=(w.alloc (.cells #[.int .i64 c,.int .u64 t] 151)).drew:=⟨_,rfl⟩;have k1:Blk W1 w.heap.size 151 #[.int .i64 c,.int .u64 t]:=by rw[U];exact(Blk.new _ _ _).drew
 have h6:Below w.heap.size w W1:=by rw[U];exact(ba (Below.refl _ _) _).drew
 have x0:W1.cell? ⟨w.heap.size,0,none⟩=some (.int .i64 c):=k1.cell 0;have K1:=hid k1;have hl:=hid h6;rw[<- U];clear U k1 h6 c1 c2 c3;go_wp2_with fail;refine(IX.out W1).mono ?_;rintro e w2 ⟨rfl,Y⟩;have x1:w2.cell? ⟨w.heap.size,1,none⟩=some (.int .u64 t):=(K1.out.bel Y).cell 1;have h9:=hid (bx hl.out Y);clear Y x0;go_wp2_with fail;refine(HA.out w2).mono ?_;rintro e w3 ⟨rfl,rfl⟩;go_wp2;go_ret;exact⟨by rw[HU.out];rfl,h9.out⟩
end
section
open Go.RowKit
abbrev rowU (W:World) (N:Nat) (v:Value) (xs:List Int):Prop:=W.ownsRow N 51 1 v xs.length (xs.map (Value.int .u64))
theorem q5f {W:World} {N:Nat} {v:Value} {xs:List Int} (h:rowU W N v xs) (hN:N<=W.heap.size) (x:Int) (hm:xs.length<=1000000):
  ∃va vc w9,q0n Tryz.prog #[30,30] 30 #[v,.slice (some ⟨W.heap.size,0,none⟩) 1 1] (W.alloc (.cells #[.int .u64 x] 51))= .ok (.slice va (xs.length+1) vc) w9/\
   rowU w9 N (.slice va (xs.length+1) vc) (xs++[x])/\Only v.ownBlock.toList W w9/\((Value.slice va (xs.length+1) vc).ownBlock=v.ownBlock\/ ∃k,(Value.slice va (xs.length+1) vc).ownBlock=some k/\W.heap.size<=k):=by
 have h5:rowU (W.alloc (.cells #[.int .u64 x] 51)) N v xs:=((Only.refl [] W).alloc _).own h (by simp);obtain⟨v',w9,h1,h2,h3,h4⟩:=q6w N (W.alloc (.cells #[.int .u64 x] 51)) (.slice (some ⟨W.heap.size,0,none⟩) 1 1) xs [x] v (Or.inr ⟨W.heap.size,0,1,rfl,fun j u hj=>by rw[(Blk.new W 51 #[.int .u64 x]).cell (0+j),AQ];simpa using hj⟩) (by simp;omega) (by simp;omega) h5;have hl:(xs++[x]).length=xs.length+1:=by simp
 have I:=h2;rw[hl] at I;obtain⟨va,vc,rfl⟩:=q0q I;refine⟨va,vc,w9,h1,by unfold rowU;exact h2,(((Only.refl [] W).alloc _).mono (fun _ h=>by cases h)).trans (Only.of_grown (f:=v.ownBlock.toList) h3 (fun y hy=>by simp[hy])) (fun y hy=>Or.inl hy),?_⟩;rcases h4 with h4|h4;·exact Or.inl h4
 ·exact Or.inr ⟨_,h4,by simp⟩
structure LokI (W1:World) (rb:Nat) (pr rv fv kv:Value) (h nn:Int) (R fs ks:List Int) (W:World):Prop where
 only:Only [rb] W1 W
 rlt:rb<W1.heap.size
 rep:Blk W rb 32 #[pr,rv,fv,kv,.int .i64 h,.int .i64 nn]
 rrow:rowU W W1.heap.size rv R
 frow:rowU W W1.heap.size fv fs
 krow:rowU W W1.heap.size kv ks
 apf:∀k,fv.ownBlock=some k->rv.ownBlock≠some k/\kv.ownBlock≠some k
 apk:∀k,kv.ownBlock=some k->rv.ownBlock≠some k/\fv.ownBlock≠some k
theorem LokI.ge {W1 W:World} {rb:Nat} {pr rv fv kv:Value} {h nn:Int} {R fs ks:List Int} (H:LokI W1 rb pr rv fv kv h nn R fs ks W):(∀k,rv.ownBlock=some k->W1.heap.size<=k/\k<W.heap.size)/\(∀k,fv.ownBlock=some k->W1.heap.size<=k/\k<W.heap.size)/\(∀k,kv.ownBlock=some k->W1.heap.size<=k/\k<W.heap.size):=by
 refine⟨fun k hk=> ?_,fun k hk=> ?_,fun k hk=> ?_⟩;·exact H.rrow.lt k hk
 ·exact H.frow.lt k hk
 ·exact H.krow.lt k hk
theorem LokI.bel {W1 W W':World} {rb:Nat} {pr rv fv kv:Value} {h nn:Int} {R fs ks:List Int} (H:LokI W1 rb pr rv fv kv h nn R fs ks W) (hb:Below W.heap.size W W'):LokI W1 rb pr rv fv kv h nn R fs ks W':=
 have ho:=Only.of_below hb []
 ⟨H.only.trans ho (fun _ h=>by cases h),H.rlt,H.rep.bel hb,ho.own H.rrow (by simp),ho.own H.frow (by simp),ho.own H.krow (by simp),H.apf,H.apk⟩
theorem LokI.node {W1 W:World} {rb:Nat} {pr rv fv kv:Value} {h nn:Int} {R fs ks:List Int} (H:LokI W1 rb pr rv fv kv h nn R fs ks W) (x:Int):LokI W1 rb pr rv fv kv h x R fs ks (W.setCell ⟨rb,5,none⟩ (.int .i64 x)):=by
 have ho:Only [rb] W (W.setCell ⟨rb,5,none⟩ (.int .i64 x)):=(Only.refl _ _).setCell (Or.inl (by simp)) _;have hg:=H.ge;have hr:=H.rlt;refine⟨H.only.trans ho (fun _ h=>Or.inl h),H.rlt,H.rep.set_ 5 _,ho.own H.rrow (fun k hk hm=> ?_),ho.own H.frow (fun k hk hm=> ?_),ho.own H.krow (fun k hk hm=> ?_),H.apf,H.apk⟩;·have:=(hg.1 k hk).1;simp at hm;omega
 ·have:=(hg.2.1 k hk).1;simp at hm;omega
 ·have:=(hg.2.2 k hk).1;simp at hm;omega
theorem LokI.fault {W1 W:World} {rb:Nat} {pr rv fv kv:Value} {h nn:Int} {R fs ks:List Int} (H:LokI W1 rb pr rv fv kv h nn R fs ks W) (x:Int) (hm:fs.length<=1000000):
  ∃va vc w9,q0n Tryz.prog #[30,30] 30 #[fv,.slice (some ⟨W.heap.size,0,none⟩) 1 1] (W.alloc (.cells #[.int .u64 x] 51))= .ok (.slice va (fs.length+1) vc) w9/\
   w9.cell? ⟨rb,2,none⟩=some fv/\w9.frozen? ⟨rb,2,none⟩=false/\LokI W1 rb pr rv (.slice va (fs.length+1) vc) kv h nn R (fs++[x]) ks (w9.setCell ⟨rb,2,none⟩ (.slice va (fs.length+1) vc))/\
   Only (rb::fv.ownBlock.toList) W (w9.setCell ⟨rb,2,none⟩ (.slice va (fs.length+1) vc)):=by
 have hN:W1.heap.size<=W.heap.size:=H.only.size;obtain⟨va,vc,w9,h1,h2,h3,h4⟩:=q5f H.frow hN x hm;have hg:=H.ge;have hr:=H.rlt;have b9:Blk w9 rb 32 #[pr,rv,fv,kv,.int .i64 h,.int .i64 nn]:=h3.blk H.rep (fun L=>by have:=(hg.2.1 rb (by simpa[Option.mem_toList] using L)).1;omega);have oS:Only [rb] w9 (w9.setCell ⟨rb,2,none⟩ (.slice va (fs.length+1) vc)):=(Only.refl _ _).setCell (Or.inl (by simp)) _;have o2:Only (rb::fv.ownBlock.toList) W (w9.setCell ⟨rb,2,none⟩ (.slice va (fs.length+1) vc)):=(h3.mono (fun _ h=>AW _ h)).trans oS (fun x hx=>Or.inl (by rw[AF.1 hx];exact Ae ..))
 have I:∀k,(Value.slice va (fs.length+1) vc).ownBlock=some k->rv.ownBlock≠some k/\kv.ownBlock≠some k/\W1.heap.size<=k:=by
  intro k hk;rcases h4 with h4|⟨k',h4,h5⟩;·rw[h4] at hk;exact⟨(H.apf k hk).1,(H.apf k hk).2,(hg.2.1 k hk).1⟩
  ·rw[h4] at hk;injection hk with hk;refine⟨fun e=> ?_,fun e=> ?_,by omega⟩;·have:=(hg.1 k e).2;omega
   ·have:=(hg.2.2 k e).2;omega
 refine⟨va,vc,w9,h1,b9.cell 2,b9.frozen 2,⟨?_,hr,b9.set_ 2 _,?_,?_,?_,fun k hk=>⟨(I k hk).1,(I k hk).2.1⟩,fun k hk=>⟨(H.apk k hk).1,fun e=>(I k e).2.1 hk⟩⟩,o2⟩
 ·exact H.only.trans o2 (fun y hy=>by
   rcases AN.1 hy with e|e;·left;rw[e];simp
   ·right;exact(hg.2.1 y (by simpa[Option.mem_toList] using e)).1)
 ·refine o2.own H.rrow (fun k hk L=> ?_);rcases AN.1 L with e|e;·have:=(hg.1 k hk).1;omega
  ·exact(H.apf k (by simpa[Option.mem_toList] using e)).1 hk
 ·unfold rowU;have:=oS.own h2 (fun k hk L=>by have:=(I k hk).2.2;simp at L;omega);exact this
 ·refine o2.own H.krow (fun k hk L=> ?_);rcases AN.1 L with e|e;·have:=(hg.2.2 k hk).1;omega
  ·exact(H.apf k (by simpa[Option.mem_toList] using e)).2 hk
theorem LokI.leak {W1 W:World} {rb:Nat} {pr rv fv kv:Value} {h nn:Int} {R fs ks:List Int} (H:LokI W1 rb pr rv fv kv h nn R fs ks W) (x:Int) (hm:ks.length<=1000000):
  ∃va vc w9,q0n Tryz.prog #[30,30] 30 #[kv,.slice (some ⟨W.heap.size,0,none⟩) 1 1] (W.alloc (.cells #[.int .u64 x] 51))= .ok (.slice va (ks.length+1) vc) w9/\
   w9.cell? ⟨rb,3,none⟩=some kv/\w9.frozen? ⟨rb,3,none⟩=false/\LokI W1 rb pr rv fv (.slice va (ks.length+1) vc) h nn R fs (ks++[x]) (w9.setCell ⟨rb,3,none⟩ (.slice va (ks.length+1) vc))/\
   Only (rb::kv.ownBlock.toList) W (w9.setCell ⟨rb,3,none⟩ (.slice va (ks.length+1) vc))/\((Value.slice va (ks.length+1) vc).ownBlock=kv.ownBlock\/ ∃q,(Value.slice va (ks.length+1) vc).ownBlock=some q/\W.heap.size<=q):=by
 have hN:W1.heap.size<=W.heap.size:=H.only.size;obtain⟨va,vc,w9,h1,h2,h3,h4⟩:=q5f H.krow hN x hm;have hg:=H.ge;have hr:=H.rlt;have b9:Blk w9 rb 32 #[pr,rv,fv,kv,.int .i64 h,.int .i64 nn]:=h3.blk H.rep (fun L=>by have:=(hg.2.2 rb (by simpa[Option.mem_toList] using L)).1;omega);have oS:Only [rb] w9 (w9.setCell ⟨rb,3,none⟩ (.slice va (ks.length+1) vc)):=(Only.refl _ _).setCell (Or.inl (by simp)) _;have o2:Only (rb::kv.ownBlock.toList) W (w9.setCell ⟨rb,3,none⟩ (.slice va (ks.length+1) vc)):=(h3.mono (fun _ h=>AW _ h)).trans oS (fun x hx=>Or.inl (by rw[AF.1 hx];exact Ae ..))
 have I:∀k,(Value.slice va (ks.length+1) vc).ownBlock=some k->rv.ownBlock≠some k/\fv.ownBlock≠some k/\W1.heap.size<=k:=by
  intro k hk;rcases h4 with h4|⟨k',h4,h5⟩;·rw[h4] at hk;exact⟨(H.apk k hk).1,(H.apk k hk).2,(hg.2.2 k hk).1⟩
  ·rw[h4] at hk;injection hk with hk;refine⟨fun e=> ?_,fun e=> ?_,by omega⟩;·have:=(hg.1 k e).2;omega
   ·have:=(hg.2.1 k e).2;omega
 refine⟨va,vc,w9,h1,b9.cell 3,b9.frozen 3,⟨?_,hr,b9.set_ 3 _,?_,?_,?_,fun k hk=>⟨(H.apf k hk).1,fun e=>(I k e).2.1 hk⟩,fun k hk=>⟨(I k hk).1,(I k hk).2.1⟩⟩,o2,h4⟩
 ·exact H.only.trans o2 (fun y hy=>by
   rcases AN.1 hy with e|e;·left;rw[e];simp
   ·right;exact(hg.2.2 y (by simpa[Option.mem_toList] using e)).1)
 ·refine o2.own H.rrow (fun k hk L=> ?_);rcases AN.1 L with e|e;·have:=(hg.1 k hk).1;omega
  ·exact(H.apk k (by simpa[Option.mem_toList] using e)).1 hk
 ·refine o2.own H.frow (fun k hk L=> ?_);rcases AN.1 L with e|e;·have:=(hg.2.1 k hk).1;omega
  ·exact(H.apk k (by simpa[Option.mem_toList] using e)).2 hk
 ·unfold rowU;have:=oS.own h2 (fun k hk L=>by have:=(I k hk).2.2;simp at L;omega);exact this
theorem LokI.turn {W1 W W':World} {rb:Nat} {pr rv fv kv:Value} {h nn:Int} {R fs ks:List Int} {f:List Nat} (H:LokI W1 rb pr rv fv kv h nn R fs ks W) (ho:Only f W W') (hf:∀k∈f,W1.heap.size<=k/\(W.heap.size<=k\/ ∀cs t fr,W.heap[k]?≠some (.cells cs t fr))):LokI W1 rb pr rv fv kv h nn R fs ks W':=by
 have key:∀(v:Value) (xs:List Int),rowU W W1.heap.size v xs-> ∀k,v.ownBlock=some k->k∉f:=by
  intro v xs hr k hk hm;obtain⟨_,cs,hc⟩:=q0l hr k hk;rcases(hf k hm).2 with h1|h1;·have:=(AA.1 hc).1;omega
  ·exact h1 _ _ _ hc
 exact⟨H.only.trans ho (fun k hk=>Or.inr (hf k hk).1),H.rlt,ho.blk H.rep (fun hm=>by have:=(hf _ hm).1;have:=H.rlt;omega),ho.own H.rrow (key _ _ H.rrow),ho.own H.frow (key _ _ H.frow),ho.own H.krow (key _ _ H.krow),H.apf,H.apk⟩
end
section
open Go.RowKit
theorem z0k {bs:List Int} {L a0:Int} {pre:List (Int×NodeA)} {I:Option Int} {a:Int} (h:q1e (q1y bs) L a0 pre I a) (hs:0<q0w bs.length) (hp:∀x∈pre,0<=x.1):pre.length<=bs.length/8:=by have hl:=v4p (pre.map (·.1)) ((List.range (bs.length/8)).map (fun k:Nat=>((8*k:Nat):Int))) h.nodup (fun x hx=>by obtain⟨y,hy,rfl⟩:=Aj.1 hx;obtain⟨_,hn,_⟩:=h.at' y hy;obtain⟨k,hk,M,_⟩:=z2q (q6c hn).1 (hp y hy) hs;rw[Aj];exact⟨k,Av.2 (by omega),by omega⟩);simpa using hl
theorem q3f.chains {bs:List Int} (hb:∀x∈bs,0<=x/\x<256):∀{L:List (List (Int×NodeA))} {I a0:Int} {up:Option (List (Int×NodeA))},q3f (q1y bs) I a0 up L->0<=I->0<=a0->
  ((L.length:Int)=I+1)/\ ∀row∈L,∃l a,0<=a/\q0a (q1y bs) l none a row
 | [],_,_,_,h,_,_=>h.elim
 | row::rest,I,a0,up,h,hl,ha=>by
  obtain⟨h1,_,_,h2⟩:=h;by_cases h0:I=0;·rw[if_pos h0] at h2;subst h2;refine⟨by simp;omega,fun r hr=> ?_⟩;rw[AF.1 hr];exact⟨I,a0,ha,h1⟩
  ·rw[if_neg h0] at h2;obtain⟨x,r,rfl,h3⟩:=h2;have M:=h1;obtain⟨_,_,hx,_⟩:=M;have O:=x5s hb hx;obtain⟨k1,k2⟩:=q3f.chains hb h3 (by omega) O.1;refine⟨by rw[BE];omega,fun r' hr=> ?_⟩;rcases AN.1 hr with e|e;·rw[e];exact⟨I,a0,ha,h1⟩
   ·exact k2 r' e
theorem z1h (row:List (Int×NodeA)):(allE row).length<=8*row.length:=by
 unfold allE;rw[List.length_flatMap]
 have:∀n,((List.range n).map fun i=>(actI row i).length).sum<=8*n:=by
  intro n
  induction n with
  | zero=>simp
  | succ n ih=>rw[Ay,Ah,List.sum_append];have:=z4h ((row[n]?).map (·.2) |>.getD q2w) (q2a row n) (hasI row n);have e:(actI row n).length<=8:=this;simp;omega
 exact this _
theorem x1n {rows:List (List (Int×NodeA))} {m:Nat} (h:∀row∈rows,row.length<=m):(allA rows).length<=rows.length*m:=by
 unfold allA;rw[List.length_flatMap]
 induction rows with
 | nil=>simp
 | cons r rs ih=>have h1:=h r (Ae ..);have h2:=ih (fun row hr=>h row (AW _ hr));rw[Be,List.sum_cons,AO,BE,DC];omega
theorem x5t {bs:List Int} {rs:List (List (Int×NodeA))} {ps:List (Int×ByteArray)} {leaves:List (Int×NodeA)} (hb:∀x∈bs,0<=x/\x<256) (hs:0<q0w bs.length) (h:q1a bs rs ps) (hl:rs.getLast?=some leaves):
  1<=rs.length/\rs.length<=16/\(∀row∈rs,row.length<=8320)/\(allA rs++(allE leaves).map (·.2)).length<=200000:=by
 obtain⟨n,hn,hr⟩:=h.rows;have L:=q7l hn;have O:=q1s hs;have M:0<=wAt bs 2:=(q8v hb (show 2<bs.length/8 by omega)).1;obtain⟨h1,h2⟩:=hr.chains hb L.1 M;have h3:∀row∈rs,row.length<=8320:=fun row I=>by obtain⟨l,a,q1,q2⟩:=h2 row I;obtain⟨p,hw⟩:=q2.whole;have:=z0k hw hs (q9y hb q2 q1);omega
 have h4:=x1n h3;have h5:=z1h leaves;have h6:=h3 leaves (Bo hl);have h7:rs.length*8320<=16*8320:=Bp _ (by omega);refine⟨by omega,by omega,h3,?_⟩;rw[AI,AO];omega
theorem x1k {bs:List Int}:∀{es:List (Int×Int)} {R:List Int} {ps:List (Int×ByteArray)},q4m bs R es ps-> ∀e∈es,clsI bs e.2≠0
 | [],_,_,_,e,he=>by cases he
 | x::es,_,_,h,e,he=>by
  obtain⟨s,I,h1,_,h2⟩:=h;rcases AN.1 he with q|q;·rw[q];have:=h1.2.1;omega
  ·exact x1k h2 e q
theorem z7w {bs:List Int} {rs:List (List (Int×NodeA))} {ps:List (Int×ByteArray)} {leaves:List (Int×NodeA)} (hb:∀x∈bs,0<=x/\x<256) (hs:0<q0w bs.length) (h:q1a bs rs ps) (hl:rs.getLast?=some leaves):
  ∀a∈allA rs++(allE leaves).map (·.2),clsI bs a≠0:=by
 intro a ha;rcases An.1 ha with q|q;·obtain⟨n,hn,hr⟩:=h.rows;have M:=q7l hn;have O:=q1s hs;obtain⟨_,h2⟩:=hr.chains hb M.1 (q8v hb (show 2<bs.length/8 by omega)).1;unfold allA at q;obtain⟨row,L,q⟩:=Bq.1 q;obtain⟨x,hx,rfl⟩:=Aj.1 q;obtain⟨l,a0,_,hc⟩:=h2 row L;obtain⟨p,hw⟩:=hc.whole;rw[(q6c (hw.at' x hx).2.1).1];omega
 ·obtain⟨I,h1,h2⟩:=h.vals;rw[hl] at h1;injection h1 with h1;subst h1;obtain⟨e,he,rfl⟩:=Aj.1 q;exact x1k h2 e he
theorem x6w {bs:List Int} {rs:List (List (Int×NodeA))} {ps:List (Int×ByteArray)} (h:q1a bs rs ps):0< (allA rs).length:=by
 obtain⟨n,hn,hr⟩:=h.rows;cases rs with
 | nil=>exact hr.elim
 | cons row rest=>
  have h0:wAt bs 2≠0:=fun e=>by rw[e,z2p] at hn;cases hn
  have h1:=Bw.2 (q7i hr.1 h0);unfold allA;rw[Ap,AI,AO];omega
theorem v6o {bs:List Int} {a:Int} (h:clsI bs a≠0):0<=a/\a<=18446744073709551615:=by
 have h1:q1q a≠0:=fun e=>by unfold clsI at h;rw[if_pos (Or.inl e)] at h;exact h rfl
 unfold q1q at h1;split at h1;·omega
 ·exact absurd rfl h1
theorem x9x {W:World} {b:Nat} {cs:Array Value} (h:Blk W b 32 cs) (hc:cs.size=6) (p r f k:Option Addr) (pn pc rn rc fn fc kn kc:Nat) (x y:Int):∃W',stR Tryz.prog 32 (.pointer (some ⟨b,0,none⟩)) (.agg #[.slice p pn pc,.slice r rn rc,.slice f fn fc,.slice k kn kc,.int .i64 x,.int .i64 y]) W= .ok () W'/\Blk W' b 32 #[.slice p pn pc,.slice r rn rc,.slice f fn fc,.slice k kn kc,.int .i64 x,.int .i64 y]/\Only [b] W W':=by refine⟨W.setRow b _,h.st (by kernel_rfl) hc (by kernel_rfl),setRow_heap W b _ _ _ _ h,⟨rfl,rfl,rfl,by simp,fun x hx hn=>setRow_other W b x _ (by simpa using hn)⟩⟩
end
section
open Go.RowKit
theorem z9c (b:Nat):(q0t b).length<=64:=by unfold q0t;have:=Ao (fun j:Fin 64=>hasB b j.val) (List.finRange 64);simpa using this
def q3t (R:List Int) (i c:Nat) (l:List (Fin 64)):List Int:=(l.map fun j=>q0c (i:Nat) (c:Nat) (j.val:Int)).filter fun a=>decide (a∉R)
theorem q9t (R:List Int) (i c:Nat) (l:List (Fin 64)) (x:Fin 64):q3t R i c (l++[x])=q3t R i c l++(if q0c (i:Nat) (c:Nat) (x.val:Int)∈R then[] else[q0c (i:Nat) (c:Nat) (x.val:Int)]):=by unfold q3t;rw[Ah,Aq];congr 1;by_cases h:q0c (i:Nat) (c:Nat) (x.val:Int)∈R<;>simp[h]
def q3i (bs:List Int) (R:List Int) (i:Nat):List Int:=q3t R i (z1z bs i) (q0t (z0g bs i))
def z8p (bs:List Int) (R:List Int):List Int:=(List.range (nsI bs+1)).flatMap (q3i bs R)
def q2y (rs:List (List (Int×NodeA))):Int:=((rs.map List.length).sum:Nat)
def v3h (D:Nat):Deferred:={ target:= .collected D,args:= #[] }
theorem z0o {F:Fence} {n:Nat} {P:Program} {fn:Func} {tmps:Array Value} {R:Ending->World->Prop}:∀(Ds:List Nat) (W:World),(∀d∈Ds,W.heap[d]?=some (.deferred (some [])))->Ds.Nodup->
  (∀W',Only Ds W W'->LeavesInM F n P fn tmps R [] .returning W')->LeavesInM F n P fn tmps R (Ds.map v3h) .returning W
 | [],W,_,_,h=>h W (Only.refl _ _)
 | d::Ds,W,h1,h2,h3=>by have hO:Only (d::Ds) W (W.putObj d (.deferred none)):=(Only.refl _ _).putObj (Or.inl (by simp)) _;refine⟨by simp,.inl ⟨d,_,rfl,run_takeDeferred (h1 d (by simp)),z0o Ds _ (fun e he=> ?_) (Br.1 h2).2 (fun W' h=>h3 W' (hO.trans h (fun x hx=>Or.inl (AW _ hx))))⟩⟩;exact(World.putObj_heap_other (fun e'=>(Br.1 h2).1 (by subst e';exact he))).trans (h1 e (AW _ he))
structure Lok3 (W1:World) (rb:Nat) (pr rv fv kv:Value) (h nn:Int) (R fs:List Int) (bs:List Int) (k:Nat) (Ds:List Nat) (W:World):Prop where
 lok:LokI W1 rb pr rv fv kv h nn R fs ((List.range k).flatMap (q3i bs R)) W
 ds:∀d∈Ds,W.heap[d]?=some (.deferred (some []))/\W1.heap.size<=d
 nd:Ds.Nodup
theorem z0u (R:List Int) (i c:Nat) (l:List (Fin 64)):(q3t R i c l).length<=l.length:=by
 unfold q3t;have:=Ao (fun a=>decide (a∉R)) (l.map fun j=>q0c (i:Nat) (c:Nat) (j.val:Int))
 rwa[AO] at this
theorem x7k (bs R:List Int) (k:Nat):((List.range k).flatMap (q3i bs R)).length<=64*k:=by
 induction k with
 | zero=>simp
 | succ k ih=>
  rw[Ay,Al,AI];have h1:=z0u R k (z1z bs k) (q0t (z0g bs k));have h2:(q0t (z0g bs k)).length<=64:=z9c _;have h3:(q3i bs R k).length<=64:=AH h1 h2;have e:[k].flatMap (q3i bs R)=q3i bs R k:=by simp
  rw[e];omega
theorem x6g {B:Nat} {A A':World} (h:Below A.heap.size A A'):KeepsFrom B A A':=⟨h.size,fun k o _ hk _=>(h.block k (AA.1 hk).1).trans hk⟩
theorem v8a {B:Nat} {A A' I:World} (h:KeepsFrom B A A') (k:KeepsFrom B A' I):KeepsFrom B A I:=⟨AH h.size k.size,fun x o hx ho hc=>k.same x o hx (h.same x o hx ho hc) hc⟩
theorem x1w {F:List Nat} {N:Nat} {A A':World} (h:Below A.heap.size A A') (hN:N<=A.heap.size):q0u F N A A':=⟨h.size,fun k hk _=>h.block k (AL hk hN)⟩
structure Lok4 (W1:World) (rb:Nat) (pr rv fv kv0:Value) (h nn:Int) (R fs ks0:List Int) (b7 b8 k c t:Nat) (Ds:List Nat) (Z:Nat) (pre:List (Fin 64)) (A:World):Prop where
 z:W1.heap.size<=Z/\b7<Z/\b8<Z/\W1.heap.size<=b7/\W1.heap.size<=b8
 sz:Z<=A.heap.size
 lok:∃kv,LokI W1 rb pr rv fv kv h nn R fs (ks0++q3t R k c pre) A/\(kv.ownBlock=kv0.ownBlock\/ ∃q,kv.ownBlock=some q/\Z<=q)
 b7:Blk A b7 3 #[.int .i64 (k:Int)]
 b8:Blk A b8 151 #[.int .i64 (c:Int),.int .u64 (t:Int)]
 ds:∀d∈Ds,A.heap[d]?=some (.deferred (some []))/\d<Z
section
variable {W1:World} {rb:Nat} {pr rv fv kv0:Value} {h nn:Int} {R fs ks0:List Int} {b7 b8 k c t:Nat} {Ds:List Nat} {Z:Nat} {pre:List (Fin 64)} {A A':World}
theorem Lok4.turn {f:List Nat} (H:Lok4 W1 rb pr rv fv kv0 h nn R fs ks0 b7 b8 k c t Ds Z pre A) (ho:Only f A A') (hf:∀r∈f,Z<=r/\(A.heap.size<=r\/ ∀cs t fr,A.heap[r]?≠some (.cells cs t fr))):Lok4 W1 rb pr rv fv kv0 h nn R fs ks0 b7 b8 k c t Ds Z pre A':=by obtain⟨kv,h1,h2⟩:=H.lok;have hz:=H.z;refine⟨H.z,AH H.sz ho.size,⟨kv,h1.turn ho (fun r hr=>⟨AH hz.1 (hf r hr).1,(hf r hr).2⟩),h2⟩,ho.blk H.b7 (fun hm=>by have:=(hf _ hm).1;omega),ho.blk H.b8 (fun hm=>by have:=(hf _ hm).1;omega),fun d hd=>⟨?_,(H.ds d hd).2⟩⟩;have h3:=H.ds d hd;exact(ho.block d (AA.1 h3.1).1 (fun hm=>by have:=(hf _ hm).1;omega)).trans h3.1
theorem Lok4.bel (H:Lok4 W1 rb pr rv fv kv0 h nn R fs ks0 b7 b8 k c t Ds Z pre A) (hb:Below A.heap.size A A'):Lok4 W1 rb pr rv fv kv0 h nn R fs ks0 b7 b8 k c t Ds Z pre A':=H.turn (Only.of_below hb []) (by simp)
theorem Lok4.grown {row:Option Nat} (H:Lok4 W1 rb pr rv fv kv0 h nn R fs ks0 b7 b8 k c t Ds Z pre A) (hg:A.grownBy A' row) (hr:∀r,row=some r->Z<=r/\ ∃o,A.heap[r]?=some o/\o.isCells=false):Lok4 W1 rb pr rv fv kv0 h nn R fs ks0 b7 b8 k c t Ds Z pre A':=H.turn (Only.of_grown (f:=row.toList) hg (fun k hk=>by simp[hk])) (fun r hm=>by obtain⟨h1,o,h2,h3⟩:=hr r (by simpa[Option.mem_toList] using hm);exact⟨h1,Or.inr fun cs t fr e=>by rw[h2] at e;injection e with e;rw[e] at h3;cases h3⟩)
theorem Lok4.yes (H:Lok4 W1 rb pr rv fv kv0 h nn R fs ks0 b7 b8 k c t Ds Z pre A) {x:Fin 64} (hx:q0c (k:Nat) (c:Nat) (x.val:Int)∈R):Lok4 W1 rb pr rv fv kv0 h nn R fs ks0 b7 b8 k c t Ds Z (pre++[x]) A:=by obtain⟨kv,h1,h2⟩:=H.lok;exact⟨H.z,H.sz,⟨kv,by rw[q9t,if_pos hx,Bx];exact h1,h2⟩,H.b7,H.b8,H.ds⟩
theorem Lok4.leak (H:Lok4 W1 rb pr rv fv kv0 h nn R fs ks0 b7 b8 k c t Ds Z pre A) {x:Fin 64} (hx:q0c (k:Nat) (c:Nat) (x.val:Int)∉R) (hm:(ks0++q3t R k c pre).length<=1000000):
  ∃kv va n vc w9,A.cell? ⟨rb,3,none⟩=some kv/\q0n Tryz.prog #[30,30] 30 #[kv,.slice (some ⟨A.heap.size,0,none⟩) 1 1] (A.alloc (.cells #[.int .u64 (q0c (k:Nat) (c:Nat) (x.val:Int))] 51))= .ok (.slice va n vc) w9/\
   w9.cell? ⟨rb,3,none⟩=some kv/\w9.frozen? ⟨rb,3,none⟩=false/\Lok4 W1 rb pr rv fv kv0 h nn R fs ks0 b7 b8 k c t Ds Z (pre++[x]) (w9.setCell ⟨rb,3,none⟩ (.slice va n vc))/\
   KeepsFrom Z A (w9.setCell ⟨rb,3,none⟩ (.slice va n vc))/\q0u (rb::kv0.ownBlock.toList) Z A (w9.setCell ⟨rb,3,none⟩ (.slice va n vc)):=by
 obtain⟨kv,h1,h2⟩:=H.lok;obtain⟨va,vc,w9,q1,q2,q3,q4,q5,q6⟩:=h1.leak (q0c (k:Nat) (c:Nat) (x.val:Int)) hm;have hz:=H.z;have Y:=h1.rlt
 have M:∀r∈rb::kv.ownBlock.toList,(r=rb\/(W1.heap.size<=r/\ ∃cs,A.heap[r]?=some (.cells cs 51 (0,0)))):=by
  intro r hr;rcases AN.1 hr with e|e;·exact Or.inl e
  ·right;have:=q0l h1.krow r (by simpa[Option.mem_toList] using e);exact this
 have I:∀(r:Nat) (o:Obj),A.heap[r]?=some o->r≠rb->(∀cs,o≠ .cells cs 51 (0,0))->r∉rb::kv.ownBlock.toList:=by
  intro r o ho O hc hm;rcases M r hm with e|⟨_,cs,e⟩;·exact O e
  ·rw[ho] at e;injection e with e;exact hc cs e
 have S:=H.b7;have U:=H.b8;refine⟨kv,va,_,vc,w9,h1.rep.cell 3,q1,q2,q3,⟨H.z,AH H.sz q5.size,⟨_,by rw[q9t,if_neg hx,<- BB];exact q4,?_⟩,q5.blk S (I b7 _ S (by omega) (fun cs e=>by injection e with _ e;cases e)),q5.blk U (I b8 _ U (by omega) (fun cs e=>by injection e with _ e;cases e)),fun d hd=>⟨?_,(H.ds d hd).2⟩⟩,⟨q5.size,fun r o hr ho L=> ?_⟩,⟨q5.size,fun r hr hn=> ?_⟩⟩
 ·rcases q6 with q6|⟨q,q6,q7⟩
  ·rcases h2 with h2|h2;·exact Or.inl (q6.trans h2)
   ·right;rw[q6];exact h2
  ·exact Or.inr ⟨q,q6,AH H.sz q7⟩
 ·have h3:=(H.ds d hd).1;have O:d≠rb:=fun e=>by have:=h1.rep;unfold Blk at this;rw[<- e,h3] at this;cases this
  exact(q5.block d (AA.1 h3).1 (I d _ h3 O (fun cs e=>by cases e))).trans h3
 ·refine(q5.block r (AA.1 ho).1 (I r o ho (by omega) (fun cs e=>by rw[e] at L;cases L))).trans ho
 ·refine q5.block r (AL hr H.sz) (fun hm=>hn ?_);rcases AN.1 hm with e|e;·rw[e];exact Ae ..
  ·have e':kv.ownBlock=some r:=by simpa[Option.mem_toList] using e
   rcases h2 with h2|⟨q,h2,h3⟩;·rw[h2] at e';rw[e'];simp
   ·rw[h2] at e';injection e' with e';omega
end
end
end Go.Proofs.YtibiekfjbibpbaaGreat
