/- slices.All at addresses, in the fence. -/
import Derived.Test.YtibiekfjbibpbaaGreatAppM
import Derived.Test.YtibiekfjbibpbaaGreatChunk
import Derived.Test.YtibiekfjbibpbaaGreatOwnRow
import Derived.Test.YtibiekfjbibpbaaGreatPmU
import Derived.Deep.Onto
import Derived.Test.YtibiekfjbibpbaaGreatRefV
import Derived.RangeFuncWrites
set_option maxRecDepth 100000
set_option maxHeartbeats 2000000
set_option linter.unusedVariables false
set_option linter.unusedSimpArgs false
namespace Go.Proofs.YtibiekfjbibpbaaGreat
section
open Go.RowKit
attribute [local go_sem] Oper.semAt_some
theorem All1_in (n q g cap:Nat) (p:Option Addr) (f:Nat→Nat) (F:List Nat) (N0 l Bs:Nat) (J Jx:List (Fin q)→World→Prop) (W:World) (hq:q≤1000000) (hp:0<q→p=some ⟨g,0,none⟩)
  (hrow: ∀i,i<q→W.cell? ⟨g,i,none⟩=some (.int .u64 (f i:Nat)))
  (hJ:AbidesFrom W.heap.size J) (hBs:Bs<N0) (hg:g<N0) (hBs':Bs∉F) (hg':g∉F) (hN:N0≤W.heap.size)
  (hY: ∀pre (x:Fin q) W1,J pre W1→pre.length<q→YieldAt Fence.wide (n-1) Tryz.prog l #[.int .i64 (x.val:Int),.int .u64 (f x.val:Nat)] W1 fun e W'=>
   (e= .returned (.bool true)∧J (pre++[x]) W'∧KeepN F N0 W1 W')∨(e= .returned (.bool false)∧Jx (pre++[x]) W'))
  (hs:W.cell? ⟨Bs,0,none⟩=some (.slice p q cap)) (h0:J [] W):
  CallsIn Fence.wide n Tryz.prog 250 #[.func (.yield l) #[] #[],.pointer (some ⟨Bs,0,none⟩)] W fun e W'=>(∃v,e= .returned v)∧
   ((∃ys,True∧J ys W')∨(∃pre,True∧Jx pre W')):=by
 refine callsIn_of_wp Tryz.func250 rfl trivial ?_ rfl
 simp only[Tryz.ntmps250,List.size_toArray,List.length_cons,List.length_nil,Nat.reduceAdd,Nat.reduceSub,Array.replicate_succ,Array.replicate_zero,List.push_toArray,List.append_toArray,List.nil_append,List.cons_append]
 have HROW:=hid hrow
 have HY:=hid hY
 have HB:=hid (⟨hBs,hg,hBs',hg',hN⟩:_∧_∧_∧_∧_)
 clear hrow hY hBs hg hBs' hg' hN
 gi_wp2_with fail
 clear hs
 gi_loopw [7] (fun iv wr=> ∃k:Nat,k≤q∧iv= .int .i64 (k:Nat)∧ ∃pre:List (Fin q),pre.length=k∧Hid (J pre wr)∧Hid (KeepN F N0 W wr)) (fun iv _=>(q- (intOf iv).toNat))
 case atStart=>exact⟨0,by omega,rfl,[],rfl,h0,KeepN.refl _ _ _⟩
 case round=>
  obtain⟨i,hi,rfl,pre,hpl,hJi,hK⟩:=hrel
  by_cases hlt:i<q
  ·have i2:decide ((i:Int)< (q:Int))=true:=decide_eq_true (by omega)
   have i2':(i:Int)< (q:Int):=by omega
   have i1:(0:Int)≤(i:Int):=by omega
   have i3:IntKind.i64.wrap ((i:Int)+1)=(i:Int)+1:=IntWalk.i64_in _ (by omega)
   obtain rfl:=hp (by omega)
   have x1:wr.cell? ⟨g,0+i,none⟩=some (.int .u64 (f i:Nat)):=by
    rw[Nat.zero_add]
    exact(hK.out.cell (p:=⟨g,i,none⟩) HB.out.2.1 HB.out.2.2.2.1).trans (HROW.out i hlt)
   have x1':wr.cell? ⟨g,i,none⟩=some (.int .u64 (f i:Nat)):=by rw[Nat.zero_add] at x1;exact x1
   obtain⟨fn,tmps,assign,body,hy,hR⟩:=HY.out pre (⟨i,hlt⟩:Fin q) wr hJi.out (by omega)
   have HR:=hid hR
   have hy':(Instr.yield l #[.int .i64 (i:Int),.int .u64 (f i:Nat)]).run Tryz.prog wr= .ok (.round l fn tmps assign body) wr:=hy
   clear hR hy
   gi_wp2
   refine⟨fun h=>by simp[Fence.wide] at h,HR.out.mono ?_⟩
   rintro e' W5 (⟨rfl,hJ5,hk5⟩ | ⟨rfl,hJx5⟩)
   ·have hK5:=hid (hK.out.trans hk5)
    have HJ5:=hid hJ5
    clear hJ5 hk5 hy' x1 x1'
    gi_wp2
    go_roundw
    case rel=>exact⟨i+1,by omega,by go_num,pre++[⟨i,hlt⟩],by simp[hpl],HJ5,hK5⟩
    case measure=>simp[intOf];omega
   ·have HJx:=hid hJx5
    clear hJx5 hy' x1 x1'
    gi_wp2
    refine bodyPost_ret (results_none rfl _ _ _) rfl ?_
    exact⟨⟨_,rfl⟩,.inr ⟨_,trivial,HJx.out⟩⟩
  ·obtain rfl:i=q:=by omega
   have i2:decide ((i:Int)< (i:Int))=false:=decide_eq_false (by omega)
   gi_wp2
   go_end0
   exact⟨⟨_,rfl⟩,.inl ⟨pre,trivial,hJi.out⟩⟩
theorem All_stops (n q g cap:Nat) (p:Option Addr) (f:Nat→Nat) (F:List Nat) (N0 Bs:Nat) (w:World) (hq:q≤1000000) (hp:0<q→p=some ⟨g,0,none⟩)
  (hrow: ∀i,i<q→w.cell? ⟨g,i,none⟩=some (.int .u64 (f i:Nat))) (hBs:Bs<N0) (hg:g<N0) (hBs':Bs∉F) (hg':g∉F) (hN:N0≤w.heap.size)
  (hs:w.cell? ⟨Bs,0,none⟩=some (.slice p q cap)):
  SeqStopsK Fence.wide n Tryz.prog 250 #[.pointer (some ⟨Bs,0,none⟩)] (fun x:Fin q=> #[.int .i64 (x.val:Int),.int .u64 (f x.val:Nat)]) (KeepN F N0) (fun _=>True) (fun _=>True) q w:=by
 intro l J Jx W hW hJ _ hY h0
 have h1:=(hW.cell (p:=⟨Bs,0,none⟩) (World.block_lt_of_cell? w _ hs)).trans hs
 exact All1_in n q g cap p f F N0 l Bs J Jx W hq hp (fun i hi=>(hW.cell (p:=⟨g,i,none⟩) (World.block_lt_of_cell? w _ (hrow i hi))).trans (hrow i hi)) hJ hBs hg hBs' hg' (Nat.le_trans hN hW.size) hY h1 h0
theorem arow_at {W:World} {base:Nat} {v:Value} {ys:List Int} (h:W.ownsRow base 51 1 v ys.length (ys.map (Value.int .u64))) {d:Nat} (h1:base≤d) (h2:d<W.heap.size):
  ∃p g c,v= .slice p ys.length c∧(0<ys.length→p=some ⟨g,0,none⟩)∧(∀i x,ys[i]?=some x→W.cell? ⟨g,i,none⟩=some (.int .u64 x))∧base≤g∧g<W.heap.size:=by
 rcases h.2 with⟨e1,e2⟩ | ⟨g,c,cur,e1,e2,e3,e4,e5,e6,e7⟩
 ·have:ys=[]:=by
   have:ys.length=0:=by omega
   exact List.length_eq_zero_iff.1 this
  subst this
  exact⟨none,d,0,e1,fun hh=>absurd hh (by simp),fun i x hx=>by simp at hx,h1,h2⟩
 ·refine⟨_,g,c,e1,fun _=>rfl,fun i x hi=> ?_,e2,(Array.getElem?_eq_some_iff.1 e3).1⟩
  have hb:Blk W g 51 cur:=e3
  have hl':=(List.getElem?_eq_some_iff.1 hi).1
  rw[hb.cell,←Array.getElem?_toList]
  have:(cur.toList.take (ys.length*1))[i]?=some (.int .u64 x):=by rw[e7,List.getElem?_map,hi];rfl
  rw[List.getElem?_take,if_pos (by omega)] at this
  exact this
end
section
open Go.RowKit Go.Shelf
attribute [local go_sem] Oper.semAt_some
def LadrF (e:MapEntry):Option Int:=
 match e.key with
 | .int .u64 a=>some a
 | _=>none
theorem adrF_line (L:LineA):LadrF (lineE L)=some (L.adr:Int):=rfl
theorem LadrF_all (ls:List LineA):(ls.map lineE).filterMap LadrF=ls.map fun L=>(L.adr:Int):=by
 induction ls with
 | nil=>rfl
 | cons L ls ih=>rw[List.map_cons,List.filterMap_cons,adrF_line,ih];rfl
theorem LKeys1_in (n:Nat) (F:List Nat) (N0 l Bm lb ck:Nat) (ls:List LineA) (J Jx:List Int→World→Prop) (W:World) (hmp:W.heap[lb]?=some (.map (ls.map lineE).toArray ck))
  (hbn:ls.Pairwise fun a b=>a.born≠b.born) (hold: ∀L∈ls,L.born<ck)
  (hJ:AbidesFrom W.heap.size J) (hlb:lb<N0) (hlb':lb∉F) (hN:N0≤W.heap.size)
  (hY: ∀pre (x:Int) W1,J pre W1→pre.length<ls.length→YieldAt Fence.wide (n-1) Tryz.prog l #[.int .u64 x] W1 fun e W'=>
   (e= .returned (.bool true)∧J (pre++[x]) W'∧KeepM F N0 W1 W')∨(e= .returned (.bool false)∧Jx (pre++[x]) W'))
  (hst:W.cell? ⟨Bm,0,none⟩=some (.map (some lb))) (h0:J [] W):
  CallsIn Fence.wide n Tryz.prog 251 #[.func (.yield l) #[] #[],.pointer (some ⟨Bm,0,none⟩)] W fun e W'=>(∃v,e= .returned v)∧
   ((∃ys,ys.Perm (ls.map fun L=>(L.adr:Int))∧J ys W')∨(∃pre,True∧Jx pre W')):=by
 refine callsIn_of_wp Tryz.func251 rfl trivial ?_ rfl
 simp only[Tryz.ntmps251,List.size_toArray,List.length_cons,List.length_nil,Nat.reduceAdd,Nat.reduceSub,Array.replicate_succ,Array.replicate_zero,List.push_toArray,List.append_toArray,List.nil_append,List.cons_append]
 obtain⟨es,hes⟩: ∃es,es=(ls.map lineE).toArray:=⟨_,rfl⟩
 rw[←hes] at hmp
 have hrg:=run_range_map (P:=Tryz.prog) W 204 51 222 lb es ck Tryz.underlying204 hmp
 have HJ:=hid hJ
 have HY:=hid hY
 have H0:=hid h0
 have HMP:=hid hmp
 have HES:=hid hes
 have OLD:Hid (∀x∈es.toList,x.born<ck):=fun x hx=>by
  rw[hes] at hx
  simp only[List.mem_map] at hx
  obtain⟨L,hL,rfl⟩:=hx
  exact hold L hL
 have ND:Hid ((es.toList.map (·.born)).Nodup):=by
  show(es.toList.map (·.born)).Nodup
  rw[hes]
  show((ls.map lineE).map (·.born)).Nodup
  rw[List.map_map]
  exact List.pairwise_map.2 hbn
 have HB:=hid (show lb<N0∧lb∉F∧N0≤W.heap.size from⟨hlb,hlb',hN⟩)
 clear hJ hY h0 hmp hlb hlb' hN hes hbn hold
 gi_wp2
 obtain⟨r,hr⟩: ∃r,r=W.heap.size:=⟨_,rfl⟩
 obtain⟨W2,hW2⟩: ∃W2,W2=W.alloc (.mapIter (some lb) ck #[] ck):=⟨_,rfl⟩
 have hB1:Below W.heap.size W W2:=by rw[hW2];exact ba (Below.refl _ _) _
 have I2:Hid (W2.heap[r]?=some (.mapIter (some lb) ck #[] ck)):=by rw[hW2,hr];exact heap_alloc_new _ _
 have M2:Hid (W2.heap[lb]?=some (.map es ck)):=(hB1.block _ (by have:=HB.out;omega)).trans HMP.out
 have K2:Hid (KeepN F N0 W W2):=⟨hB1.size,fun x hx _=>hB1.block x (by have:=HB.out;omega)⟩
 have J2:Hid (J [] W2):=HJ.out _ _ _ none H0.out (grownBel hB1) (fun r e=>by cases e)
 have HR:=hid hr
 rw[←hr,←hW2]
 clear hW2 hr hB1 hst hrg
 gi_loopw [3] (fun _ wr=> ∃(seen:Array Nat) (pre:List Int),Hid (wr.heap[r]?=some (.mapIter (some lb) ck seen ck))∧Hid (wr.heap[lb]?=some (.map es ck))∧Hid (J pre wr)∧Hid (pre.Perm (gotM LadrF es.toList seen))∧Hid (KeepN F N0 W wr)) (fun _ wr=>(leftOf es (wr.iterSeen r)).size)
 case atStart=>exact⟨#[],[],I2,M2,J2,(by rw[gotM_none]:([]:List Int).Perm (gotM LadrF es.toList #[])),K2⟩
 case round=>
  obtain⟨seen,pre,hI,hM,hJp,hP,hK⟩:=hrel
  rcases run_next_at (P:=Tryz.prog) wr 0 r lb ck ck seen es ck hI.out hM.out OLD.out (Nat.le_refl _) with⟨h0,hrun⟩ | ⟨e,he,w1,hw1,hrun⟩
  ·have hall:=hid (gotM_all LadrF es seen h0)
   clear h0
   gi_wp2
   go_end0
   refine⟨⟨_,rfl⟩,.inl ⟨pre,?_,hJp.out⟩⟩
   have hp:=hP.out
   rw[hall.out,HES.out] at hp
   rw[←LadrF_all]
   exact hp
  ·obtain⟨L,hL,rfl⟩: ∃L∈ls,e=lineE L:=by
    have:=(mem_left he).1
    rw[HES.out] at this
    simp only[List.mem_map] at this
    obtain⟨L,hL,rfl⟩:=this
    exact⟨L,hL,rfl⟩
   have hsh:=hid (left_shrinks es seen (lineE L) he)
   have hit:=hid hI.out
   obtain⟨W3,hW3⟩: ∃W3,W3=w1.putObj r (.mapIter (some lb) ck (seen.push (lineE L).born) ck):=⟨_,rfl⟩
   replace hrun:(Instr.next (.pointer (some ⟨r,0,none⟩)) false 0).run Tryz.prog wr= .ok (.tuple #[.bool true,(lineE L).key,(lineE L).val]) W3:=by rw[hW3];exact hrun
   have hon1:Only [r] wr w1:=by rcases hw1 with rfl | rfl;exact Only.refl _ _;exact(Only.refl _ _).drew
   have hon:Only [r] wr W3:=by rw[hW3];exact Only.putObj hon1 (Or.inl (by simp)) _
   have hI3:Hid (W3.heap[r]?=some (.mapIter (some lb) ck (seen.push L.born) ck)):=by
    rw[hW3]
    exact putObj_at (w:=w1) (o:= .mapIter (some lb) ck seen ck) (by rcases hw1 with rfl | rfl<;>exact hI.out)
   have hM3:Hid (W3.heap[lb]?=some (.map es ck)):=(hon.block _ (Array.getElem?_eq_some_iff.1 hM.out).1 (by have:=HB.out;have:=HR.out;simp;omega)).trans hM.out
   have hgr:wr.grownBy W3 (some r):=⟨hon.os,hon.tape,hon.output,hon.size,fun x hx hn=>hon.block x hx (by simpa using fun h=>hn (by rw[h]))⟩
   have hJ3:Hid (J pre W3):=HJ.out _ _ _ (some r) hJp.out hgr (fun r' e=>by cases e;exact⟨by rw[HR.out];exact Nat.le_refl _,_,hI.out,rfl⟩)
   have hK3:Hid (KeepN F N0 W W3):=hK.out.trans ⟨hon.size,fun x hx _=>by
    by_cases hxl:x<wr.heap.size
    ·exact hon.block x hxl (by have:=HB.out;have:=HR.out;simp;omega)
    ·exfalso;have:=hK.out.size;have:=HB.out;omega⟩
   have hent:=run_entry_at (P:=Tryz.prog) W3 r lb ck seen es ck (lineE L) hI3.out hM3.out (mem_left he).1 ND.out
   have hpush:=hid (gotM_push LadrF ND.out (mem_left he).1 (mem_left he).2)
   have hlt:=gotM_lt LadrF ND.out (mem_left he).1 (mem_left he).2 (by rw[adrF_line];rfl)
   have hlen:es.toList.length=ls.length:=by rw[HES.out];simp
   rw[hlen] at hlt
   simp only[lineE] at hrun hent
   have hP3:Hid ((pre++[(L.adr:Int)]).Perm (gotM LadrF es.toList (seen.push L.born))):=((hP.out.append_right [(L.adr:Int)])).trans (by have:=hpush.out;rw[adrF_line] at this;exact this.symm)
   obtain⟨fn,tmps,assign,body,hy,hR⟩:=HY.out pre (L.adr:Int) W3 hJ3.out (by rw[hP.out.length_eq];exact hlt)
   have HRD:=hid hR
   clear hw1 hW3 hon hon1 hI hM hJp hK he hgr hlt hlen hR hL
   gi_wp2
   refine⟨fun h=>by simp[Fence.wide] at h,HRD.out.mono ?_⟩
   rintro e' W5 (⟨rfl,hJ5,hk5⟩ | ⟨rfl,hJx5⟩)
   ·have hI5:Hid (W5.heap[r]?=some (.mapIter (some lb) ck (seen.push L.born) ck)):=hk5.walks.same r _ hI3.out rfl
    have hM5:Hid (W5.heap[lb]?=some (.map es ck)):=hk5.walks.same lb _ hM3.out rfl
    have hK5:=hid (hK3.out.trans hk5.keep)
    have HJ5:=hid hJ5
    clear hJ5 hk5 hrun hent hy
    gi_wp2
    go_roundw
    case rel=>exact⟨seen.push L.born,pre++[(L.adr:Int)],hI5,hM5,HJ5,hP3,hK5⟩
    case measure=>
     have h1:W5.iterSeen r=seen.push L.born:=by unfold World.iterSeen;rw[hI5.out]
     have h2:wr.iterSeen r=seen:=by unfold World.iterSeen;rw[hit.out]
     rw[h1,h2]
     exact hsh.out
   ·have HJx:=hid hJx5
    clear hJx5 hrun hent hy
    gi_wp2
    refine bodyPost_ret (results_none rfl _ _ _) rfl ?_
    exact⟨⟨_,rfl⟩,.inr ⟨_,trivial,HJx.out⟩⟩
theorem LKeys_stops (n:Nat) (F:List Nat) (N0 Bm lb ck:Nat) (ls:List LineA) (w:World) (hmp:w.heap[lb]?=some (.map (ls.map lineE).toArray ck))
  (hbn:ls.Pairwise fun a b=>a.born≠b.born) (hold: ∀L∈ls,L.born<ck) (hlb:lb<N0) (hlb':lb∉F) (hN:N0≤w.heap.size)
  (hst:w.cell? ⟨Bm,0,none⟩=some (.map (some lb))):
  SeqStopsK Fence.wide n Tryz.prog 251 #[.pointer (some ⟨Bm,0,none⟩)] (fun x:Int=> #[.int .u64 x]) (KeepM F N0) (fun ys=>ys.Perm (ls.map fun L=>(L.adr:Int))) (fun _=>True) ls.length w:=by
 intro l J Jx W hW hJ _ hY h0
 have h1:=(hW.cell (p:=⟨Bm,0,none⟩) (World.block_lt_of_cell? w _ hst)).trans hst
 exact LKeys1_in n F N0 l Bm lb ck ls J Jx W ((hW.block _ (Array.getElem?_eq_some_iff.1 hmp).1).trans hmp) hbn hold hJ hlb hlb' (Nat.le_trans hN hW.size) hY h1 h0
theorem LKeys_make (n:Nat) (lb:Nat) (w:World):
  CallsIn Fence.wide n Tryz.prog 218 #[.map (some lb)] w fun e w'=>e= .returned (.func (.func 251) #[] #[.pointer (some ⟨w.heap.size,0,none⟩)])∧w'=w.alloc (.cells #[.map (some lb)] 204):=by
 refine callsIn_of_wp Tryz.func218 rfl trivial ?_ rfl
 simp only[Tryz.ntmps218,List.size_toArray,List.length_cons,List.length_nil,Nat.reduceAdd,Nat.reduceSub,Array.replicate_succ,Array.replicate_zero,List.push_toArray,List.append_toArray,List.nil_append,List.cons_append]
 gi_wp2
 go_ret
 exact⟨rfl,rfl⟩
end
section
open Go.RowKit Go.Shelf
attribute [local go_sem] Oper.semAt_some
def LGathI (w:World) (pre:List Int) (W:World):Prop:=
 (∃v,Boxed W w.heap.size 30 v∧W.ownsRow w.heap.size 51 1 v pre.length (pre.map (Value.int .u64))∧True)∧Below w.heap.size w W
theorem LGathI.own (w:World) (B:Nat) (hB:w.heap.size≤B):OwnFrom B (LGathI w):=
 OwnFrom.and (Own.from (holdsRow_own w.heap.size w.heap.size 30 51 1 (fun pre:List Int=>pre.length) (fun pre=>pre.map (Value.int .u64)) (fun _ _=>True)) B)
  (ownFrom_below (Nat.le_refl _) hB)
theorem LAppSeq_in (Bm lb ck:Nat) (ls:List LineA) (w:World) (hmp:w.heap[lb]?=some (.map (ls.map lineE).toArray ck)) (hbn:ls.Pairwise fun a b=>a.born≠b.born) (hold: ∀L∈ls,L.born<ck)
  (hst:w.cell? ⟨Bm,0,none⟩=some (.map (some lb))) (hl:ls.length≤1000000):
  CallsIn Fence.wide 5 Tryz.prog 211 #[.slice none 0 0,.func (.func 251) #[] #[.pointer (some ⟨Bm,0,none⟩)]] w fun e W'=>
   (∃(v:Value) (ys:List Int),e= .returned v∧ys.Perm (ls.map fun L=>(L.adr:Int))∧W'.ownsRow w.heap.size 51 1 v ys.length (ys.map (Value.int .u64)))∧Below w.heap.size w W':=by
 obtain⟨i0,hi0,hz0,hz1,hz2⟩:=info_parts infoAddr
 refine callsIn_of_wp_marks Tryz.func211 rfl trivial ?_ rfl
 simp only[Tryz.ntmps211,List.size_toArray,List.length_cons,List.length_nil,Nat.reduceAdd,Nat.reduceSub,Array.replicate_succ,Array.replicate_zero,List.push_toArray,List.append_toArray,List.nil_append,List.cons_append]
 gi_wp2_with fail
 obtain⟨W0,hW0⟩: ∃W0,W0=w.alloc (Obj.cells #[.slice none 0 0] 30):=⟨_,rfl⟩
 have hsz0:W0.heap.size=w.heap.size+1:=by rw[hW0];simp
 have HB0:Below w.heap.size w W0:=by rw[hW0];exact ba (Below.refl _ _) _
 have hmlt:=(Array.getElem?_eq_some_iff.1 hmp).1
 have hmW:=(HB0.block _ hmlt).trans hmp
 have hblt:Bm<w.heap.size:=World.block_lt_of_cell? w _ hst
 have hsW:=(HB0.cell (p:=⟨Bm,0,none⟩) hblt).trans hst
 have hbO:Boxed W0 w.heap.size 30 (.slice none 0 0):=by rw[hW0];exact Boxed.new w 30 (.slice none 0 0)
 rw[←hW0]
 have HL:=hid hl
 clear hW0
 refine wpIn_rangeFunc_ownG rfl (by omega) (gf:=251) (lb:= #[.pointer (some ⟨Bm,0,none⟩)]) rfl trivial (enters_of Tryz.func251 (by kernel_rfl) rfl)
  (LKeys_stops 4 [w.heap.size] (w.heap.size+1) Bm lb ck ls W0 hmW hbn hold (by omega) (by simp;omega) (by omega) hsW) KeepM.trans ?hKb (Below.refl _ _) (fun _=>rfl)
  (LGathI w) (fun _ _ _=>False) (LGathI.own w _ (by omega)) (fun _ _ _ _ _ h _ _=>h)
  ?h0
  (fun x=>{ tmps:= #[.slice none 0 0,.func (.func 251) #[] #[.pointer (some ⟨Bm,0,none⟩)],.pointer (some ⟨w.heap.size,0,none⟩),undef,.slice none 0 0,.int .u64 x,.func (.func 251) #[] #[.pointer (some ⟨Bm,0,none⟩)],.int .u64 x,undef,undef,undef,undef,undef],defers:=[] }) ?assign ?body ?done ?stop
 case hKb=>
  intro W l o o' hl ho hc hw
  exact KeepM.putObj ho hw (by omega)
 case h0=>exact⟨⟨.slice none 0 0,hbO,⟨rfl,Or.inl ⟨rfl,rfl⟩⟩,trivial⟩,HB0⟩
 case assign=>
  intro l x W K hK
  gi_wp2
  exact hK
 case body=>
  rintro l pre x W hI hlt
  obtain⟨⟨v,hv,hrow,_⟩,hB⟩:=hI
  have hc:=hv.cell
  have HV:=hid hv
  have HR:=hid hrow
  have HBB:=hid hB
  have HLT:=hid hlt
  have hWs:=HBB.out.size
  obtain⟨a,c,rfl⟩:=row_form1 hrow
  obtain⟨nn,hnn⟩: ∃nn,nn=pre.length:=⟨_,rfl⟩
  have HN:=hid hnn
  have hnle:nn≤1000000:=by have:=HL.out;omega
  rw[←hnn] at hc HV HR
  clear hv hrow hB hnn hlt hmp hst hmlt hmW hsW hblt hbO HB0 hl hbn hold
  gi_wp2_with (gi_at_builtin;go_loud (refine wpListIn_append_own_at _ rfl _ _ 30 rfl w.heap.size 51 i0 (.int .u64 0) 1 8 Tryz.underlying30 hi0 hz0 hz1 hz2 rfl (by decide) _ _ _ rfl (HR.out.alloc _) ⟨W.heap.size,0,none⟩ 1 1 [.int .u64 x] rfl rfl (cells_one_new _ _ _) (by simp[Value.oneCell']) (by unfold maxLen;omega) (by omega) (by simp;omega) ?_;intro v' w1 hown' hgrow _ hob;obtain⟨a',c',rfl⟩:=row_form1 hown';obtain⟨hv1,hv2,hr2,hk2,hb2⟩:=HV.out.appended (by decide) HR.out HBB.out.size (Nat.le_refl _) hown' hgrow;have hc1':=hv1.cell;have hf1:=hv1.frozen))
  have hlN:(pre++[x]).length=nn+1:=by rw[List.length_append,←HN.out];rfl
  have hpc:(pre++[x]).map (Value.int .u64)=pre.map (Value.int .u64)++[.int .u64 x]:=by rw[List.map_append];rfl
  refine⟨hk2.from _,⟨⟨hk2.size,?_⟩,othersWalks hk2⟩,⟨_,hv2,by rw[hlN,hpc];exact hr2,trivial⟩,HBB.out.trans hb2⟩
  intro y hy hny
  have hyl:y<w.heap.size:=by simp at hny;omega
  exact hb2.block y hyl
 case done=>
  rintro D ys W hD hys ⟨⟨v,hv,hrow,_⟩,hB⟩ hK
  have hc:=hv.cell
  have HB:=hid hB
  have HV:=hid hv
  have HR:=hid hrow
  have HY:=hid hys
  clear hv hrow hB hmp hst hmlt hmW hsW hblt hbO HB0 hl hbn hold hys
  gi_wp2
  have hb3:=HB.out.trans (belowK_b (w:=w) (Nat.le_refl _) W D _ (.deferred none) (by omega) hK rfl rfl)
  have hr3:=ownsRow_putObj HR.out (.deferred none) hK rfl
  refine⟨by simp,.inl ⟨_,_,rfl,run_takeDeferred hK,?_⟩⟩
  refine⟨v,?_,⟨v,ys,rfl,HY.out,hr3⟩,hb3⟩
  simp[results,Tryz.results211,go_sem]
 case stop=>rintro D c0 pre W hD hpre h hK;exact h.elim
structure LRiseR (w:World) (ls:List LineA) (v:Value) (ys:List Int) (W:World):Prop where
 perm:ys.Perm (ls.map fun L=>(L.adr:Int))
 row:W.ownsRow w.heap.size 51 1 v ys.length (ys.map (Value.int .u64))
 bel:Below w.heap.size w W
theorem LCollect_z (Bm lb ck:Nat) (ls:List LineA) (w:World) (hmp:w.heap[lb]?=some (.map (ls.map lineE).toArray ck)) (hbn:ls.Pairwise fun a b=>a.born≠b.born) (hold: ∀L∈ls,L.born<ck)
  (hst:w.cell? ⟨Bm,0,none⟩=some (.map (some lb))) (hl:ls.length≤1000000):
  Calls Tryz.prog 155 #[.func (.func 251) #[] #[.pointer (some ⟨Bm,0,none⟩)]] w fun e W'=> ∃v ys,e= .returned v∧LRiseR w ls v ys W':=by
 have HA:=hid (callsIn_wide.1 (LAppSeq_in Bm lb ck ls w hmp hbn hold hst hl))
 clear hmp hbn hold hst hl
 go_enter Tryz.func155,Tryz.ntmps155
 go_wp2_with fail
 refine HA.out.mono ?_
 rintro e w1 ⟨⟨v,ys,rfl,h1,h2⟩,h3⟩
 have HR:Hid (LRiseR w ls v ys w1):=⟨h1,h2,h3⟩
 clear h1 h2 h3
 go_wp2
 go_ret
 exact⟨v,ys,rfl,HR.out⟩
theorem LSorted_z (Bm lb ck:Nat) (ls:List LineA) (w:World) (hmp:w.heap[lb]?=some (.map (ls.map lineE).toArray ck)) (hbn:ls.Pairwise fun a b=>a.born≠b.born) (hold: ∀L∈ls,L.born<ck)
  (hst:w.cell? ⟨Bm,0,none⟩=some (.map (some lb))) (hl:ls.length≤1000000):
  Calls Tryz.prog 67 #[.func (.func 251) #[] #[.pointer (some ⟨Bm,0,none⟩)]] w fun e W'=> ∃v ys,e= .returned v∧LRiseR w ls v ys W':=by
 have HA:=hid (LCollect_z Bm lb ck ls w hmp hbn hold hst hl)
 have HL:=hid hl
 clear hmp hbn hold hst hl
 go_enter Tryz.func67,Tryz.ntmps67
 go_wp2_with fail
 refine HA.out.mono ?_
 rintro e w1 ⟨v,ys,rfl,hr⟩
 have HS:=hid (SortOwn_s hr.row (by have h1:=hr.perm.length_eq;have:=HL.out;simp at h1;omega))
 have HR:=hid hr
 clear hr
 go_wp2_with fail
 refine HS.out.mono ?_
 rintro e w2 ⟨⟨rv,rfl⟩,zs,p1,p2,p3,p4,p5⟩
 have hb:Below w.heap.size w w2:=by
  rcases p5 with⟨_,rfl⟩ | ⟨g,n',cap',_,hbg,ho⟩
  ·exact HR.out.bel
  ·exact HR.out.bel.trans (ho.below (by simpa using hbg) HR.out.bel.size)
 have HF:Hid (LRiseR w ls v zs w2):=⟨p1.trans HR.out.perm,by rw[p1.length_eq];exact p3,hb⟩
 clear p1 p2 p3 p4 p5 hb HS
 go_wp2
 go_ret
 exact⟨v,zs,rfl,HF.out⟩
theorem MRising_z (m:Nat) (B:MB) (M:MemS) (w:World) (h:MemIs w m B M) (hl:M.lines.length≤1000000):
  Calls Tryz.prog 179 #[.pointer (some ⟨m,0,none⟩)] w fun e W'=> ∃(b:Nat) (v:Value) (ys:List Int),e= .returned (.func (.func 250) #[] #[.pointer (some ⟨b,0,none⟩)])∧
   ys.Perm (M.lines.map fun L=>(L.adr:Int))∧W'.ownsRow w.heap.size 51 1 v ys.length (ys.map (Value.int .u64))∧w.heap.size≤b∧Blk W' b 30 #[v]∧v.ownBlock≠some b∧Below w.heap.size w W':=by
 obtain⟨W1,hW1⟩: ∃W1,W1=w.alloc (.cells #[.map (some B.lb)] 204):=⟨_,rfl⟩
 have hb1:Below w.heap.size w W1:=by rw[hW1];exact ba (Below.refl _ _) _
 have hc1:W1.cell? ⟨w.heap.size,0,none⟩=some (.map (some B.lb)):=by rw[hW1];exact(Blk.new w _ _).cell 0
 have HS:=hid (LSorted_z w.heap.size B.lb M.clock M.lines W1 ((hb1.block _ (Array.getElem?_eq_some_iff.1 h.map).1).trans h.map) h.born h.old hc1 hl)
 have y2:w.cell? ⟨m,2,none⟩=some (.map (some B.lb)):=h.blk.cell 2
 have HW:=hid hW1
 have HB:=hid hb1
 clear hW1 hb1 hc1 h hl
 go_enter Tryz.func179,Tryz.ntmps179
 go_wp2_with fail
 refine(callsIn_wide.1 (LKeys_make 5 B.lb w)).mono ?_
 rintro e w1 ⟨rfl,rfl⟩
 go_wp2_with fail
 rw[←HW.out]
 refine HS.out.mono ?_
 rintro e w2 ⟨v,ys,rfl,hr⟩
 obtain⟨a,c,rfl⟩:=row_form1 hr.row
 have HR:=hid hr
 obtain⟨ny,hny⟩: ∃ny,ny=ys.length:=⟨_,rfl⟩
 rw[←hny]
 have HNY:=hid hny
 clear hr hny
 go_wp2
 go_ret
 have hbe:Below w.heap.size w w2:=HB.out.trans (HR.out.bel.mono HB.out.size)
 have hr:=HR.out.row
 rw[←HNY.out] at hr
 refine⟨w2.heap.size,.slice a ny c,ys,rfl,HR.out.perm,?_,hbe.size,Blk.new w2 _ _,fun e=> ?_,ba hbe _⟩
 ·rw[←HNY.out]
  exact(hr.alloc _).mono HB.out.size
 ·have:=own_lt hr _ e
  omega
end
section
open Go.RowKit Go.Shelf
attribute [local go_sem] Oper.semAt_some
theorem Lines_in (m:Nat) (B:MB) (M0:MemS) (w:World) (h:MemIs w m B M0) (hl:M0.lines=[]):
  CallsIn Fence.wide 5 Tryz.prog 121 #[ptrV m] w fun e W'=>(∃a c,e= .returned (.slice a 0 c))∧Below w.heap.size w W':=by
 have HT:=hid (there_z m B M0.view.length M0.st h.pos)
 have hr1:=hid (fun W1 (hb:Below w.heap.size w W1)=>MRising_z m B M0 W1 (h.only (Only.of_below hb []) (fun _ _ h=>by cases h)) (by rw[hl];decide))
 have H:=hid h
 refine callsIn_of_wp_marks Tryz.func121 rfl trivial ?_ rfl
 simp only[Tryz.ntmps121,List.size_toArray,List.length_cons,List.length_nil,Nat.reduceAdd,Nat.reduceSub,Array.replicate_succ,Array.replicate_zero,List.push_toArray,List.append_toArray,List.nil_append,List.cons_append]
 gi_wp2_with fail
 obtain⟨W1,hW1⟩: ∃W1,W1=w.alloc (.cells #[.slice none 0 0] 30):=⟨_,rfl⟩
 have hb1:Below w.heap.size w W1:=by rw[hW1];exact ba (Below.refl _ _) _
 have hbl:Blk W1 w.heap.size 30 #[.slice none 0 0]:=by rw[hW1];exact Blk.new _ _ _
 rw[←hW1]
 have HR:=hid (hr1.out W1 hb1)
 have hblk:=h.blk.bel hb1
 have HB1:=hid hb1
 have HBL:=hid hbl
 have HL:=hid hl
 have HW1:=hid hW1
 clear hW1 hb1 hr1 h hl hbl
 refine⟨trivial,(callsIn_wide.2 (HT.out W1 hblk)).mono ?_⟩
 rintro e w1 ⟨rfl,rfl⟩
 gi_wp2_with fail
 refine⟨trivial,(callsIn_wide.2 HR.out).mono ?_⟩
 rintro e W2 ⟨b,v,ys,rfl,p1,p2,p3,p4,p5,p6⟩
 rw[HL.out] at p1
 have hy:ys=[]:=by have:=p1.length_eq;simpa using this
 subst hy
 obtain⟨p,g,c,rfl,r1,r2,r3,r4⟩:=arow_at p2 p3 p4.lt
 gi_wp2_with fail
 have HS:=hid (All_stops 4 0 g c p (fun _=>0) [] W2.heap.size b W2 (by decide) (fun h=>absurd h (Nat.lt_irrefl 0)) (fun i hi=>absurd hi (Nat.not_lt_zero _)) p4.lt r4 (by simp) (by simp) (Nat.le_refl _) (p4.cell 0))
 have HP:=hid (⟨p6,p4.lt,r4,p3,r3⟩:_∧_∧_∧_∧_)
 have hJ0:Below W1.heap.size W1 W2:=p6
 have HJ:=hid hJ0
 clear p1 p2 p4 p5 r1 r2 p6 hJ0 p3 r3 r4 HR
 refine wpIn_rangeFunc_ownG rfl (by omega) (gf:=250) (lb:= #[.pointer (some ⟨b,0,none⟩)]) rfl trivial (enters_of Tryz.func250 (by kernel_rfl) rfl)
  HS.out KeepN.trans ?hKb (Below.refl _ _) (fun _=>rfl)
  (fun _=>Below W1.heap.size W1) (fun _ _ _=>False) ?own (fun _ _ _ _ _ h _ _=>h)
  HJ.out
  (fun x=>Fin.elim0 x) ?assign ?body ?done ?stop
 case hKb=>
  intro W l o o' hl ho hc hw
  exact(KeepN.refl _ _ W).putObj (by omega) o'
 case own=>
  intro s W W' row hs hg hrow
  refine hs.trans ((Only.of_grown (f:=row.toList) hg (fun k hk=>by simp[hk])).below (fun k hk=> ?_) hs.size)
  have:=(hrow k (by simpa using hk)).1
  have:=HP.out.1.size
  omega
 case assign=>
  intro l x
  exact Fin.elim0 x
 case body=>
  rintro l pre x
  exact Fin.elim0 x
 case done=>
  rintro D xs W hD _ hI hK
  have hbl:=HBL.out.bel hI
  have hc0:=hbl.cell 0
  have hf0:=hbl.frozen 0
  have HX:=hid (⟨hD,hI,hK,hbl⟩:_∧_∧_∧_)
  clear hD hI hK hbl
  gi_wp2_with fail
  obtain⟨W',hW'⟩: ∃W',W'=W.setCell ⟨w.heap.size,0,none⟩ (.slice none 0 0):=⟨_,rfl⟩
  have hs1:W1.heap.size=w.heap.size+1:=by have:=HW1.out;rw[this];simp
  have hDl:=(Array.getElem?_eq_some_iff.1 HX.out.2.2.1).1
  have hlt:=HX.out.2.2.2.lt
  have h21:=HP.out.1.size
  have hD:=HX.out.1
  have hb':Blk W' w.heap.size 30 #[.slice none 0 0]:=by
   rw[hW']
   exact HX.out.2.2.2.set_ 0 (.slice none 0 0)
  have oW:Only [w.heap.size] W W':=by rw[hW'];exact(Only.refl _ _).setCell (Or.inl (by simp)) _
  have hK9:W'.heap[D]?=some (.deferred (some [])):=(oW.block D hDl (by simp;omega)).trans HX.out.2.2.1
  rw[←hW']
  refine⟨by simp,.inl ⟨_,_,rfl,run_takeDeferred hK9,?_⟩⟩
  have o2:Only [D] W' (W'.putObj D (.deferred none)):=Only.putObj (Only.refl _ _) (Or.inl (by simp)) _
  have hb2:=o2.blk hb' (by simp;omega)
  have hc2:(W'.putObj D (.deferred none)).cell? ⟨w.heap.size,0,none⟩=some (.slice none 0 0):=hb2.cell 0
  refine⟨.slice none 0 0,?_,⟨_,_,rfl⟩,?_⟩
  ·clear hW' oW hK9 hb2 o2 hb'
   simp[results,Tryz.results121,go_sem,hc2]
  ·have o3:Only [w.heap.size,D] w (W'.putObj D (.deferred none)):=((((Only.of_below HB1.out []).trans (Only.of_below HX.out.2.1 []) (by simp)).mono (by simp)).trans (oW.mono (by simp)) (fun x hx=>Or.inl hx)).trans (o2.mono (by simp)) (fun x hx=>Or.inl hx)
   exact o3.below (fun k hk=>by simp at hk;omega) (Nat.le_refl _)
 case stop=>rintro D c0 pre W hD hpre h hK;exact h.elim
theorem Lines_no (m:Nat) (B:MB) (M0:MemS) (w:World) (h:MemIs w m B M0) (hl:M0.lines=[]):
  Calls Tryz.prog 121 #[ptrV m] w fun e W'=>(∃a c,e= .returned (.slice a 0 c))∧Below w.heap.size w W':=callsIn_wide.1 (Lines_in m B M0 w h hl)
end
end Go.Proofs.YtibiekfjbibpbaaGreat
