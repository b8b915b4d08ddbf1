/- An image that is looked at: where its words, its headers, its reached blocks lie; at, class, block, take. -/
import Derived.Test.YtibiekfjbibpbaaGreatPlnC
import Derived.Test.YtibiekfjbibpbaaGreatWorM
import Derived.Test.YtibiekfjbibpbaaGreatWorN
import Derived.Test.YtibiekfjbibpbaaGreatChunk
import Derived.Test.YtibiekfjbibpbaaGreatKit
import Derived.Test.YtibiekfjbibpbaaGreatBaseC
import Derived.Lib.AppendZeros
set_option maxRecDepth 100000
set_option maxHeartbeats 16000000
set_option linter.unusedVariables false
set_option linter.unusedSimpArgs false
namespace Go.Proofs.YtibiekfjbibpbaaGreat
open Go.RowKit
def pairE (e:MapEntry):Value×Value:=(e.key,e.val)
def isU (a:Int):Value×Value:=(.int .u64 a,.agg #[])
def BornU (l:List MapEntry) (clock:Nat):Prop:=(l.map (·.born)).Nodup∧ ∀b∈l.map (·.born),b<clock
theorem bornU_push {l:List MapEntry} {clock:Nat} (h:BornU l clock) (e:MapEntry) (he:e.born=clock):BornU (l++[e]) (clock+1):=by
 unfold BornU at h ⊢
 rw[List.map_append]
 refine⟨?_,fun b hb=> ?_⟩
 ·rw[List.nodup_append]
  refine⟨h.1,by simp,fun x hx y hy=> ?_⟩
  simp at hy
  have:=h.2 x hx
  omega
 ·rcases List.mem_append.1 hb with h1 | h1
  ·have:=h.2 b h1;omega
  ·simp at h1;omega
def SetIs (w:World) (mb:Nat) (R:List Int):Prop:= ∃es clock,w.heap[mb]?=some (.map es clock)∧es.toList.map pairE=R.map isU∧BornU es.toList clock
theorem SetIs.lt {w:World} {mb:Nat} {R:List Int} (h:SetIs w mb R):mb<w.heap.size:=by
 obtain⟨es,cl,h1,_⟩:=h
 exact(Array.getElem?_eq_some_iff.1 h1).1
theorem SetIs.only {w w':World} {mb:Nat} {R:List Int} {f:List Nat} (h:SetIs w mb R) (ho:Only f w w') (hn:mb∉f):SetIs w' mb R:=by
 obtain⟨es,cl,h1,h2⟩:=h
 exact⟨es,cl,(ho.block mb (Array.getElem?_eq_some_iff.1 h1).1 hn).trans h1,h2⟩
theorem setKeys {es:List MapEntry} {R:List Int} (hv:es.map pairE=R.map isU): ∀e∈es,∃x∈R,e.key= .int .u64 x:=by
 intro e he
 have hm:pairE e∈R.map isU:=hv▸List.mem_map_of_mem he
 obtain⟨x,hx,hxe⟩:=List.mem_map.1 hm
 exact⟨x,hx,(congrArg Prod.fst hxe).symm⟩
theorem SetIs.look {w:World} {mb:Nat} {R:List Int} (h:SetIs w mb R) (a:Int):
  (Instr.lookup 139 (.map (some mb)) (.int .u64 a) true).run Tryz.prog w= .ok (.tuple #[.agg #[],.bool (decide (a∈R))]) w:=by
 obtain⟨es,clock,h1,h2,h3⟩:=h
 by_cases hm:a∈R
 ·rw[decide_eq_true hm]
  obtain⟨pre,post,hR,hnp⟩: ∃pre post,R=pre++a::post∧a∉pre:=by
   clear h2
   induction R with
   | nil=>cases hm
   | cons x R ih=>
    by_cases hx:x=a
    ·exact⟨[],R,by rw[hx];rfl,by simp⟩
    ·obtain⟨pre,post,e1,e2⟩:=ih (by rcases List.mem_cons.1 hm with h | h;exact absurd h.symm hx;exact h)
     exact⟨x::pre,post,by rw[e1];rfl,by simp[e2];exact fun e=>hx e.symm⟩
  rw[hR,List.map_append,List.map_cons] at h2
  obtain⟨es1,es3,k1,k2,k3⟩:=List.map_eq_append_iff.1 h2
  obtain⟨e,es2,k4,k5,k6⟩:=List.map_eq_cons_iff.1 k3
  subst k4
  have hk:e.key= .int .u64 a:=congrArg Prod.fst k5
  have hvl:e.val= .agg #[]:=congrArg Prod.snd k5
  have hf:=findU_at (k:=a) (e:=e) (post:=es2) hk (pre:=es1) (i:=0) (fun d hd=>by
   obtain⟨x,hx,hxk⟩:=setKeys k2 d hd
   exact⟨x,hxk,fun e=>hnp (e▸hx)⟩)
  rw[←k1,hvl] at hf
  exact run_lookU_some w _ _ _ Tryz.underlying139 Tryz.underlying51 mb es clock h1 a _ (.agg #[]) true hf
 ·rw[decide_eq_false hm]
  exact run_lookU_none w _ _ _ Tryz.underlying139 Tryz.underlying51 mb es clock h1 a (.agg #[]) true (by kernel_rfl) (findU_none fun e he=>by
   obtain⟨x,hx,hxk⟩:=setKeys h2 e he
   exact⟨x,hxk,fun e=>hm (e▸hx)⟩)
theorem SetIs.put {w:World} {mb:Nat} {R:List Int} (h:SetIs w mb R) (a:Int) (ha:a∉R):
  ∃w',(Instr.mapUpdate 139 (.map (some mb)) (.int .u64 a) (.agg #[])).run Tryz.prog w= .ok () w'∧SetIs w' mb (R++[a])∧Only [mb] w w':=by
 obtain⟨es,clock,h1,h2,h3⟩:=h
 refine⟨_,run_updU_new w _ _ _ Tryz.underlying139 Tryz.underlying51 mb es clock h1 a (.agg #[]) (findU_none fun e he=>by
   obtain⟨x,hx,hxk⟩:=setKeys h2 e he
   exact⟨x,hxk,fun e=>ha (e▸hx)⟩),⟨_,_,putObj_at h1,?_,?_⟩,(Only.refl _ _).putObj (Or.inl (by simp)) _⟩
 ·rw[Array.toList_push,List.map_append,h2,List.map_append];rfl
 ·rw[Array.toList_push]
  exact bornU_push h3 _ rfl
structure LkP where
 lb:Nat
 wb:Nat
 wc:Nat
 hb:Nat
 hc:Nat
 mb:Nat
def nsI (bs:List Int):Nat:=(slabsZ bs.length).toNat
def wordsN (bs:List Int):List Nat:=(wordsOf bs).map Int.toNat
theorem wordsN_len (bs:List Int):(wordsN bs).length=bs.length/8:=by unfold wordsN wordsOf;simp
def hclsI (bs:List Int) (i:Nat):Nat:=if i=0 then 0 else clsAt bs i
def hbitI (bs:List Int) (i:Nat):Nat:=if i=0 then 0 else bitAt bs i
def lookC (B:LkP) (bs:List Int) (root:Int) (lv pr:Value):Array Value:= #[.slice (some ⟨B.wb,0,none⟩) (bs.length/8) B.wc,.slice (some ⟨B.hb,0,none⟩) (nsI bs+1) B.hc,.int .u64 root,.map (some B.mb),lv,pr]
structure LookB (w:World) (B:LkP) (bs:List Int):Prop where
 words:WordsAt w B.wb 0 (wordsN bs)
 wc:bs.length/8≤B.wc
 hlt:B.hb<w.heap.size
 heads: ∀i,i<nsI bs+1→w.cell? ⟨B.hb,i*2,none⟩=some (.int .i64 (hclsI bs i:Nat))∧w.cell? ⟨B.hb,i*2+1,none⟩=some (.int .u64 (hbitI bs i:Nat))
 ok: ∀i,1≤i→i<nsI bs+1→headOK bs i=true
 some':0<slabsZ bs.length
 byte: ∀x∈bs,0≤x∧x<256
theorem LookB.only {w w':World} {B:LkP} {bs:List Int} {f:List Nat} (h:LookB w B bs) (ho:Only f w w') (h1:B.wb∉f) (h2:B.hb∉f):LookB w' B bs:=
 ⟨⟨Nat.lt_of_lt_of_le h.words.1 ho.size,fun i x hi=>(ho.cell (p:=⟨B.wb,0+i,none⟩) h.words.1 h1).trans (h.words.2 i x hi)⟩,h.wc,Nat.lt_of_lt_of_le h.hlt ho.size,
  fun i hi=>⟨(ho.cell (p:=⟨B.hb,i*2,none⟩) h.hlt h2).trans (h.heads i hi).1,(ho.cell (p:=⟨B.hb,i*2+1,none⟩) h.hlt h2).trans (h.heads i hi).2⟩,h.ok,h.some',h.byte⟩
theorem LookB.bel {w w':World} {B:LkP} {bs:List Int} (h:LookB w B bs) (hb:Below w.heap.size w w'):LookB w' B bs:=h.only (Only.of_below hb []) (by simp) (by simp)
theorem slabs_len {n:Nat} (h:0<slabsZ n):n % 1024=0∧(slabsZ n).toNat+1=n/1024∧2≤n/1024∧n/1024≤65:=by
 unfold slabsZ at h ⊢
 split at h
 ·rw[if_pos (by assumption)];omega
 ·omega
theorem LookB.nums {w:World} {B:LkP} {bs:List Int} (h:LookB w B bs):bs.length=1024*(nsI bs+1)∧1≤nsI bs∧nsI bs≤64:=by
 have:=slabs_len h.some'
 unfold nsI
 omega
theorem wordsN_at {bs:List Int} (hb: ∀x∈bs,0≤x∧x<256) {k:Nat} (hk:k<bs.length/8): ∃x,(wordsN bs)[k]?=some x∧((x:Nat):Int)=wAt bs k∧x<18446744073709551616:=by
 refine⟨(wAt bs k).toNat,?_,?_,?_⟩
 ·unfold wordsN wordsOf;rw[List.getElem?_map,List.getElem?_map,List.getElem?_range hk];rfl
 all_goals
  have:=leW_bounds (bs:=(bs.drop (8*k)).take 8) (fun x hx=>hb x (List.mem_of_mem_drop (List.mem_of_mem_take hx)))
  rw[List.length_take,List.length_drop,Nat.min_eq_left (by omega)] at this
  unfold wAt
  omega
structure LookIs (w:World) (N:Nat) (B:LkP) (bs:List Int) (root:Int) (lv pr:Value) (R:List Int):Prop where
 cells:Blk w B.lb 142 (lookC B bs root lv pr)
 fix:LookB w B bs
 set:SetIs w B.mb R
 ge:N≤B.lb∧N≤B.wb∧N≤B.hb∧N≤B.mb
 ne:B.lb≠B.wb∧B.lb≠B.hb∧B.lb≠B.mb∧B.wb≠B.hb∧B.wb≠B.mb∧B.hb≠B.mb
theorem LookIs.only {w w':World} {N:Nat} {B:LkP} {bs:List Int} {root:Int} {lv pr:Value} {R:List Int} {f:List Nat} (h:LookIs w N B bs root lv pr R) (ho:Only f w w') (h1:B.lb∉f) (h2:B.wb∉f) (h3:B.hb∉f) (h4:B.mb∉f):LookIs w' N B bs root lv pr R:=
 ⟨ho.blk h.cells h1,h.fix.only ho h2 h3,h.set.only ho h4,h.ge,h.ne⟩
theorem LookIs.bel {w w':World} {N:Nat} {B:LkP} {bs:List Int} {root:Int} {lv pr:Value} {R:List Int} (h:LookIs w N B bs root lv pr R) (hb:Below w.heap.size w w'):LookIs w' N B bs root lv pr R:=h.only (Only.of_below hb []) (by simp) (by simp) (by simp) (by simp)
theorem LAt_z (lb wb n wc:Nat) (ws:List Nat) (hn:n=ws.length) (h6:n≤1000000) (k:Nat) (x:Nat) (hx:ws[k]?=some x) (a:Int) (ha:a=8*k) (w:World) (h0:w.cell? ⟨lb,0,none⟩=some (.slice (some ⟨wb,0,none⟩) n wc)) (h1:WordsAt w wb 0 ws):
  Calls Tryz.prog 200 #[.pointer (some ⟨lb,0,none⟩),.int .u64 a] w fun e w'=>e= .returned (.int .u64 (x:Int))∧w=w':=by
 have hk:k<n:=by rw[hn];exact(List.getElem?_eq_some_iff.1 hx).1
 have c1:w.cell? ⟨wb,k,none⟩=some (.int .u64 (x:Int)):=by have:=h1.2 k x hx;rwa[Nat.zero_add] at this
 have q:IntKind.u64.wrap (a.tdiv 8)=(k:Int):=by
  rw[IntWalk.u64_quo _ _ ⟨by omega,by omega,by omega⟩];omega
 have i0:(0:Int)≤(k:Int):=by omega
 have i1:(k:Int)< (n:Int):=by omega
 clear ha hn hx h1
 go_enter Tryz.func200,Tryz.ntmps200
 go_wp2
 go_ret
 exact⟨rfl,rfl⟩
theorem cls_le3 {bs:List Int} {i:Nat} (h:headOK bs i=true):clsAt bs i≤3:=by
 unfold headOK at h
 simp at h
 exact h.1
theorem LClass_z (B:LkP) (bs:List Int) (root:Int) (lv pr:Value) (a:Int) (ha:0≤a∧a≤18446744073709551615) (w:World) (h:LookB w B bs) (hc:Blk w B.lb 142 (lookC B bs root lv pr)):
  Calls Tryz.prog 203 #[.pointer (some ⟨B.lb,0,none⟩),.int .u64 a] w fun e w'=>e= .returned (.int .i64 (clsI bs a))∧Below w.heap.size w w':=by
 have SL:=hid (Slab_z a w ha.1 ha.2)
 have c1:w.cell? ⟨B.lb,1,none⟩=some (.slice (some ⟨B.hb,0,none⟩) (nsI bs+1) B.hc):=hc.cell 1
 have hs:=slabZ_le a
 have hn:=h.nums
 have hns:((nsI bs:Nat):Int)=slabsZ bs.length:=by have:=h.some';unfold nsI;omega
 by_cases h0:slabZ a=0
 ·have e0:(slabZ a==0)=true:=by simp[h0]
  have HC:=hid (show clsI bs a=0 by unfold clsI;rw[if_pos (Or.inl h0)])
  clear h h0 hs hn hns
  go_enter Tryz.func203,Tryz.ntmps203
  go_wp2_with fail
  refine SL.out.mono ?_
  rintro e w1 ⟨rfl,rfl⟩
  go_wp2
  go_ret
  exact⟨by rw[HC.out];rfl,Below.refl _ _⟩
 ·have e0:(slabZ a==0)=false:=by simp[h0]
  obtain⟨s,hse⟩: ∃s:Nat,slabZ a=(s:Int):=⟨(slabZ a).toNat,by omega⟩
  by_cases h1:nsI bs<s
  ·have e1:(nsI bs+1:Int)≤(s:Int):=by omega
   have HC:=hid (show clsI bs a=0 by unfold clsI;rw[if_pos (Or.inr (by omega))])
   rw[hse] at SL e0
   clear h h0 hs hn hns hse h1
   go_enter Tryz.func203,Tryz.ntmps203
   go_wp2_with fail
   refine SL.out.mono ?_
   rintro e w1 ⟨rfl,rfl⟩
   go_wp2
   go_ret
   exact⟨by rw[HC.out];rfl,Below.refl _ _⟩
  ·have e1: ¬(nsI bs+1:Int)≤(s:Int):=by omega
   have i1:(s:Int)< (nsI bs+1:Int):=by omega
   have i0:(0:Int)≤(s:Int):=by omega
   have hh:=h.heads s (by omega)
   have hcl:hclsI bs s=clsAt bs s:=by unfold hclsI;rw[if_neg (by omega)]
   have c2:w.cell? ⟨B.hb,s*2,none⟩=some (.int .i64 (clsAt bs s:Nat)):=by rw[hh.1,hcl]
   have hok:=cls_le3 (h.ok s (by omega) (by omega))
   have IX:=hid (Index_z a (clsAt bs s:Nat) w ha.1 ha.2)
   have HC:=hid (show clsI bs a=if idxB a (clsAt bs s:Nat)=true then(clsAt bs s:Nat) else 0 by
    unfold clsI
    rw[if_neg (by omega),hse,Int.toNat_natCast]
    by_cases hx:idxB a (clsAt bs s:Nat)=true
    ·rw[if_pos ⟨hok,hx⟩,if_pos hx]
    ·rw[if_neg (fun k=>hx k.2),if_neg hx];rfl)
   have HH:=hid (⟨h,hc⟩:_∧_)
   rw[hse] at SL e0
   obtain⟨ns1,hns1⟩: ∃n,n=nsI bs+1:=⟨_,rfl⟩
   have j1:(s:Int)< (ns1:Int):=by omega
   have j2: ¬(ns1:Int)≤(s:Int):=by omega
   have j3:s<ns1:=by omega
   rw[←hns1] at c1
   have HN:=hid hns1
   obtain⟨c,hcc⟩: ∃c,c=clsAt bs s:=⟨_,rfl⟩
   rw[←hcc] at c2 IX HC
   have HCC:=hid hcc
   obtain⟨b,hb⟩: ∃b,b=idxB a (c:Nat):=⟨_,rfl⟩
   rw[←hb] at IX HC
   have HB:=hid hb
   have d1: ∀w',Below w.heap.size w w'→w'.cell? ⟨B.lb,1,none⟩=some (.slice (some ⟨B.hb,0,none⟩) ns1 B.hc):=fun w' hb=>(hb.cell (p:=⟨B.lb,1,none⟩) hc.lt).trans c1
   have d2: ∀w',Below w.heap.size w w'→w'.cell? ⟨B.hb,s*2,none⟩=some (.int .i64 (c:Nat)):=fun w' hb=>(hb.cell (p:=⟨B.hb,s*2,none⟩) h.hlt).trans c2
   have D:=hid (⟨d1,d2⟩:_∧_)
   clear h hc h0 hs hn hns hse h1 hns1 hcc hb hh hcl hok e1 i1 d1 d2
   go_enter Tryz.func203,Tryz.ntmps203
   go_wp2_with fail
   refine SL.out.mono ?_
   rintro e w1 ⟨rfl,rfl⟩
   go_wp2_with fail
   refine IX.out.mono ?_
   rintro e w1 ⟨rfl,hb1⟩
   have f1:=D.out.1 w1 hb1
   have f2:=D.out.2 w1 hb1
   have HB1:=hid hb1
   clear hb1
   cases b
   ·go_wp2
    go_ret
    exact⟨by rw[HC.out];rfl,HB1.out⟩
   ·go_wp2
    go_ret
    exact⟨by rw[HC.out];rfl,HB1.out⟩
theorem LBlock_z (lb wb n wc:Nat) (c:Int) (hc:1≤c∧c≤3) (a:Int) (k:Nat) (ha:a=8*k) (hk:k+8*c.toNat≤n) (hn:n≤1000000) (hwc:n≤wc) (w:World) (h0:w.cell? ⟨lb,0,none⟩=some (.slice (some ⟨wb,0,none⟩) n wc)):
  Calls Tryz.prog 204 #[.pointer (some ⟨lb,0,none⟩),.int .u64 a,.int .i64 c] w fun e w'=>e= .returned (.slice (some ⟨wb,k,none⟩) (8*c.toNat) (wc-k))∧Below w.heap.size w w':=by
 obtain⟨m,hm⟩: ∃m,m=8*c.toNat:=⟨_,rfl⟩
 have BY:=hid (Bytes_z c w)
 have hlt:=World.block_lt_of_cell? w _ h0
 have hbz:bytesZ c=8*(m:Int):=by unfold bytesZ;rw[if_pos hc];omega
 rw[hbz] at BY
 rw[←hm] at hk ⊢
 have u1:IntKind.u64.wrap (8*(m:Int))=8*(m:Int):=IntWalk.u64_in _ (by omega)
 have u2:IntKind.u64.wrap ((8*(m:Int)).tdiv 8)=(m:Int):=by rw[IntWalk.u64_quo _ _ ⟨by omega,by omega,by omega⟩];omega
 have u3:IntKind.u64.wrap (a.tdiv 8)=(k:Int):=by rw[IntWalk.u64_quo _ _ ⟨by omega,by omega,by omega⟩];omega
 have u4:IntKind.u64.wrap ((k:Int)+(m:Int))=(k:Int)+(m:Int):=IntWalk.u64_in _ (by omega)
 have i0:(0:Int)≤(k:Int):=by omega
 have i1:(k:Int)≤(k:Int)+(m:Int):=by omega
 have i2:(k:Int)+(m:Int)≤(wc:Int):=by omega
 have i3:((k:Int)+(m:Int)).toNat=k+m:=by omega
 have i4:k+m-k=m:=by omega
 have i5: ¬k=wc:=by omega
 have D:=hid (fun w' (hb:Below w.heap.size w w')=>(hb.cell (p:=⟨lb,0,none⟩) hlt).trans h0)
 clear hbz hm hc ha hlt h0
 go_enter Tryz.func204,Tryz.ntmps204
 go_wp2_with fail
 refine BY.out.mono ?_
 rintro e w1 ⟨rfl,hb1⟩
 have f1:=D.out w1 hb1
 have HB1:=hid hb1
 clear hb1
 go_wp2
 go_ret
 refine⟨?_,HB1.out⟩
 first | rfl | (simp[i3,i4];done) | trace_state
theorem LTake_yes (N:Nat) (B:LkP) (bs:List Int) (root:Int) (lv pr:Value) (R:List Int) (a:Int) (ha:a∉R) (w:World) (h:LookIs w N B bs root lv pr R):
  Calls Tryz.prog 209 #[.pointer (some ⟨B.lb,0,none⟩),.int .u64 a] w fun e w'=>e= .returned (.tuple #[])∧LookIs w' N B bs root lv pr (R++[a])∧Only [B.mb] w w':=by
 have c3:w.cell? ⟨B.lb,3,none⟩=some (.map (some B.mb)):=h.cells.cell 3
 have hlk:=h.set.look a
 rw[decide_eq_false ha] at hlk
 have H:=hid h
 have HA:=hid ha
 have MY:=hid (Must_yes (w.alloc (.cells #[] 147)))
 have h1:LookIs (w.alloc (.cells #[] 147)) N B bs root lv pr R:=H.out.bel (ba (Below.refl _ _) _)
 have d3:(w.alloc (.cells #[] 147)).cell? ⟨B.lb,3,none⟩=some (.map (some B.mb)):=h1.cells.cell 3
 obtain⟨w',hup,hs,ho⟩:=h1.set.put a HA.out
 have HR:=hid (⟨(⟨ho.blk h1.cells (by have:=h1.ne;simp;omega),h1.fix.only ho (by have:=h1.ne;simp;omega) (by have:=h1.ne;simp;omega),hs,h1.ge,h1.ne⟩:LookIs w' N B bs root lv pr (R++[a])),(((Only.refl [B.mb] w).alloc _).trans ho (fun _ h=>Or.inl h):Only [B.mb] w w')⟩:_∧_)
 clear h ha hs ho h1
 go_enter Tryz.func209,Tryz.ntmps209
 go_wp2_with fail
 refine MY.out.mono ?_
 rintro e w1 ⟨rfl,rfl⟩
 go_wp2
 refine bodyPost_end (v:= .tuple #[]) (by simp[results,Tryz.results209,go_sem]) rfl ?_
 exact⟨rfl,HR.out⟩
def errC:List PanicEntry:=[{ v:= .iface 33 (.int .i64 6),recovered:=false }]
theorem LTake_no (N:Nat) (B:LkP) (bs:List Int) (root:Int) (lv pr:Value) (R:List Int) (a:Int) (ha:a∈R) (w:World) (h:LookIs w N B bs root lv pr R):
  Calls Tryz.prog 209 #[.pointer (some ⟨B.lb,0,none⟩),.int .u64 a] w fun e w'=>e= .panicked errC∧Below w.heap.size w w':=by
 have c3:w.cell? ⟨B.lb,3,none⟩=some (.map (some B.mb)):=h.cells.cell 3
 have hlk:=h.set.look a
 rw[decide_eq_true ha] at hlk
 have MN:=hid (Must_no (w.alloc (.cells #[] 147)))
 clear h ha
 go_enter Tryz.func209,Tryz.ntmps209
 go_wp2_with fail
 refine MN.out.mono ?_
 rintro e w1 ⟨rfl,rfl⟩
 exact⟨rfl,rfl,ba (Below.refl _ _) _⟩
theorem words_row {w:World} {wb k:Nat} {bs:List Int} (hb: ∀x∈bs,0≤x∧x<256) (h:WordsAt w wb 0 (wordsN bs)) (hk:k+24≤bs.length/8):w.rangeAt wb k (wordsC (nodeF bs (8*k))).toList:=by
 intro j v hv
 rw[Array.getElem?_toList] at hv
 have hj:j<24:=(Array.getElem?_eq_some_iff.1 hv).1
 rw[wordsC_at _ hj] at hv
 injection hv with hv
 subst hv
 obtain⟨x,hx,hxe,_⟩:=wordsN_at hb (k:=k+j) (by omega)
 have:=h.2 (k+j) x hx
 rw[Nat.zero_add] at this
 rw[this,hxe]
 unfold nodeF wdI wAt
 rw[show((8:Int)*(k:Int)+8*(j:Int)).toNat=8*(k+j) by omega]
theorem nodeF_U64 {bs:List Int} (hb: ∀x∈bs,0≤x∧x<256) (a:Int): ∀i,U64 (nodeF bs a i):=by
 intro i
 unfold U64 nodeF wdI
 have:=leW_bounds (bs:=(bs.drop (a+8*(i:Int)).toNat).take 8) (fun x hx=>hb x (List.mem_of_mem_drop (List.mem_of_mem_take hx)))
 have h8:((bs.drop (a+8*(i:Int)).toNat).take 8).length≤8:=by rw[List.length_take];omega
 have hp:(2:Int)^ (8*((bs.drop (a+8*(i:Int)).toNat).take 8).length)≤2^64:=by
  have hp:=Nat.pow_le_pow_right (n:=2) (by decide) (show 8*((bs.drop (a+8*(i:Int)).toNat).take 8).length≤64 by omega)
  exact_mod_cast hp
 omega
theorem cls3_in {bs:List Int} {a:Int} (h:clsI bs a=3) (h0:0≤a) (hs:0<slabsZ bs.length): ∃k:Nat,a=8*k∧k+24≤bs.length/8∧0<k:=by
 have hn:=slabs_len hs
 unfold clsI at h
 by_cases h1:slabZ a=0∨slabsZ bs.length<slabZ a
 ·rw[if_pos h1] at h;cases h
 ·rw[if_neg h1] at h
  by_cases h2:clsAt bs (slabZ a).toNat≤3∧idxB a (clsAt bs (slabZ a).toNat:Nat)=true
  ·rw[if_pos h2] at h
   have hc:clsAt bs (slabZ a).toNat=3:=by omega
   rw[hc] at h2
   have hi:=h2.2
   unfold idxB at hi
   have hi2:idxZ a 3≠ -1:=by simpa using hi
   unfold idxZ at hi2
   split at hi2
   ·rename_i hh
    have hb:blocksZ 3=5:=by decide
    rw[hb] at hh
    unfold slabZ at h1 hh
    refine⟨(a/8).toNat,?_,?_,?_⟩
    all_goals
     split at h1
     ·omega
     ·omega
   ·exact absurd rfl hi2
  ·rw[if_neg h2] at h;cases h
section
theorem arrLoadAt (v:Value):Instr.loadAt 184 v=ldM 184 v:=rfl
attribute [local go_sem ↓ high] nodeLoadAt nodeLoadVar nodeStoreAt arrLoadAt
attribute [local go_sem] ldM_run lvM_run stM_run
theorem arr_ld {w:World} {wb k:Nat} {f:Nat→Int} (h:w.rangeAt wb k (wordsC f).toList):ldR Tryz.prog 184 (.pointer (some ⟨wb,k,none⟩)) w= .ok (.agg (wordsC f)) w:=by
 have:=run_loadAt_mid (P:=Tryz.prog) w wb k 184 (wordsC f).toList _ h Tryz.underlying184 rfl (by kernel_rfl)
 simpa[ldR] using this
theorem blk_size {w:World} {b:Nat} {t:TypeId} {cs:Array Value} (h:Blk w b t cs):b<w.heap.size:=h.lt
theorem node_set {W:World} {b:Nat} {m:NodeA} (n:NodeA) (h:Blk W b 55 (nodeC m)): ∃W',stR Tryz.prog 55 (.pointer (some ⟨b,0,none⟩)) (.agg (nodeC n)) W= .ok () W'∧Blk W' b 55 (nodeC n)∧Only [b] W W':=by
 refine⟨W.setRow b (nodeC n),h.st (by kernel_rfl) rfl (by kernel_rfl),setRow_heap W b _ _ _ _ h,⟨rfl,rfl,rfl,by simp,fun x hx hn=>setRow_other W b x _ (by simpa using hn)⟩⟩
theorem node_new (W:World) (n:NodeA): ∃W',stR Tryz.prog 55 (.pointer (some ⟨W.heap.size,0,none⟩)) (.agg (nodeC n)) (W.alloc (.cells #[.int .i64 0,.int .u64 0,.int .u64 0,.int .u64 0,.int .u64 0,.int .u64 0,.int .u64 0,.int .u64 0,.int .u64 0,.int .u64 0,.int .u64 0,.int .u64 0,.int .u64 0,.int .u64 0,.int .u64 0,.int .u64 0,.int .u64 0,.int .u64 0,.int .u64 0,.int .u64 0,.int .u64 0] 55))= .ok () W'∧Blk W' W.heap.size 55 (nodeC n)∧Below W.heap.size W W':=by
 obtain⟨W',h1,h2,h3⟩:=node_set n (Blk.new W 55 (nodeC zeroN))
 exact⟨W',h1,h2,(((Only.refl [W.heap.size] W).alloc _).trans h3 (fun _ h=>Or.inl h)).below (by simp) (Nat.le_refl _)⟩
theorem arr24 (b k c:Nat) (w:World):Sem.run Tryz.prog (Instr.arrayAt 184 (.slice (some ⟨b,k,none⟩) 24 c)) w= .ok (.pointer (some ⟨b,k,none⟩)) w:=by kernel_rfl
theorem LNode_yes (N:Nat) (B:LkP) (bs:List Int) (root:Int) (lv pr:Value) (R:List Int) (a:Int) (ha:0≤a∧a≤18446744073709551615) (n:NodeA) (hn:nodeI bs a=some n) (w:World) (h:LookIs w N B bs root lv pr R):
  Calls Tryz.prog 151 #[.pointer (some ⟨B.lb,0,none⟩),.int .u64 a] w fun e w'=>e= .returned (.agg (nodeC n))∧Below w.heap.size w w':=by
 have hcl:clsI bs a=3∧tagN≤wdI bs a∧wdI bs a≤tagN+15:=by
  unfold nodeI at hn;split at hn
  ·assumption
  ·cases hn
 have hne:n=nodeOf (nodeF bs a):=by
  unfold nodeI at hn;rw[if_pos hcl] at hn;injection hn with hn;exact hn.symm
 obtain⟨k,hak,hk,hk0⟩:=cls3_in hcl.1 ha.1 h.fix.some'
 have hln:=h.fix.nums
 have hwc:=h.fix.wc
 obtain⟨W1,hW1⟩: ∃W1,W1=w.alloc (.cells #[.int .i64 0,.int .u64 0,.int .u64 0,.int .u64 0,.int .u64 0,.int .u64 0,.int .u64 0,.int .u64 0,.int .u64 0,.int .u64 0,.int .u64 0,.int .u64 0,.int .u64 0,.int .u64 0,.int .u64 0,.int .u64 0,.int .u64 0,.int .u64 0,.int .u64 0,.int .u64 0,.int .u64 0] 55):=⟨_,rfl⟩
 have hb1:Below w.heap.size w W1:=by rw[hW1];exact ba (Below.refl _ _) _
 have h1:=h.bel hb1
 have k1:Blk W1 w.heap.size 55 (nodeC zeroN):=by rw[hW1];exact Blk.new _ _ _
 have CL:=hid (LClass_z B bs root lv pr a ha W1 h1.fix h1.cells)
 rw[hcl.1] at CL
 have c0: ∀W,Below W1.heap.size W1 W→W.cell? ⟨B.lb,0,none⟩=some (.slice (some ⟨B.wb,0,none⟩) (bs.length/8) B.wc):=fun W hb=>(h1.bel hb).cells.cell 0
 have BL:Hid (∀W,Below W1.heap.size W1 W→Calls Tryz.prog 204 #[.pointer (some ⟨B.lb,0,none⟩),.int .u64 a,.int .i64 3] W fun e w'=>e= .returned (.slice (some ⟨B.wb,k,none⟩) 24 (B.wc-k))∧Below W.heap.size W w'):=hid (fun W (hb:Below W1.heap.size W1 W)=>LBlock_z B.lb B.wb (bs.length/8) B.wc 3 (by omega) a k hak (by show k+8*3≤_;omega) (by omega) hwc W (c0 W hb))
 have LD:=hid (fun W (hb:Below W1.heap.size W1 W)=>arr_ld (words_row h.fix.byte (h1.bel hb).fix.words hk))
 have OF:=hid (fun W=>NOf_z (nodeF bs (8*k)) W (nodeF_U64 h.fix.byte _) (by
  have:=hcl.2
  unfold nodeF
  rw[←hak]
  simpa using this))
 have HN:=hid (show nodeOf (nodeF bs (8*k))=n by rw[hne,hak])
 have MY:=hid Must_yes
 have FI:Hid (∀W,Calls Tryz.prog 88 #[.int .i64 0] W fun e w'=>e= .returned (.bool true)∧W=w'):=hid (fun W=>Fine_z 0 W)
 have HB1:=hid hb1
 have HW1:=hid hW1
 have HK1:=hid k1
 clear h h1 hb1 hW1 k1 hcl hne hln hn hwc c0 hk hk0 hak ha
 go_enter Tryz.func151,Tryz.ntmps151
 go_upto_region 1 with fail
 rw[show w.alloc (.cells #[.int .i64 0,.int .u64 0,.int .u64 0,.int .u64 0,.int .u64 0,.int .u64 0,.int .u64 0,.int .u64 0,.int .u64 0,.int .u64 0,.int .u64 0,.int .u64 0,.int .u64 0,.int .u64 0,.int .u64 0,.int .u64 0,.int .u64 0,.int .u64 0,.int .u64 0,.int .u64 0,.int .u64 0] 55)=W1 from HW1.out.symm]
 go_wp2_with fail
 refine CL.out.mono ?_
 rintro e w2 ⟨rfl,hb2⟩
 have HB2:=hid hb2
 clear hb2
 go_wp2_with fail
 refine(MY.out w2).mono ?_
 rintro e w3 ⟨rfl,rfl⟩
 go_wp2_with fail
 refine(BL.out w2 HB2.out).mono ?_
 rintro e w3 ⟨rfl,hb3⟩
 have HB3:=hid (bx HB2.out hb3)
 clear hb3
 have ld3:=LD.out w3 HB3.out
 have ar3:Sem.run Tryz.prog (Instr.arrayAt 184 (.slice (some ⟨B.wb,k,none⟩) 24 (B.wc-k))) w3= .ok (.pointer (some ⟨B.wb,k,none⟩)) w3:=arr24 B.wb k (B.wc-k) w3
 go_wp2_with fail
 refine(OF.out w3).mono ?_
 rintro e w4 ⟨rfl,hb4⟩
 have HB4:=hid (bx HB3.out hb4)
 clear hb4 ld3 ar3
 rw[HN.out]
 obtain⟨W5,hs5,k5,hb5⟩:=node_new w4 n
 have ld5:=node_ld k5
 have HB5:=hid (bx HB4.out hb5)
 have k5w:Blk W5 w.heap.size 55 (nodeC zeroN):=HK1.out.bel HB5.out
 obtain⟨W6,hs6,k6,ho6⟩:=node_set n k5w
 have HK6:=hid (node_lv k6)
 have HO6:=hid ((HB1.out.trans (HB5.out.mono HB1.out.size)).trans (ho6.below (B:=w.heap.size) (by simp) (by have:=(HB1.out.trans (HB5.out.mono HB1.out.size)).size;omega)))
 clear k5 hb5 k5w k6 ho6
 go_wp2_with fail
 refine(FI.out W5).mono ?_
 rintro e w7 ⟨rfl,rfl⟩
 go_wp2_with fail
 refine(MY.out W5).mono ?_
 rintro e w7 ⟨rfl,rfl⟩
 go_wp2
 refine bodyPost_ret (v:= .agg (nodeC n)) (results_cellv rfl _ _ _ _ rfl HK6.out) rfl ?_
 exact⟨rfl,HO6.out⟩
theorem LNode_no (N:Nat) (B:LkP) (bs:List Int) (root:Int) (lv pr:Value) (R:List Int) (a:Int) (ha:0≤a∧a≤18446744073709551615) (hn:nodeI bs a=none) (w:World) (h:LookIs w N B bs root lv pr R):
  Calls Tryz.prog 151 #[.pointer (some ⟨B.lb,0,none⟩),.int .u64 a] w fun e w'=>e= .panicked errC∧Below w.heap.size w w':=by
 obtain⟨W1,hW1⟩: ∃W1,W1=w.alloc (.cells #[.int .i64 0,.int .u64 0,.int .u64 0,.int .u64 0,.int .u64 0,.int .u64 0,.int .u64 0,.int .u64 0,.int .u64 0,.int .u64 0,.int .u64 0,.int .u64 0,.int .u64 0,.int .u64 0,.int .u64 0,.int .u64 0,.int .u64 0,.int .u64 0,.int .u64 0,.int .u64 0,.int .u64 0] 55):=⟨_,rfl⟩
 have hb1:Below w.heap.size w W1:=by rw[hW1];exact ba (Below.refl _ _) _
 have h1:=h.bel hb1
 have CL:=hid (LClass_z B bs root lv pr a ha W1 h1.fix h1.cells)
 have MN:=hid Must_no
 have MY:=hid Must_yes
 have HB1:=hid hb1
 have HW1:=hid hW1
 by_cases hcl:clsI bs a=3
 ·obtain⟨k,hak,hk,hk0⟩:=cls3_in hcl ha.1 h.fix.some'
  rw[hcl] at CL
  have hln:=h.fix.nums
  have hwc:=h.fix.wc
  have c0: ∀W,Below W1.heap.size W1 W→W.cell? ⟨B.lb,0,none⟩=some (.slice (some ⟨B.wb,0,none⟩) (bs.length/8) B.wc):=fun W hb=>(h1.bel hb).cells.cell 0
  have BL:Hid (∀W,Below W1.heap.size W1 W→Calls Tryz.prog 204 #[.pointer (some ⟨B.lb,0,none⟩),.int .u64 a,.int .i64 3] W fun e w'=>e= .returned (.slice (some ⟨B.wb,k,none⟩) 24 (B.wc-k))∧Below W.heap.size W w'):=hid (fun W (hb:Below W1.heap.size W1 W)=>LBlock_z B.lb B.wb (bs.length/8) B.wc 3 (by omega) a k hak (by show k+8*3≤_;omega) (by omega) hwc W (c0 W hb))
  have LD:=hid (fun W (hb:Below W1.heap.size W1 W)=>arr_ld (words_row h.fix.byte (h1.bel hb).fix.words hk))
  have OF:=hid (fun W=>NOf_no (nodeF bs (8*k)) W (by
   intro hh
   have:nodeI bs a=some (nodeOf (nodeF bs a)):=by
    unfold nodeI
    exact if_pos ⟨hcl,by unfold nodeF at hh;rw[←hak] at hh;simpa using hh⟩
   rw[hn] at this
   cases this))
  have FI:Hid (∀W,Calls Tryz.prog 88 #[.int .i64 11] W fun e w'=>e= .returned (.bool false)∧W=w'):=hid (fun W=>Fine_z 11 W)
  clear h h1 hb1 hW1 hcl hln hn hwc c0 hk hk0 hak ha
  go_enter Tryz.func151,Tryz.ntmps151
  go_upto_region 1 with fail
  rw[show w.alloc (.cells #[.int .i64 0,.int .u64 0,.int .u64 0,.int .u64 0,.int .u64 0,.int .u64 0,.int .u64 0,.int .u64 0,.int .u64 0,.int .u64 0,.int .u64 0,.int .u64 0,.int .u64 0,.int .u64 0,.int .u64 0,.int .u64 0,.int .u64 0,.int .u64 0,.int .u64 0,.int .u64 0,.int .u64 0] 55)=W1 from HW1.out.symm]
  go_wp2_with fail
  refine CL.out.mono ?_
  rintro e w2 ⟨rfl,hb2⟩
  have HB2:=hid hb2
  clear hb2
  go_wp2_with fail
  refine(MY.out w2).mono ?_
  rintro e w3 ⟨rfl,rfl⟩
  go_wp2_with fail
  refine(BL.out w2 HB2.out).mono ?_
  rintro e w3 ⟨rfl,hb3⟩
  have HB3:=hid (bx HB2.out hb3)
  clear hb3
  have ld3:=LD.out w3 HB3.out
  have ar3:Sem.run Tryz.prog (Instr.arrayAt 184 (.slice (some ⟨B.wb,k,none⟩) 24 (B.wc-k))) w3= .ok (.pointer (some ⟨B.wb,k,none⟩)) w3:=arr24 B.wb k (B.wc-k) w3
  go_wp2_with fail
  refine(OF.out w3).mono ?_
  rintro e w4 ⟨rfl,hb4⟩
  have HB4:=hid (bx HB3.out hb4)
  clear hb4 ld3 ar3
  obtain⟨W5,hs5,k5,hb5⟩:=node_new w4 zeroN
  have HB5:=hid (HB1.out.trans ((bx HB4.out hb5).mono HB1.out.size))
  clear k5 hb5
  go_wp2_with fail
  refine(FI.out W5).mono ?_
  rintro e w7 ⟨rfl,rfl⟩
  go_wp2_with fail
  refine(MN.out W5).mono ?_
  rintro e w7 ⟨rfl,rfl⟩
  exact⟨rfl,rfl,HB5.out⟩
 ·have e1:(clsI bs a==3)=false:=by simp[hcl]
  clear h h1 hb1 hW1 hcl ha hn
  go_enter Tryz.func151,Tryz.ntmps151
  go_upto_region 1 with fail
  rw[show w.alloc (.cells #[.int .i64 0,.int .u64 0,.int .u64 0,.int .u64 0,.int .u64 0,.int .u64 0,.int .u64 0,.int .u64 0,.int .u64 0,.int .u64 0,.int .u64 0,.int .u64 0,.int .u64 0,.int .u64 0,.int .u64 0,.int .u64 0,.int .u64 0,.int .u64 0,.int .u64 0,.int .u64 0,.int .u64 0] 55)=W1 from HW1.out.symm]
  go_wp2_with fail
  refine CL.out.mono ?_
  rintro e w2 ⟨rfl,hb2⟩
  have HB2:=hid (HB1.out.trans (hb2.mono HB1.out.size))
  clear hb2
  go_wp2_with fail
  refine(MN.out w2).mono ?_
  rintro e w3 ⟨rfl,rfl⟩
  exact⟨rfl,rfl,HB2.out⟩
end
section
attribute [local go_sem ↓ high] append_shut2
attribute [local go_sem] Oper.semAt_some appM2_run
theorem infoU64:(Tryz.prog.info? 46).map (fun i=>(i.zero,i.size,i.bytes))=some (some (.int .u64 0),1,8):=by kernel_rfl
structure WdI (w:World) (B4 N0:Nat) (bs:List Int) (w5:World) (xs:List Nat) (v:Value) (W:World):Prop where
 blk:Blk W B4 22 #[v]
 own:W.ownsRow N0 46 1 v xs.length (xs.map fun x=> .int .u64 (wAt bs x))
 bel:Below w.heap.size w W
 keep:KeepN [B4] N0 w5 W
theorem WdI.step {w W w9 w5:World} {B4 N0:Nat} {bs:List Int} {xs:List Nat} {v:Value} {x:Nat} {va:Option Addr} {vc:Nat} {tmp:Obj} (hI:WdI w B4 N0 bs w5 xs v W) (hm:w.heap.size≤B4) (hmN:B4<N0) (hN:N0≤W.heap.size) (hwN:w.heap.size≤N0)
  (ho:w9.ownsRow N0 46 1 (.slice va (xs.length+1) vc) (xs.length+1) (xs.map (fun x=> .int .u64 (wAt bs x))++[.int .u64 (wAt bs x)])) (hg:((W.alloc tmp).drew).grownBy w9 v.ownBlock):
  KeepsFrom N0 W (w9.setCell ⟨B4,0,none⟩ (.slice va (xs.length+1) vc))∧KeepN [B4] N0 W (w9.setCell ⟨B4,0,none⟩ (.slice va (xs.length+1) vc))∧WdI w B4 N0 bs w5 (xs++[x]) (.slice va (xs.length+1) vc) (w9.setCell ⟨B4,0,none⟩ (.slice va (xs.length+1) vc)):=by
 have hob: ∀k,v.ownBlock=some k→N0≤k∧ ∃o:Obj,W.heap[k]?=some o∧o.isCells=true:=by
  intro k hk
  rcases hI.own.2 with⟨h1,_⟩ | ⟨g,cap,cur,h1,h2,h3,_⟩
  ·rw[h1] at hk;cases hk
  ·rw[h1] at hk
   have:g=k:=by simpa[Value.ownBlock] using hk
   subst this
   exact⟨h2,_,h3,rfl⟩
 have hob9: ∀k,(Value.slice va (xs.length+1) vc).ownBlock=some k→N0≤k:=by
  intro k hk
  rcases ho.2 with⟨h1,_⟩ | ⟨g,cap,cur,h1,h2,h3,_⟩
  ·rw[h1] at hk;cases hk
  ·rw[h1] at hk
   have:g=k:=by simpa[Value.ownBlock] using hk
   subst this
   exact h2
 have hb:Only v.ownBlock.toList W w9:=((Only.refl _ W).alloc tmp).drew.trans (Only.of_grown (f:=v.ownBlock.toList) hg (fun k hk=>by simp[hk])) (fun x hx=>Or.inl hx)
 have hm9:B4∉v.ownBlock.toList:=fun hc=>by
  have:=(hob B4 (by simpa[Option.mem_toList] using hc)).1
  omega
 have hblk9:=hb.blk hI.blk hm9
 have hall:Only (B4::v.ownBlock.toList) W (w9.setCell ⟨B4,0,none⟩ (.slice va (xs.length+1) vc)):=(hb.mono (fun x hx=>List.mem_cons_of_mem _ hx)).setCell (Or.inl (by simp)) _
 have hk:KeepN [B4] N0 W (w9.setCell ⟨B4,0,none⟩ (.slice va (xs.length+1) vc)):=⟨hall.size,fun k hk hn=>hall.block k (Nat.lt_of_lt_of_le hk hN) (fun hc=>by
  rcases List.mem_cons.1 hc with h | h
  ·exact hn (by simp[h])
  ·have:=(hob k (by simpa[Option.mem_toList] using h)).1
   omega)⟩
 refine⟨⟨hall.size,fun k o hB hk ho=> ?_⟩,hk,⟨hblk9.set_ 0 _,?_,?_,hI.keep.trans hk⟩⟩
 ·refine(hall.block k (Array.getElem?_eq_some_iff.1 hk).1 (fun hc=> ?_)).trans hk
  rcases List.mem_cons.1 hc with h | h
  ·omega
  ·obtain⟨_,o',h1,h2⟩:=hob k (by simpa[Option.mem_toList] using h)
   rw[hk] at h1;cases h1;rw[ho] at h2;cases h2
 ·have h1:(w9.setCell ⟨B4,0,none⟩ (.slice va (xs.length+1) vc)).ownsRow N0 46 1 (.slice va (xs.length+1) vc) (xs.length+1) (xs.map (fun x=> .int .u64 (wAt bs x))++[.int .u64 (wAt bs x)]):=
   ((Only.refl [B4] w9).setCell (Or.inl (by simp)) _).own ho (fun k hk hc=>by
    have:=hob9 k hk
    simp at hc
    omega)
  simpa using h1
 ·refine⟨hall.os.trans hI.bel.os,hall.tape.trans hI.bel.tape,hall.output.trans hI.bel.output,Nat.le_trans hI.bel.size hall.size,fun k hk=> ?_⟩
  refine(hall.block k (Nat.lt_of_lt_of_le hk hI.bel.size) (fun hc=> ?_)).trans (hI.bel.block k hk)
  rcases List.mem_cons.1 hc with h | h
  ·omega
  ·have:=(hob k (by simpa[Option.mem_toList] using h)).1
   omega
theorem WdI.own_from {w:World} {B4 N0 B:Nat} {bs:List Int} {w5:World} (q:Nat) (h1:w.heap.size≤B) (h3:N0≤w5.heap.size) (hB:N0≤B):OwnFrom B (fun(xs:List (Fin q)) W=> ∃v,WdI w B4 N0 bs w5 (xs.map (·.val)) v W):=by
 rintro xs W W' row ⟨v,h⟩ hg hr
 have hr': ∀r,row=some r→ ∃o:Obj,W.heap[r]?=some o∧o.isCells=false:=fun r e=>(hr r e).2
 exact⟨v,h.blk.grown hg (fun e=>by
   obtain⟨o,ho,hn⟩:=hr' B4 e.symm
   have hb:W.heap[B4]?=_:=h.blk
   rw[hb] at ho
   injection ho with ho
   subst ho
   cases hn),own_keep h.own hg hr',⟨hg.os.trans h.bel.os,hg.tape.trans h.bel.tape,hg.output.trans h.bel.output,Nat.le_trans h.bel.size hg.size,fun k hk=>(hg.block k (Nat.lt_of_lt_of_le hk h.bel.size) (fun e=>by have:=(hr k e.symm).1;omega)).trans (h.bel.block k hk)⟩,
  ⟨Nat.le_trans h.keep.size hg.size,fun k hk hn=>by
   by_cases hkw:k<W.heap.size
   ·exact(hg.block k hkw (fun e=>by have:=(hr k e.symm).1;omega)).trans (h.keep.block k hk hn)
   ·exact absurd (Nat.lt_of_lt_of_le hk (Nat.le_trans h3 h.keep.size)) hkw⟩⟩
theorem own_base2 {w:World} {base base':Nat} {e:TypeId} {size n:Nat} {v:Value} {xs:List Value} (h:w.ownsRow base e size v n xs) (hb:base'≤base):w.ownsRow base' e size v n xs:=
 ⟨h.1,h.2.imp id (fun⟨g,cap,cur,h1,h2,h3⟩=>⟨g,cap,cur,h1,Nat.le_trans hb h2,h3⟩)⟩
theorem WWords_in (b off cap:Nat) (q:Nat) (bs:List Int) (hq:bs.length=8*q) (hq1:q≤10000) (hcap:cap≤9223372036854775807) (w:World) (h:BytesIn w (some ⟨b,off,none⟩) cap bs):
  CallsIn Fence.wide 5 Tryz.prog 89 #[.slice (some ⟨b,off,none⟩) (8*q) cap] w fun e W'=> ∃v,e= .returned (.tuple #[v,.int .i64 0])∧W'.ownsRow w.heap.size 46 1 v q ((List.range q).map fun x=> .int .u64 (wAt bs x))∧Below w.heap.size w W':=by
 obtain⟨Z,hZ⟩: ∃Z,Z=8*q:=⟨_,rfl⟩
 rw[←hZ]
 have e0:((Z:Int)% 8 !=0)=false:=by rw[hZ];simp
 have HH:=hid h
 have HQ:=hid hq
 have HZ:=hid hZ
 clear h hq hZ
 refine callsIn_of_wp_marks Tryz.func89 rfl trivial ?_ rfl
 simp only[Tryz.ntmps89,List.size_toArray,List.length_cons,List.length_nil,Nat.reduceAdd,Nat.reduceSub,Array.replicate_succ,Array.replicate_zero,List.push_toArray,List.append_toArray,List.nil_append,List.cons_append]
 gi_wp2_with fail
 refine⟨trivial,(Chunk_make _ _ _ ⟨_,_,_,rfl⟩).mono ?_⟩
 rintro e w1 ⟨rfl,rfl⟩
 gi_wp2_with fail
 generalize hW5:World.alloc _ (Obj.cells #[Value.int IntKind.i64 8] 3)=W5
 obtain⟨B4,hB4⟩: ∃B4,B4=w.heap.size:=⟨_,rfl⟩
 obtain⟨Bs,hBs⟩: ∃Bs,Bs=w.heap.size+1:=⟨_,rfl⟩
 obtain⟨Bn,hBn⟩: ∃Bn,Bn=w.heap.size+1+1:=⟨_,rfl⟩
 rw[←hBn,←hBs,←hB4]
 have hsz:W5.heap.size=w.heap.size+3:=by rw[←hW5];simp
 have hbel:Below w.heap.size w W5:=by rw[←hW5];exact ba (ba (ba (Below.refl _ _) _) _) _
 have hblk:Blk W5 B4 22 #[.slice none 0 0]:=by
  rw[←hW5,hB4]
  exact((Blk.new w _ _).alloc _).alloc _
 have hsc:W5.cell? ⟨Bs,0,none⟩=some (.slice (some ⟨b,off,none⟩) Z cap):=by rw[←hW5,hBs];clear hW5;go_simp
 have hnc:W5.cell? ⟨Bn,0,none⟩=some (.int .i64 8):=by rw[←hW5,hBn];clear hW5;go_simp
 have HB:=hid (⟨hB4,hBs,hBn,hsz⟩:_∧_∧_∧_)
 have HBEL:=hid hbel
 have HBLK:=hid hblk
 have hN0:Bs<W5.heap.size∧Bn<W5.heap.size∧Bs∉ [B4]∧Bn∉ [B4]:=by simp;omega
 have HN0:=hid hN0
 have hqc:8*q≤cap:=by have:=HH.out.1;rw[HQ.out] at this;exact this
 clear hB4 hBs hBn hsz hbel hblk hW5 hN0
 refine wpIn_rangeFunc_ownG rfl (by omega) (gf:=171) (lb:= #[.pointer (some ⟨Bs,0,none⟩),.pointer (some ⟨Bn,0,none⟩)]) rfl trivial (enters_of Tryz.func171 (by kernel_rfl) rfl)
  (Chunk_stops 4 q b off cap (some ⟨b,off,none⟩) [B4] W5.heap.size Bs Bn W5 hqc hcap (fun _=>rfl) HN0.out.1 HN0.out.2.1 HN0.out.2.2.1 HN0.out.2.2.2 (Nat.le_refl _) (by rw[←HZ.out];exact hsc) hnc) KeepN.trans ?hKb (Below.refl _ _) (fun _=>rfl)
  (fun(xs:List (Fin q)) W=> ∃v,WdI w B4 W5.heap.size bs W5 (xs.map (·.val)) v W) (fun _ _ _=>False) ?own (fun _ _ _ _ _ h=>h.elim)
  ?h0
  (fun x=>{ tmps:= #[.slice (some ⟨b,off,none⟩) Z cap,undef,.slice none 0 0,.int .i64 0,.pointer (some ⟨B4,0,none⟩),(.slice (some ⟨b,off+8*x.val,none⟩) 8 8),.slice (some ⟨b,off,none⟩) Z cap,.int .i64 Z,.int .i64 ((Z:Int)% 8),.bool false,.slice (some ⟨b,off,none⟩) Z cap,.func (.func 171) #[] #[.pointer (some ⟨Bs,0,none⟩),.pointer (some ⟨Bn,0,none⟩)],(.slice (some ⟨b,off+8*x.val,none⟩) 8 8),undef,undef,undef,undef,undef,undef],defers:=[] }) ?assign ?body ?done ?stop
 case own=>exact WdI.own_from q HBEL.out.size (Nat.le_refl _) (Nat.le_refl _)
 case hKb=>
  intro W l o o' hl ho hc hw
  exact KeepN.putObj (KeepN.refl _ _ _) hl _
 case h0=>exact⟨_,HBLK.out,⟨rfl,Or.inl ⟨rfl,rfl⟩⟩,HBEL.out,KeepN.refl _ _ _⟩
 case assign=>
  intro l x W K hK
  gi_wp2
  exact hK
 case body=>
  rintro l pre x W ⟨v,hI⟩ hlt
  obtain⟨cs,hcs⟩: ∃cs,cs=(bs.drop (8*x.val)).take 8:=⟨_,rfl⟩
  have hxq:=x.isLt
  have hcl:cs.length=8:=by rw[hcs];have:=HQ.out;simp;omega
  have hbW:BytesIn W (some ⟨b,off,none⟩) cap bs:=bytesBel HH.out hI.bel
  have TA:=fun W' (hb:Below W.heap.size W W')=>WTake_z cs (some ⟨b,off+8*x.val,none⟩) 8 (by omega) W' (by
   rw[hcs]
   exact(bytesBel hbW hb).cut (8*x.val) 8 (by have:=HQ.out;omega))
  rw[hcl] at TA
  have hTA:=hid TA
  obtain⟨y,hy⟩: ∃y,y=leW cs:=⟨_,rfl⟩
  rw[←hy] at hTA
  have HYW:=hid (show y=wAt bs x.val by rw[hy,hcs];rfl)
  obtain⟨plen,hplen⟩: ∃plen,plen=pre.length:=⟨_,rfl⟩
  have hpl2:plen<10001:=by omega
  have hown:=hI.own
  rw[List.length_map,←hplen] at hown
  have hW0:W5.heap.size≤W.heap.size:=hI.keep.size
  have zd0:W.drew.cell? ⟨B4,0,none⟩=some v:=hI.blk.cell 0
  have zd1:(W.alloc (.cells #[.int .u64 y] 46)).drew.cell? ⟨B4,0,none⟩=some v:=(hI.blk.alloc _).cell 0
  have zd2:(W.drew.alloc (.cells #[.int .u64 y] 46)).cell? ⟨B4,0,none⟩=some v:=(hI.blk.alloc _).cell 0
  obtain⟨i0,hi0,hz0,hz1,hz2⟩:=info_parts infoU64
  have hdW:(W.alloc (.cells #[.int .u64 y] 46)).drew.ownsRow W5.heap.size 46 1 v plen ((pre.map (·.val)).map fun x=> .int .u64 (wAt bs x)):=(((Only.refl [] W).alloc _).drew).own hown (by simp)
  obtain⟨v',w9,hA⟩:=run_app (P:=Tryz.prog) ((W.alloc (.cells #[.int .u64 y] 46)).drew) W5.heap.size 22 22 46 i0 (.int .u64 0) 1 8 Tryz.underlying22 hi0 hz0 hz1 hz2 rfl (by decide) v plen _ hdW (.slice (some ⟨W.heap.size,0,none⟩) 1 1) 1 [.int .u64 y] (Or.inr ⟨W.heap.size,0,1,rfl,fun i u hi=>by
   rw[(Blk.new W 46 #[.int .u64 y]).drew.cell (0+i),Nat.zero_add];simpa using hi⟩) rfl (fun u hu=>by rw[List.mem_singleton.1 hu];rfl) (by unfold maxLen;omega) (by omega) (by have:=HB.out;simp;omega)
  have hrun:=hA.run
  have hown9:=hA.own
  have hgr9:=hA.grown
  obtain⟨va9,vc9,rfl⟩:=row_form1 hown9
  have hnm:some B4≠v.ownBlock:=fun e=>by
   rcases hown.2 with⟨h1,_⟩ | ⟨g,cap',cur',h1,h2,_⟩
   ·rw[h1] at e;cases e
   ·rw[h1] at e
    simp[Value.ownBlock] at e
    have:=HB.out
    omega
  have hb9:Blk w9 B4 22 #[v]:=((hI.blk.alloc (.cells #[.int .u64 y] 46)).drew).grown hgr9 hnm
  have zp9:w9.cell? ⟨B4,0,none⟩=some v:=hb9.cell 0
  have zf9:=hb9.frozen 0
  have HI:=hid hI
  have HO9:=hid hown9
  have HG9:=hid hgr9
  have HPL:=hid hplen
  have HW0:=hid hW0
  clear hlt hxq hcs hcl hbW TA hy hplen hpl2 hown hW0 hi0 hz0 hz1 hz2 hdW hA hown9 hgr9 hnm hb9 hI
  gi_wp2_with fail
  refine share (X:= ?X) (fun key=> ?_) ?_
  rotate_left
  ·gi_region_with (first
    | (refine⟨trivial,?_⟩;gi_at_call 168;(with_reducible refine(CallsIn.inRound l (callsIn_wide.2 (hTA.out _ (by repeat(first | (exact Below.refl _ _) | (refine Below.drew ?_)))))).mono ?_);rintro e w1 ⟨rfl,rfl⟩))
   all_goals exact key.out
  gi_wp2
  have hst:=WdI.step (x:=x.val) (tmp:= .cells #[.int .u64 y] 46) HI.out (by have:=HB.out;omega) (by have:=HB.out;omega) HW0.out (by have:=HB.out;omega) (va:=va9) (vc:=vc9) (by rw[List.length_map,←HPL.out,←HYW.out];exact HO9.out) HG9.out
  rw[List.length_map,←HPL.out] at hst
  refine⟨hst.1,hst.2.1,⟨_,by rw[List.map_append];exact hst.2.2⟩⟩
 case done=>
  rintro D xs W hD rfl ⟨v,hI⟩ hK
  have z0:W.cell? ⟨B4,0,none⟩=some v:=hI.blk.cell 0
  have hxl:((List.finRange q).map (·.val))=List.range q:=by apply List.ext_getElem<;>simp
  have hown:=hI.own
  rw[hxl,List.length_range] at hown
  have hpo:Only [D] W (W.putObj D (.deferred none)):=(Only.refl [D] W).putObj (Or.inl (by simp)) _
  have hDc: ∀k,v.ownBlock=some k→k∉ [D]:=by
   intro k hk hm
   obtain⟨cs,t,fr,hc⟩:=own_cells hown k hk
   rw[List.mem_singleton] at hm
   subst hm
   rw[hc] at hK
   cases hK
  have hown2:=hpo.own hown hDc
  have hbel2:Below w.heap.size w (W.putObj D (.deferred none)):=hI.bel.trans (hpo.below (fun x hx=>by rw[List.mem_singleton.1 hx];have:=HB.out;omega) hI.bel.size)
  have HR:=hid (⟨hown2,hbel2⟩:_∧_)
  have HKK:=hid hK
  clear hI hown hpo hDc hown2 hbel2 hxl hK
  gi_wp2
  refine postM_ret (v:= .tuple #[v,.int .i64 0]) HKK.out (by simp[results,Tryz.results89,go_sem]) ?_
  exact⟨v,rfl,own_base2 HR.out.1 (by have:=HB.out;omega),HR.out.2⟩
 case stop=>exact fun _ _ _ _ _ _ h=>h.elim
theorem WWords_z (b off cap:Nat) (q:Nat) (bs:List Int) (hq:bs.length=8*q) (hq1:q≤10000) (hcap:cap≤9223372036854775807) (w:World) (h:BytesIn w (some ⟨b,off,none⟩) cap bs):
  Calls Tryz.prog 89 #[.slice (some ⟨b,off,none⟩) (8*q) cap] w fun e W'=> ∃v,e= .returned (.tuple #[v,.int .i64 0])∧W'.ownsRow w.heap.size 46 1 v q ((List.range q).map fun x=> .int .u64 (wAt bs x))∧Below w.heap.size w W':=
 callsIn_wide.1 (WWords_in b off cap q bs hq hq1 hcap w h)
end
theorem clsAt_wAt (bs:List Int) (i:Nat):clsAt bs i=(wAt bs (128*i)).toNat:=by
 unfold clsAt wAt
 rw[show 8*(128*i)=1024*i by omega]
theorem bitAt_wAt (bs:List Int) (i:Nat):bitAt bs i=(wAt bs (128*i+1)).toNat:=by
 unfold bitAt wAt
 rw[show 8*(128*i+1)=1024*i+8 by omega]
theorem head_info: ∃i,Tryz.prog.info? 151=some i∧i.zero=some (.agg #[.int .i64 0,.int .u64 0])∧i.size=2∧i.bytes=16:=by
 have h:(Tryz.prog.info? 151).map (fun i=>(i.zero,i.size,i.bytes))=some (some (.agg #[.int .i64 0,.int .u64 0]),2,16):=by kernel_rfl
 obtain⟨i,hi,hz⟩:=Option.map_eq_some_iff.1 h
 simp only[Prod.mk.injEq] at hz
 exact⟨i,hi,hz.1,hz.2.1,hz.2.2⟩
structure HdsI (bs:List Int) (N i:Nat) (cs:Array Value):Prop where
 size:cs.size=N*2
 get: ∀k,k<N→cs[k*2]?=some (.int .i64 (if k<i then((hclsI bs k:Nat):Int) else 0))∧cs[k*2+1]?=some (.int .u64 (if k<i then((hbitI bs k:Nat):Int) else 0))
theorem run_heads (bs:List Int) (n:Nat) (hn:n≤1000) (w:World): ∃cs,(Instr.makeSlice 138 (.int .i64 (n:Int)) (.int .i64 (n:Int))).run Tryz.prog w= .ok (.slice (some ⟨w.heap.size,0,none⟩) n n) (w.alloc (.cells cs 151))∧HdsI bs n 1 cs:=by
 obtain⟨i,h1,h2,h3,h4⟩:=head_info
 have:=run_make (P:=Tryz.prog) w 138 151 i _ Tryz.underlying138 h1 h2 .i64 .i64 (n:Int) (n:Int) (by omega) (Int.le_refl _) (by rw[h4];omega) (by omega)
 rw[Int.toNat_natCast,h3] at this
 refine⟨_,this,?_,fun k hk=> ?_⟩
 ·rw[size_madeCells]
 ·have e: ∀j,j<n*2→(madeCells (Value.agg #[.int .i64 0,.int .u64 0]).cells (n*2))[j]?=some (if j % 2=0 then .int .i64 0 else .int .u64 0):=by
   intro j hj
   rw[Array.getElem?_eq_getElem (by rw[size_madeCells];exact hj)]
   congr 1
   simp only[madeCells,Array.getElem_map,Array.getElem_range]
   have hc:(Value.agg #[.int .i64 0,.int .u64 0]).cells= #[.int .i64 0,.int .u64 0]:=rfl
   rw[hc]
   have h3:j % 2=0∨j % 2=1:=by omega
   rcases h3 with h3 | h3
   ·simp[h3]
   ·simp[h3]
  have h1:((if k<1 then((hclsI bs k:Nat):Int) else 0)=0)∧((if k<1 then((hbitI bs k:Nat):Int) else 0)=0):=by
   by_cases h0:k<1
   ·have:k=0:=by omega
    subst this
    exact⟨rfl,rfl⟩
   ·rw[if_neg h0,if_neg h0];exact⟨rfl,rfl⟩
  rw[h1.1,h1.2,e (k*2) (by omega),e (k*2+1) (by omega),if_pos (show k*2 % 2=0 by omega),if_neg (show ¬(k*2+1)% 2=0 by omega)]
  exact⟨rfl,rfl⟩
def slabsOK (bs:List Int):Prop:=0<slabsZ bs.length∧ ∀i,1≤i→i<nsI bs+1→headOK bs i=true
structure SlbI (bs:List Int) (w:World) (B:LkP) (i:Nat) (cs:Array Value) (W:World):Prop where
 cells:Blk W B.lb 142 (lookC B bs 0 (.slice none 0 0) (.slice none 0 0))
 words:WordsAt W B.wb 0 (wordsN bs)
 heads:Blk W B.hb 151 cs
 hds:HdsI bs (nsI bs+1) i cs
 set:SetIs W B.mb []
 ge:w.heap.size≤B.lb∧w.heap.size≤B.wb∧w.heap.size≤B.hb∧w.heap.size≤B.mb
 ne:B.lb≠B.wb∧B.lb≠B.hb∧B.lb≠B.mb∧B.wb≠B.hb∧B.wb≠B.mb∧B.hb≠B.mb
 wc:bs.length/8≤B.wc
 ok: ∀k,1≤k→k<i→headOK bs k=true
 bel:Below w.heap.size w W
theorem SlbI.bel' {bs:List Int} {w:World} {B:LkP} {i:Nat} {cs:Array Value} {W W':World} (h:SlbI bs w B i cs W) (hb:Below W.heap.size W W'):SlbI bs w B i cs W':=
 ⟨h.cells.bel hb,h.words.bel hb,h.heads.bel hb,h.hds,h.set.only (Only.of_below hb []) (by simp),h.ge,h.ne,h.wc,h.ok,bx h.bel hb⟩
theorem SlbI.step {bs:List Int} {w:World} {B:LkP} {i:Nat} {cs:Array Value} {W:World} (h:SlbI bs w B i cs W) (hi:1≤i) (hok:headOK bs i=true):SlbI bs w B (i+1) ((cs.setIfInBounds (i*2) (.int .i64 (clsAt bs i:Nat))).setIfInBounds (i*2+1) (.int .u64 (bitAt bs i:Nat))) ((W.setCell ⟨B.hb,i*2,none⟩ (.int .i64 (clsAt bs i:Nat))).setCell ⟨B.hb,i*2+1,none⟩ (.int .u64 (bitAt bs i:Nat))):=by
 have ho:Only [B.hb] W ((W.setCell ⟨B.hb,i*2,none⟩ (.int .i64 (clsAt bs i:Nat))).setCell ⟨B.hb,i*2+1,none⟩ (.int .u64 (bitAt bs i:Nat))):=((Only.refl _ W).setCell (Or.inl (by simp)) _).setCell (Or.inl (by simp)) _
 have hne:=h.ne
 have hsz:=h.hds.size
 refine⟨ho.blk h.cells (by simp;omega),⟨Nat.lt_of_lt_of_le h.words.1 ho.size,fun j x hj=>(ho.cell (p:=⟨B.wb,0+j,none⟩) h.words.1 (by simp;omega)).trans (h.words.2 j x hj)⟩,(h.heads.set_ _ _).set_ _ _,⟨by simp[hsz],fun k hk=> ?_⟩,h.set.only ho (by simp;omega),h.ge,hne,h.wc,fun k h1 h2=> ?_,h.bel.trans (ho.below (fun y hy=>by rw[List.mem_singleton.1 hy];exact h.ge.2.2.1) h.bel.size)⟩
 ·have hg:=h.hds.get k hk
  by_cases hki:k=i
  ·subst hki
   have e1:hclsI bs k=clsAt bs k:=by unfold hclsI;rw[if_neg (by omega)]
   have e2:hbitI bs k=bitAt bs k:=by unfold hbitI;rw[if_neg (by omega)]
   rw[if_pos (by omega),if_pos (by omega),e1,e2]
   constructor
   ·rw[Array.getElem?_setIfInBounds_ne (by omega),Array.getElem?_setIfInBounds_self_of_lt (by omega)]
   ·rw[Array.getElem?_setIfInBounds_self_of_lt (by simp;omega)]
  ·rw[Array.getElem?_setIfInBounds_ne (by omega),Array.getElem?_setIfInBounds_ne (by omega),Array.getElem?_setIfInBounds_ne (by omega),Array.getElem?_setIfInBounds_ne (by omega),hg.1,hg.2]
   by_cases hlt:k<i
   ·rw[if_pos hlt,if_pos hlt,if_pos (by omega),if_pos (by omega)];exact⟨rfl,rfl⟩
   ·rw[if_neg hlt,if_neg hlt,if_neg (by omega),if_neg (by omega)];exact⟨rfl,rfl⟩
 ·by_cases hki:k=i
  ·rw[hki];exact hok
  ·exact h.ok k h1 (by omega)
theorem SlbI.done {bs:List Int} {w:World} {B:LkP} {cs:Array Value} {W:World} (h:SlbI bs w B (nsI bs+1) cs W) (hs:0<slabsZ bs.length) (hb: ∀x∈bs,0≤x∧x<256):slabsOK bs∧LookIs W w.heap.size B bs 0 (.slice none 0 0) (.slice none 0 0) []:=
 ⟨⟨hs,h.ok⟩,h.cells,⟨h.words,h.wc,h.heads.lt,fun i hi=>by
  have hg:=h.hds.get i hi
  rw[if_pos hi,if_pos hi] at hg
  rw[h.heads.cell,h.heads.cell];exact hg,h.ok,hs,hb⟩,h.set,h.ge,h.ne⟩
theorem LSlabs_no0 (p:Option Addr) (n cap:Nat) (hn:n≤1000000) (hs: ¬0<slabsZ n) (w:World):
  Calls Tryz.prog 149 #[.slice p n cap] w fun e w'=>e= .panicked errC∧Below w.heap.size w w':=by
 have SL:=hid (Slabs_z n w (by omega) (by omega))
 rw[decide_eq_false hs] at SL
 have MN:=hid (Must_no w)
 clear hs
 go_enter Tryz.func149,Tryz.ntmps149
 go_wp2_with fail
 refine SL.out.mono ?_
 rintro e w1 ⟨rfl,rfl⟩
 go_wp2_with fail
 refine MN.out.mono ?_
 rintro e w1 ⟨rfl,rfl⟩
 exact⟨rfl,rfl,Below.refl _ _⟩
theorem LSlabs_z (b off cap:Nat) (bs:List Int) (n:Nat) (hn:n=bs.length) (hcap:cap≤9223372036854775807) (hs:0<slabsZ bs.length) (w:World) (h:BytesIn w (some ⟨b,off,none⟩) cap bs):
  Calls Tryz.prog 149 #[.slice (some ⟨b,off,none⟩) n cap] w fun e w'=>
   (slabsOK bs∧ ∃B,e= .returned (.pointer (some ⟨B.lb,0,none⟩))∧LookIs w' w.heap.size B bs 0 (.slice none 0 0) (.slice none 0 0) []∧Below w.heap.size w w')∨
   (¬slabsOK bs∧e= .panicked errC∧Below w.heap.size w w'):=by
 have hl:=slabs_len hs
 have hns:((nsI bs:Nat):Int)=slabsZ bs.length:=by unfold nsI;omega
 have hnb:nsI bs+1=bs.length/1024:=hl.2.1
 obtain⟨N,hN⟩: ∃N,N=nsI bs:=⟨_,rfl⟩
 have SL:Hid (Calls Tryz.prog 82 #[.int .i64 n] w fun e w'=>e= .returned (.tuple #[.int .i64 (N:Int),.bool true])∧w=w'):=by
  have:=Slabs_z n w (by omega) (by omega)
  rw[hn,decide_eq_true hs,←hns,←hN,←hn] at this
  exact this
 have hq:n=8*(bs.length/8):=by omega
 have WW:=WWords_z b off cap (bs.length/8) bs (by omega) (by omega) hcap w h
 rw[←hq] at WW
 have HWW:=hid WW
 have MY:=hid Must_yes
 have MN:=hid Must_no
 have FI:Hid (∀W,Calls Tryz.prog 88 #[.int .i64 0] W fun e w'=>e= .returned (.bool true)∧W=w'):=hid (fun W=>Fine_z 0 W)
 have HN:=hid hN
 have HL:=hid (⟨hl,hn,hns⟩:_∧_∧_)
 have HBY:=hid h.2.1
 have i1:IntKind.i64.wrap (1+(N:Int))=((N+1:Nat):Int):=by rw[IntWalk.i64_in _ (by omega)];omega
 have hN64:N≤64:=by omega
 have hmk: ∀W:World,(Instr.makeMap 139 none).run Tryz.prog W= .ok (.map (some W.heap.size)) (W.alloc (.map #[] 0)):=fun W=>by
  simp[Instr.makeMap,run_underlying Tryz.underlying139]
 clear hs hl hn hns hnb hN hq WW h
 go_enter Tryz.func149,Tryz.ntmps149
 go_wp2_with fail
 refine SL.out.mono ?_
 rintro e w1 ⟨rfl,rfl⟩
 go_wp2_with fail
 refine(MY.out w).mono ?_
 rintro e w1 ⟨rfl,rfl⟩
 go_wp2_with fail
 refine HWW.out.mono ?_
 rintro e w1 ⟨v,rfl,hrow,hb1⟩
 go_wp2_with fail
 refine(FI.out w1).mono ?_
 rintro e w2 ⟨rfl,rfl⟩
 go_wp2_with fail
 refine(MY.out w1).mono ?_
 rintro e w2 ⟨rfl,rfl⟩
 obtain⟨cs0,hmh,hcs0⟩:=run_heads bs (N+1) (by omega) w1
 have hmm:=hmk (w1.alloc (.cells cs0 151))
 clear hmk
 rw[show(((N+1:Nat):Int))=(N:Int)+1 by omega] at hmh
 have hq0:0<bs.length/8:=by have:=HL.out.1;omega
 obtain⟨wb,wc,rfl,hwb,hwc,hwl,hws⟩:=own_some hrow hq0
 have hW:WordsAt w1 wb 0 (wordsN bs):=by
  refine⟨hwl,fun i x hi=> ?_⟩
  have hk:i<bs.length/8:=by have:=(List.getElem?_eq_some_iff.1 hi).1;rwa[wordsN_len] at this
  obtain⟨y,hy,hyw,_⟩:=wordsN_at HBY.out hk
  rw[hy] at hi
  injection hi with hi
  subst hi
  rw[hyw]
  exact hws i _ (by rw[List.getElem?_map,List.getElem?_range hk];rfl)
 obtain⟨W4,hW4⟩: ∃W4,W4=((w1.alloc (.cells cs0 151)).alloc (.map #[] 0)).alloc (.cells #[.slice (some ⟨wb,0,none⟩) (bs.length/8) wc,.slice (some ⟨w1.heap.size,0,none⟩) (N+1) (N+1),.int .u64 0,.map (some (w1.heap.size+1)),.slice none 0 0,.slice none 0 0] 142):=⟨_,rfl⟩
 obtain⟨B,hB⟩: ∃B:LkP,B=⟨w1.heap.size+1+1,wb,wc,w1.heap.size,N+1,w1.heap.size+1⟩:=⟨_,rfl⟩
 have h1s:=hb1.size
 have hI0:Hid (SlbI bs w B 1 cs0 W4):=by
  have a1:Below w1.heap.size w1 W4:=by rw[hW4];exact ba (ba (ba (Below.refl _ _) _) _) _
  have a2:Blk W4 w1.heap.size 151 cs0:=by rw[hW4];exact((Blk.new _ _ _).alloc _).alloc _
  have a3:Blk W4 (w1.heap.size+1+1) 142 #[.slice (some ⟨wb,0,none⟩) (bs.length/8) wc,.slice (some ⟨w1.heap.size,0,none⟩) (N+1) (N+1),.int .u64 0,.map (some (w1.heap.size+1)),.slice none 0 0,.slice none 0 0]:=by
   rw[hW4]
   have:=Blk.new ((w1.alloc (.cells cs0 151)).alloc (.map #[] 0)) 142 #[.slice (some ⟨wb,0,none⟩) (bs.length/8) wc,.slice (some ⟨w1.heap.size,0,none⟩) (N+1) (N+1),.int .u64 0,.map (some (w1.heap.size+1)),.slice none 0 0,.slice none 0 0]
   rw[World.size_alloc,World.size_alloc] at this
   exact this
  have a4:SetIs W4 (w1.heap.size+1) []:=by
   refine⟨#[],0,?_,rfl,by simp[BornU]⟩
   rw[hW4,Below.heap_alloc _ _ _ (by simp)]
   have:=heap_alloc_new (w1.alloc (.cells cs0 151)) (.map #[] 0)
   rwa[World.size_alloc] at this
  rw[hB]
  refine⟨by unfold lookC;rw[←HN.out];exact a3,hW.bel a1,a2,by rw[←HN.out];exact hcs0,a4,⟨?_,?_,?_,?_⟩,⟨?_,?_,?_,?_,?_,?_⟩,hwc,fun k h1 h2=>by omega,bx hb1 a1⟩
  all_goals(dsimp only;omega)
 have HW4:=hid hW4
 have HBB:=hid hB
 clear hrow hcs0 hwb hwl hws hW h1s hb1 hB hW4 hwc hq0
 go_upto_region 6 with fail
 rw[←HW4.out]
 rw[show w1.heap.size+1+1=B.lb by rw[HBB.out]]
 have hN1:1≤N:=by have:=HL.out;have:=HN.out;omega
 go_wp2
 go_loopw [8,9,10] (fun iv s9 s10 wr=> ∃(i:Nat) (cs:Array Value),1≤i∧i≤N+1∧iv= .int .i64 i∧Hid (SlbI bs w B i cs wr)) (fun iv _ _ _=>N+1- (intOf iv).toNat)
 case atStart=>exact⟨1,cs0,Nat.le_refl _,by omega,rfl,hI0⟩
 case round=>
  obtain⟨i,cs,hi1,hiN,rfl,hI⟩:=hrel
  by_cases hle:i≤N
  ·have j0:(i:Int)≤(N:Int):=by omega
   have hbl:128*i+1<bs.length/8:=by have:=HL.out;have:=HN.out;omega
   obtain⟨x,hx,hxw,hx64⟩:=wordsN_at HBY.out (show 128*i<bs.length/8 by omega)
   obtain⟨y,hy,hyw,hy64⟩:=wordsN_at HBY.out hbl
   have hcx:clsAt bs i=x:=by rw[clsAt_wAt];omega
   have hby:bitAt bs i=y:=by rw[bitAt_wAt];omega
   have hhz:headerZ (i:Int)=8*((128*i:Nat):Int):=by unfold headerZ;rw[if_pos (by omega)];omega
   have hbz:bitsZ (i:Int)=8*((128*i+1:Nat):Int):=by unfold bitsZ;rw[if_pos (by omega)];omega
   have HZ:=hid (Header_z (i:Int) wr)
   have BZ:=hid (Bits_z (i:Int) wr)
   rw[hhz] at HZ
   rw[hbz] at BZ
   have c0:wr.cell? ⟨B.lb,0,none⟩=some (.slice (some ⟨B.wb,0,none⟩) (bs.length/8) B.wc):=hI.out.cells.cell 0
   have A1:=hid (LAt_z B.lb B.wb (bs.length/8) B.wc (wordsN bs) (wordsN_len bs).symm (by have:=HL.out;omega) (128*i) x hx _ rfl wr c0 hI.out.words)
   have A2:=hid (LAt_z B.lb B.wb (bs.length/8) B.wc (wordsN bs) (wordsN_len bs).symm (by have:=HL.out;omega) (128*i+1) y hy _ rfl wr c0 hI.out.words)
   have HXY:=hid (⟨hcx,hby,hx64,hy64⟩:_∧_∧_∧_)
   have HI1:=hid hi1
   have HLE:=hid hle
   clear hbl hx hy hxw hyw hhz hbz c0 hcx hby hi1 hiN hle hy64
   by_cases hx3:x≤3
   ·have t1:(x:Int)≤3:=by omega
    have xw:IntKind.i64.wrap (x:Int)=(x:Int):=IntWalk.i64_in _ (by omega)
    have BK:=hid (Blocks_z (x:Int) wr)
    obtain⟨bz,hbz⟩: ∃bz,bz=blocksZ (x:Int):=⟨_,rfl⟩
    rw[←hbz] at BK
    have MB:=hid (fun W=>May_z y bz HXY.out.2.2.2 W)
    obtain⟨mb,hmb⟩: ∃mb,mb=mayBits y bz:=⟨_,rfl⟩
    have hMBe:=MB.out
    rw[←hmb] at hMBe
    have MB:=hid hMBe
    have HOK:=hid (show headOK bs i=mb by unfold headOK;rw[HXY.out.1,HXY.out.2.1,decide_eq_true hx3,←hbz,←hmb];rfl)
    clear hx3 hbz hmb hMBe hx64
    go_wp2_with fail
    refine HZ.out.mono ?_
    rintro e w2 ⟨rfl,rfl⟩
    go_wp2_with fail
    refine A1.out.mono ?_
    rintro e w2 ⟨rfl,rfl⟩
    go_wp2_with fail
    refine BZ.out.mono ?_
    rintro e w2 ⟨rfl,rfl⟩
    go_wp2_with fail
    refine A2.out.mono ?_
    rintro e w2 ⟨rfl,rfl⟩
    go_wp2_with fail
    refine BK.out.mono ?_
    rintro e w2 ⟨rfl,hb2⟩
    go_wp2_with fail
    refine(MB.out w2).mono ?_
    rintro e w3 ⟨rfl,hb3⟩
    have hI3:=hid (hI.out.bel' (bx hb2 hb3))
    clear hb2 hb3 A1 A2 HZ BZ BK MB
    cases mb
    ·go_wp2_with fail
     refine(MN.out w3).mono ?_
     rintro e w4 ⟨rfl,rfl⟩
     refine⟨rfl,Or.inr ⟨fun hok=> ?_,rfl,hI3.out.bel⟩⟩
     have:=hok.2 i HI1.out (by have:=HLE.out;have:=HN.out;omega)
     rw[HOK.out] at this
     cases this
    ·go_wp2_with fail
     refine(MY.out w3).mono ?_
     rintro e w4 ⟨rfl,rfl⟩
     have c1:w3.cell? ⟨B.lb,1,none⟩=some (.slice (some ⟨B.hb,0,none⟩) (nsI bs+1) B.hc):=hI3.out.cells.cell 1
     rw[←HN.out] at c1
     have hsz:=hI3.out.hds.size
     rw[←HN.out] at hsz
     obtain⟨u0,hu0⟩: ∃u,cs[i*2]?=some u:=⟨_,Array.getElem?_eq_getElem (by have:=HLE.out;omega)⟩
     obtain⟨u1,hu1⟩: ∃u,cs[i*2+1]?=some u:=⟨_,Array.getElem?_eq_getElem (by have:=HLE.out;omega)⟩
     have f0:w3.cell? ⟨B.hb,i*2,none⟩=some u0:=(hI3.out.heads.cell _).trans hu0
     have f1:w3.cell? ⟨B.hb,i*2+1,none⟩=some u1:=(hI3.out.heads.cell _).trans hu1
     have z0:w3.frozen? ⟨B.hb,i*2,none⟩=false:=hI3.out.heads.frozen _
     have z1:w3.frozen? ⟨B.hb,i*2+1,none⟩=false:=hI3.out.heads.frozen _
     have k0:(0:Int)≤(i:Int):=by omega
     have k1:(i:Int)< (N:Int)+1:=by omega
     have HSZ:=hid hsz
     clear hsz hu0 hu1
     have hS:=hI3.out.step HI1.out HOK.out
     rw[HXY.out.1,HXY.out.2.1] at hS
     have HS:=hid hS
     clear hS
     go_wp2
     go_roundw
     case rel=>exact⟨i+1,_,by omega,by have:=HLE.out;omega,by go_num,HS⟩
     case measure=>simp[intOf];have:=HLE.out;omega
   ·have t1: ¬(x:Int)≤3:=by omega
    have HOK:=hid (show headOK bs i=false by unfold headOK;rw[HXY.out.1,decide_eq_false hx3];rfl)
    clear hx3 hx64
    go_wp2_with fail
    refine HZ.out.mono ?_
    rintro e w2 ⟨rfl,rfl⟩
    go_wp2_with fail
    refine A1.out.mono ?_
    rintro e w2 ⟨rfl,rfl⟩
    go_wp2_with fail
    refine BZ.out.mono ?_
    rintro e w2 ⟨rfl,rfl⟩
    go_wp2_with fail
    refine A2.out.mono ?_
    rintro e w2 ⟨rfl,rfl⟩
    go_wp2_with fail
    refine(MN.out wr).mono ?_
    rintro e w4 ⟨rfl,rfl⟩
    refine⟨rfl,Or.inr ⟨fun hok=> ?_,rfl,hI.out.bel⟩⟩
    have:=hok.2 i HI1.out (by have:=HLE.out;have:=HN.out;omega)
    rw[HOK.out] at this
    cases this
  ·obtain rfl:i=N+1:=by omega
   have j0: ¬(((N+1:Nat):Int))≤(N:Int):=by omega
   have hD:=hI.out
   have hnn:N+1=nsI bs+1:=by rw[HN.out]
   rw[hnn] at hD
   have HD:=hid (hD.done (by have:=HL.out;omega) HBY.out)
   clear hle hiN hi1 hnn hD
   go_wp2
   go_ret
   exact Or.inl ⟨HD.out.1,B,rfl,HD.out.2,hI.out.bel⟩
end Go.Proofs.YtibiekfjbibpbaaGreat
