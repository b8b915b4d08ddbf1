import Derived.Test.YtjmaicckkkdjpaaGreatF36
import Derived.Carry
import Derived.MapKept
import Derived.RangeFuncRecord
import Derived.Lib.MinMax
import Derived.Stop.RegionWithIn
import Derived.RangeFuncNested
import Derived.RangeFuncBound
import Derived.RangeFuncCalls
import Derived.RangeFuncLeaves
import Derived.RangeFuncBox
import Derived.Shelf.Abstract
import Derived.Shelf.RegionOpen
import Derived.OwnWalkIn
import Derived.TacticsInMore
import Derived.LoopNIn
import Derived.LoopIn
import Derived.Maps.OwnIn
import Derived.Maps.AppendAt
import Derived.Maps.RangeRun
import Derived.RangeFuncSeq
import Derived.Deep.Cut
import Derived.RegionTactic
import Derived.Deep.RegionWith
import Derived.Deep.RegionLaw
import Derived.Deep.QuietTactic
import Derived.Deep.RegionHeld3
import Derived.BigQuiet
import Derived.StillTailTactics
import Derived.WalkMore
import Derived.WalkLawsBesides
import Derived.Deep.MidRow
import Derived.Laws.CopyRow
import Derived.Laws.Tables
import Derived.Laws.ResultCell
import Derived.Laws.Rows
import Derived.RangeFuncWrites
set_option maxRecDepth 100000
set_option maxHeartbeats 2000000
set_option linter.unusedVariables false
set_option linter.unusedSimpArgs false
/- Maps whose keys are addresses: looked up, turned, let go. Of no program. -/
namespace Go.Proofs.YtjmaicckkkdjpaaGreat
open Go.RowKit
section
variable {P:Program}
theorem run_check_u64 (w:World) (kt:TypeId) (hk:P.underlying kt=some (.int .u64)) (k:Int) (b:Bool) (n:Nat):(Instr.checkKey b (n+1) kt (.int .u64 k)).run P w= .ok () w:=by
 unfold Instr.checkKey
 simp[run_underlying hk,Result.andThen]
theorem findU_none {k:Int}: ∀{es:List MapEntry} {i:Nat},(∀e∈es,∃x,e.key= .int .u64 x∧x≠k)→Instr.findNow (.int .u64) (.int .u64 k) es i=some none
 | [],i,_=>rfl
 | e::es,i,h=>by
  obtain⟨x,hx,hne⟩:=h e (List.mem_cons_self ..)
  unfold Instr.findNow
  rw[hx]
  have hb:(k==x)=false:=by simpa using fun hc:k=x=>hne hc.symm
  simp only[Instr.sameNow,if_true,hb]
  exact findU_none fun e he=>h e (List.mem_cons_of_mem _ he)
theorem findU_at {k:Int} {e:MapEntry} {post:List MapEntry} (he:e.key= .int .u64 k): ∀{pre:List MapEntry} {i:Nat},(∀e∈pre,∃x,e.key= .int .u64 x∧x≠k)→Instr.findNow (.int .u64) (.int .u64 k) (pre++e::post) i=some (some (i+pre.length,e.val))
 | [],i,_=>by
  unfold Instr.findNow
  simp[he,Instr.sameNow]
 | d::pre,i,h=>by
  obtain⟨x,hx,hne⟩:=h d (List.mem_cons_self ..)
  rw[List.cons_append]
  unfold Instr.findNow
  rw[hx]
  have hb:(k==x)=false:=by simpa using fun hc:k=x=>hne hc.symm
  simp only[Instr.sameNow,if_true,hb]
  rw[findU_at he fun e he=>h e (List.mem_cons_of_mem _ he)]
  simp;omega
theorem run_findU {w:World} {kt:TypeId} (hk:P.underlying kt=some (.int .u64)) {k:Int} {es:List MapEntry} {r:Option (Nat×Value)} (hf:Instr.findNow (.int .u64) (.int .u64 k) es 0=some r):(Instr.findKey kt (.int .u64 k) es).run P w= .ok r w:=by
 unfold Instr.findKey
 simp[run_underlying hk,hf,Result.andThen]
theorem run_updU_new (w:World) (t kt vt:TypeId) (hu:P.underlying t=some (.map kt vt)) (hk:P.underlying kt=some (.int .u64)) (r:Nat) (es:Array MapEntry) (clock:Nat) (hb:w.heap[r]?=some (.map es clock)) (k:Int) (v:Value)
  (hf:Instr.findNow (.int .u64) (.int .u64 k) es.toList 0=some none):
  (Instr.mapUpdate t (.map (some r)) (.int .u64 k) v).run P w= .ok () (w.putObj r (.map (es.push { key:= .int .u64 k,val:=v,born:=clock }) (clock+1))):=by
 have hg:(getObj r).run P w= .ok (.map es clock) w:=by simp[getObj,Sem.run,hb]
 have hs:(setObj r (.map (es.push { key:= .int .u64 k,val:=v,born:=clock }) (clock+1))).run P w= .ok () (w.putObj r (.map (es.push { key:= .int .u64 k,val:=v,born:=clock }) (clock+1))):=by simp[setObj,Sem.run,hb,World.putObj]
 have hc:=run_check_u64 w kt hk k false 9999
 have hfk:=run_findU (w:=w) hk hf
 unfold Instr.mapUpdate
 simp only[Sem.run_bind,run_underlying hu,hg,hc,hfk,hs,Result.andThen]
theorem run_updU_old (w:World) (t kt vt:TypeId) (hu:P.underlying t=some (.map kt vt)) (hk:P.underlying kt=some (.int .u64)) (r:Nat) (es:Array MapEntry) (clock:Nat) (hb:w.heap[r]?=some (.map es clock)) (k:Int) (v:Value) (i:Nat) (v0:Value)
  (hf:Instr.findNow (.int .u64) (.int .u64 k) es.toList 0=some (some (i,v0))) (hi:(es[i]?).map (·.key)=some (.int .u64 k)):
  (Instr.mapUpdate t (.map (some r)) (.int .u64 k) v).run P w= .ok () (w.putObj r (.map (es.modify i fun e=>{ e with key:= .int .u64 k,val:=v }) clock)):=by
 have hg:(getObj r).run P w= .ok (.map es clock) w:=by simp[getObj,Sem.run,hb]
 have hs:(setObj r (.map (es.modify i fun e=>{ e with key:= .int .u64 k,val:=v }) clock)).run P w= .ok () (w.putObj r (.map (es.modify i fun e=>{ e with key:= .int .u64 k,val:=v }) clock)):=by simp[setObj,Sem.run,hb,World.putObj]
 have hc:=run_check_u64 w kt hk k false 9999
 have hfk:=run_findU (w:=w) hk hf
 have hst:(Instr.keyThatStays (.int .u64 k) (.int .u64 k)).run P w= .ok (.int .u64 k) w:=by
  unfold Instr.keyThatStays
  simp[Instr.sameBits]
 unfold Instr.mapUpdate
 simp only[Sem.run_bind,run_underlying hu,hg,hc,hfk,hi,Option.getD_some,hst,hs,Result.andThen]
theorem run_lookU_some (w:World) (t kt vt:TypeId) (hu:P.underlying t=some (.map kt vt)) (hk:P.underlying kt=some (.int .u64)) (r:Nat) (es:Array MapEntry) (clock:Nat) (hb:w.heap[r]?=some (.map es clock)) (k:Int) (i:Nat) (v:Value) (ok:Bool)
  (hf:Instr.findNow (.int .u64) (.int .u64 k) es.toList 0=some (some (i,v))):
  (Instr.lookup t (.map (some r)) (.int .u64 k) ok).run P w= .ok (if ok then .tuple #[v,.bool true] else v) w:=by
 have hg:(getObj r).run P w= .ok (.map es clock) w:=by simp[getObj,Sem.run,hb]
 have hc:=fun b=>run_check_u64 (P:=P) w kt hk k b 9999
 have hfk:=run_findU (w:=w) hk hf
 unfold Instr.lookup
 simp only[Sem.run_bind,run_underlying hu,hg,hc,hfk,Result.andThen,Sem.run_pure]
theorem run_lookU_none (w:World) (t kt vt:TypeId) (hu:P.underlying t=some (.map kt vt)) (hk:P.underlying kt=some (.int .u64)) (r:Nat) (es:Array MapEntry) (clock:Nat) (hb:w.heap[r]?=some (.map es clock)) (k:Int) (z:Value) (ok:Bool)
  (hz:(P.info? vt).bind (·.zero)=some z) (hf:Instr.findNow (.int .u64) (.int .u64 k) es.toList 0=some none):
  (Instr.lookup t (.map (some r)) (.int .u64 k) ok).run P w= .ok (if ok then .tuple #[z,.bool false] else z) w:=by
 have hg:(getObj r).run P w= .ok (.map es clock) w:=by simp[getObj,Sem.run,hb]
 have hc:=fun b=>run_check_u64 (P:=P) w kt hk k b 9999
 have hfk:=run_findU (w:=w) hk hf
 have hzv:(zeroValue vt).run P w= .ok z w:=by
  cases hi:P.info? vt with
  | none=>rw[hi] at hz;cases hz
  | some i=>rw[hi] at hz;have hz:i.zero=some z:=hz;simp[zeroValue,typeInfo,program,Sem.run,hi,hz]
 unfold Instr.lookup
 simp only[Sem.run_bind,run_underlying hu,hg,hc,hfk,hzv,Result.andThen,Sem.run_pure]
theorem run_delU (w:World) (t kt vt k2 ty:TypeId) (hu:P.underlying t=some (.map kt vt)) (hk:P.underlying kt=some (.int .u64)) (r:Nat) (es:Array MapEntry) (clock:Nat) (hb:w.heap[r]?=some (.map es clock)) (k:Int) (i:Nat) (v:Value)
  (hf:Instr.findNow (.int .u64) (.int .u64 k) es.toList 0=some (some (i,v))):
  (Builtin.delete_ #[t,k2] ty #[.map (some r),.int .u64 k]).run P w= .ok (.tuple #[]) (w.putObj r (.map (es.eraseIdxIfInBounds i) clock)):=by
 have hg:(getObj r).run P w= .ok (.map es clock) w:=by simp[getObj,Sem.run,hb]
 have hs:(setObj r (.map (es.eraseIdxIfInBounds i) clock)).run P w= .ok () (w.putObj r (.map (es.eraseIdxIfInBounds i) clock)):=by simp[setObj,Sem.run,hb,World.putObj]
 have hc:=fun b=>run_check_u64 (P:=P) w kt hk k b 9999
 have hfk:=run_findU (w:=w) hk hf
 unfold Builtin.delete_
 simp only[List.getElem?_toArray,List.getElem?_cons_zero,List.getElem?_cons_succ,Sem.run_bind,run_underlying hu,hg,hc,hfk,hs,Result.andThen,Sem.run_pure]
theorem putObj_at {w:World} {r:Nat} {o o':Obj} (h:w.heap[r]?=some o):(w.putObj r o').heap[r]?=some o':=by
 have hlt:r<w.heap.size:=(Array.getElem?_eq_some_iff.1 h).1
 simp[World.putObj,hlt]
theorem Blk.putObj {w:World} {g r:Nat} {t:TypeId} {cs:Array Value} (h:Blk w g t cs) (hne:g≠r) (o:Obj):Blk (w.putObj r o) g t cs:=(World.putObj_heap_other (by first | exact hne | exact fun e=>hne e.symm)).trans h
theorem Only.putObj {f:List Nat} {a b:World} (h:Only f a b) {r:Nat} (hr:r∈f∨a.heap.size≤r) (o:Obj):Only f a (b.putObj r o):=
 ⟨h.os,h.tape,h.output,by simpa[World.putObj] using h.size,fun x hx hn=>(World.putObj_heap_other (fun e=>by subst e;rcases hr with hr | hr;exact hn hr;omega)).trans (h.block x hx hn)⟩
end
end Go.Proofs.YtjmaicckkkdjpaaGreat
/- slices.Chunk over bytes, by eight: a contract for a loop over it. -/
namespace Go.Proofs.YtjmaicckkkdjpaaGreat
open Go.RowKit Go.Shelf
attribute [local go_sem] Oper.semAt_some
theorem belDrew (w:World):Below w.heap.size w w.drew:=⟨rfl,rfl,rfl,Nat.le_refl _,fun _ _=>rfl⟩
theorem grownBel {w w':World} (h:Below w.heap.size w w'):w.grownBy w' none:=⟨h.os,h.tape,h.output,h.size,fun k hk _=>h.block k hk⟩
structure KeepN (F:List Nat) (N0:Nat) (A B:World):Prop where
 size:A.heap.size≤B.heap.size
 block: ∀k,k<N0→k∉F→B.heap[k]?=A.heap[k]?
section
variable {F:List Nat} {N0:Nat} {A B C:World}
theorem KeepN.refl (F:List Nat) (N0:Nat) (A:World):KeepN F N0 A A:=⟨Nat.le_refl _,fun _ _ _=>rfl⟩
theorem KeepN.trans (h:KeepN F N0 A B) (k:KeepN F N0 B C):KeepN F N0 A C:=⟨Nat.le_trans h.size k.size,fun x hx hn=>(k.block x hx hn).trans (h.block x hx hn)⟩
theorem KeepN.only (h:Only F A B) (hA:N0≤A.heap.size):KeepN F N0 A B:=⟨h.size,fun k hk hn=>h.block k (Nat.lt_of_lt_of_le hk hA) hn⟩
theorem KeepN.putObj (h:KeepN F N0 A B) {l:Nat} (hl:N0≤l) (o:Obj):KeepN F N0 A (B.putObj l o):=
 ⟨by simpa[World.putObj] using h.size,fun k hk hn=>(World.putObj_heap_other (by omega)).trans (h.block k hk hn)⟩
theorem KeepN.cell (h:KeepN F N0 A B) {p:Addr} (hp:p.block<N0) (hn:p.block∉F):B.cell? p=A.cell? p:=World.cell?_of_block (w:=A) (h.block p.block hp hn)
end
def chunkV (b off x:Nat):Value:= .slice (some ⟨b,off+8*x,none⟩) 8 8
theorem Chunk1_in (n q b off cap:Nat) (p:Option Addr) (F:List Nat) (N0 l Bs Bn:Nat) (J Jx:List (Fin q)→World→Prop) (W:World) (hq:8*q≤cap) (hcap:cap≤9223372036854775807) (hp:0<q→p=some ⟨b,off,none⟩)
  (hJ:AbidesFrom W.heap.size J) (hBs:Bs<N0) (hBn:Bn<N0) (hBs':Bs∉F) (hBn':Bn∉F) (hN:N0≤W.heap.size)
  (hY: ∀pre (x:Fin q) W1,J pre W1→pre.length<q→YieldAt Fence.wide (n-1) Tryz.prog l #[chunkV b off x] W1 fun e W'=>
   (e= .returned (.bool true)∧J (pre++[x]) W'∧KeepN F N0 W1 W')∨(e= .returned (.bool false)∧Jx (pre++[x]) W'))
  (hs:W.cell? ⟨Bs,0,none⟩=some (.slice p (8*q) cap)) (hn:W.cell? ⟨Bn,0,none⟩=some (.int .i64 8)) (h0:J [] W):
  CallsIn Fence.wide n Tryz.prog 135 #[.func (.yield l) #[] #[],.pointer (some ⟨Bs,0,none⟩),.pointer (some ⟨Bn,0,none⟩)] W fun e W'=>(∃v,e= .returned v)∧
   ((∃ys,ys=List.finRange q∧J ys W')∨(∃pre,pre<+:List.finRange q∧Jx pre W')):=by
 refine callsIn_of_wp Tryz.func135 rfl trivial ?_ rfl
 simp only[Tryz.ntmps135,List.size_toArray,List.length_cons,List.length_nil,Nat.reduceAdd,Nat.reduceSub,Array.replicate_succ,Array.replicate_zero,List.push_toArray,List.append_toArray,List.nil_append,List.cons_append]
 obtain⟨Z,hZ⟩: ∃Z,Z=8*q:=⟨_,rfl⟩
 rw[←hZ] at hs
 have HZ:=hid hZ
 have HS:=hid hs
 have HN':=hid hn
 clear hs hn hZ
 gi_wp2_with fail
 gi_loopw [4] (fun i wr=> ∃k:Nat,k≤q∧i= .int .i64 (8*k:Nat)∧J ((List.finRange q).take k) wr∧KeepN F N0 W wr) (fun i _=>(8*q- (intOf i).toNat))
 case atStart=>exact⟨0,by omega,rfl,h0,KeepN.refl _ _ _⟩
 case round=>
  obtain⟨i,hi,rfl,hJi,hK⟩:=hrel
  have x1:=(hK.cell (p:=⟨Bs,0,none⟩) hBs hBs').trans HS.out
  have x2:=(hK.cell (p:=⟨Bn,0,none⟩) hBn hBn').trans HN'.out
  by_cases hlt:i<q
  ·have i1:(0:Int)≤((8*i:Nat):Int):=by omega
   have i2:((8*i:Nat):Int)< (Z:Int):=by have:=HZ.out;omega
   obtain rfl:=hp (by omega)
   have i3:((8*i:Nat):Int)≤(Z:Int):=by omega
   have i4: ¬cap=8*i:=by have:=HZ.out;omega
   have i5:8*i≤cap:=by omega
   have i6:min (8:Int) ((Z-8*i:Nat):Int)=8:=by have:=HZ.out;omega
   have hJ2:=hJ _ _ _ none hJi (grownBel (belDrew wr)) (fun r h=>by cases h)
   have hK2:KeepN F N0 W wr.drew:=hK.trans ⟨Nat.le_refl _,fun _ _ _=>rfl⟩
   have y1:wr.drew.cell? ⟨Bs,0,none⟩=some (.slice (some ⟨b,off,none⟩) Z cap):=x1
   have i7:((8*i+8:Nat):Int)≤(cap:Int):=by have:=HZ.out;omega
   have i8:8*i+8≤cap:=by have:=HZ.out;omega
   obtain⟨fn,tmps,assign,body,hy,hR⟩:=hY _ (⟨i,hlt⟩:Fin q) _ hJ2 (by simp;omega)
   have hT:(List.finRange q).take i++[⟨i,hlt⟩]=(List.finRange q).take (i+1):=by rw[List.take_succ_eq_append_getElem (by simpa using hlt)];simp
   have HR:=hid hR
   clear hR hJ2 hJi hK
   unfold chunkV at hy
   gi_wp2
   gi_region_with fail
   all_goals
    try simp only[Act.put,List.setIfInBounds_toArray,List.set_cons_zero,List.set_cons_succ]
    gi_wp2
    refine⟨fun h=>by simp[Fence.wide] at h,HR.out.mono ?_⟩
    rintro e W3 (⟨rfl,hJ3,hk3⟩ | ⟨rfl,hJx3⟩)
    ·rw[hT] at hJ3
     have x3:=((hK2.trans hk3).cell (p:=⟨Bn,0,none⟩) hBn hBn').trans HN'.out
     have K3:=hid (hK2.trans hk3)
     clear hK2 hk3 x1 x2 y1 hy
     gi_wp2
     go_roundw
     case rel=>exact⟨i+1,by omega,by go_num,hJ3,K3.out⟩
     case measure=>simp[intOf];omega
    ·rw[hT] at hJx3
     gi_wp2
     refine bodyPost_ret (results_none rfl _ _ _) rfl ?_
     exact⟨⟨_,rfl⟩,.inr ⟨_,List.take_prefix _ _,hJx3⟩⟩
  ·have hJ5:J (List.finRange q) wr:=by rw[List.take_of_length_le (by simp;omega)] at hJi;exact hJi
   obtain rfl:i=q:=by omega
   have i2: ¬((8*i:Nat):Int)< (Z:Int):=by have:=HZ.out;omega
   gi_wp2
   go_end0
   first | exact⟨⟨_,rfl⟩,.inl hJ5⟩ | exact .inl hJ5
theorem Chunk_stops (n q b off cap:Nat) (p:Option Addr) (F:List Nat) (N0 Bs Bn:Nat) (w:World) (hq:8*q≤cap) (hcap:cap≤9223372036854775807) (hp:0<q→p=some ⟨b,off,none⟩) (hBs:Bs<N0) (hBn:Bn<N0) (hBs':Bs∉F) (hBn':Bn∉F) (hN:N0≤w.heap.size)
  (hs:w.cell? ⟨Bs,0,none⟩=some (.slice p (8*q) cap)) (hn:w.cell? ⟨Bn,0,none⟩=some (.int .i64 8)):
  SeqStopsK Fence.wide n Tryz.prog 135 #[.pointer (some ⟨Bs,0,none⟩),.pointer (some ⟨Bn,0,none⟩)] (fun x:Fin q=> #[chunkV b off x]) (KeepN F N0) (fun ys=>ys=List.finRange q) (fun pre=>pre<+:List.finRange q) q w:=by
 intro l J Jx W hW hJ _ hY h0
 have h1:=(hW.cell (p:=⟨Bs,0,none⟩) (World.block_lt_of_cell? w _ hs)).trans hs
 have h2:=(hW.cell (p:=⟨Bn,0,none⟩) (World.block_lt_of_cell? w _ hn)).trans hn
 exact Chunk1_in n q b off cap p F N0 l Bs Bn J Jx W hq hcap hp hJ hBs hBn hBs' hBn' (Nat.le_trans hN hW.size) hY h1 h2 h0
theorem Chunk_make (n:Nat) (v:Value) (w:World) (hv: ∃a l c,v= .slice a l c):
  CallsIn Fence.wide n Tryz.prog 91 #[v,.int .i64 8] w fun e w'=>e= .returned (.func (.func 135) #[] #[.pointer (some ⟨w.heap.size,0,none⟩),.pointer (some ⟨w.heap.size+1,0,none⟩)])∧
   w'=(w.alloc (.cells #[v] 47)).alloc (.cells #[.int .i64 8] 3):=by
 obtain⟨a,l,c,rfl⟩:=hv
 refine callsIn_of_wp Tryz.func91 rfl trivial ?_ rfl
 simp only[Tryz.ntmps91,List.size_toArray,List.length_cons,List.length_nil,Nat.reduceAdd,Nat.reduceSub,Array.replicate_succ,Array.replicate_zero,List.push_toArray,List.append_toArray,List.nil_append,List.cons_append]
 gi_wp2
 go_ret
 exact⟨rfl,rfl⟩
end Go.Proofs.YtjmaicckkkdjpaaGreat
/- A slice of numbers that was handed in. -/
namespace Go.Proofs.YtjmaicckkkdjpaaGreat
open Go.RowKit
def appRun2 (P:Program) (ats:Array TypeId) (ty:TypeId) (args:Array Value) (w:World):Result Value:=(Builtin.append_ ats ty args).run P w
def appM2 (ats:Array TypeId) (ty:TypeId) (args:Array Value):Sem Value:=Builtin.append_ ats ty args
theorem append_shut2 (ats:Array TypeId) (ty:TypeId) (cs:Array Bool) (args:Array Value):builtin .append ats ty cs args=(do pure (.value (←appM2 ats ty args))):=rfl
theorem appM2_run (P:Program) (ats:Array TypeId) (ty:TypeId) (args:Array Value) (w:World):(appM2 ats ty args).run P w=appRun2 P ats ty args w:=rfl
def NewsAt (w:World) (x:Value) (m:Nat) (news:List Value):Prop:=
 (x= .slice none 0 0∧m=0∧news=[])∨ ∃b off c,x= .slice (some ⟨b,off,none⟩) m c∧ ∀j u,news[j]?=some u→w.cell? ⟨b,off+j,none⟩=some u
theorem NewsAt.bel {w w':World} {x:Value} {m:Nat} {news:List Value} (h:NewsAt w x m news) (hb:Below w.heap.size w w'):NewsAt w' x m news:=by
 rcases h with h | ⟨b,off,c,h1,h2⟩
 ·exact Or.inl h
 ·exact Or.inr ⟨b,off,c,h1,fun j u hj=>(hb.cell (p:=⟨b,off+j,none⟩) (World.block_lt_of_cell? w _ (h2 j u hj))).trans (h2 j u hj)⟩
structure AppTo (P:Program) (t ty e:TypeId) (size base:Nat) (v x:Value) (n:Nat) (xs:List Value) (w:World) (v':Value) (w':World):Prop where
 run:appRun2 P #[t,t] ty #[v,x] w= .ok v' w'
 own:w'.ownsRow base e size v' n xs
 grown:w.grownBy w' v.ownBlock
 ob:v'.ownBlock=v.ownBlock∨v'.ownBlock=some w.heap.size
theorem run_app {P:Program} (w:World) (base:Nat) (t ty e:TypeId) (i:TypeInfo) (z:Value) (size bytes:Nat) (ht:P.underlying t=some (.slice e)) (hi:P.info? e=some i) (hz:i.zero=some z)
  (hsize:i.size=size) (hby:i.bytes=bytes) (hzs:z.cells.size=size) (hsz:0<size) (v:Value) (n:Nat) (xs:List Value) (hown:w.ownsRow base e size v n xs)
  (x:Value) (m:Nat) (news:List Value) (hx:NewsAt w x m news) (hl:news.length=m*size) (h1: ∀u∈news,u.oneCell'=true)
  (h63:n+m≤maxLen) (hbytes:(n+m)*bytes≤140737488355328) (hbase:base≤w.heap.size):
  ∃v' w',AppTo P t ty e size base v x (n+m) (xs++news) w v' w':=by
 rcases hx with⟨rfl,rfl,rfl⟩ | ⟨b,off,c,rfl,hc⟩
 ·have hr:=run_append_owned_none (P:=P) (w:=w) base t ty e i size ht hi v n xs hown
  refine⟨v,w,hr,by simpa using hown,⟨rfl,rfl,rfl,Nat.le_refl _,fun _ _ _=>rfl⟩,Or.inl rfl⟩
 ·obtain⟨v',w',hr,h2,h3,h4,h5⟩:=run_append_own_at (P:=P) w base t ty e i z size bytes ht hi hz hsize hby hzs hsz v n xs hown ⟨b,off,none⟩ m c news hl (fun j u hj=>by
   have hadd:(⟨b,off,none⟩:Addr).add j=⟨b,off+j,none⟩:=by unfold Addr.add;split<;>simp_all
   rw[hadd];exact hc j u hj) h1 h63 hbytes hbase
  exact⟨v',w',hr,h2,h3,h5⟩
def NumsAt (k:IntKind) (w:World) (v:Value) (xs:List Int):Prop:=
 ∃ao cap,v= .slice ao xs.length cap∧(xs=[]∨ ∃b off,ao=some ⟨b,off,none⟩∧b<w.heap.size∧ ∀i x,xs[i]?=some x→w.cell? ⟨b,off+i,none⟩=some (.int k x))
theorem NumsAt.bel {k:IntKind} {w w':World} {v:Value} {xs:List Int} (h:NumsAt k w v xs) (hb:Below w.heap.size w w'):NumsAt k w' v xs:=by
 obtain⟨ao,cap,h1,h2⟩:=h
 refine⟨ao,cap,h1,?_⟩
 rcases h2 with h2 | ⟨b,off,h3,h4,h5⟩
 ·exact Or.inl h2
 ·exact Or.inr ⟨b,off,h3,Nat.lt_of_lt_of_le h4 hb.size,fun i x hi=>(hb.cell (p:=⟨b,off+i,none⟩) h4).trans (h5 i x hi)⟩
theorem NumsAt.of_own {k:IntKind} {w:World} {base:Nat} {e:TypeId} {v:Value} {xs:List Int} (h:w.ownsRow base e 1 v xs.length (xs.map (Value.int k))):NumsAt k w v xs:=by
 rcases h.2 with⟨rfl,h2⟩ | ⟨g,cap,cur,rfl,h2,h3,h4,h5,h6,h7⟩
 ·exact⟨none,0,by rw[h2],Or.inl (List.length_eq_zero_iff.1 h2)⟩
 ·refine⟨some ⟨g,0,none⟩,cap,rfl,Or.inr ⟨g,0,rfl,(Array.getElem?_eq_some_iff.1 h3).1,fun i x hi=> ?_⟩⟩
  have hl:i<xs.length:=(List.getElem?_eq_some_iff.1 hi).1
  have hc:Blk w g e cur:=h3
  rw[hc.cell,Nat.zero_add,←Array.getElem?_toList]
  have:(cur.toList.take (xs.length*1))[i]?=some (.int k x):=by rw[h7,List.getElem?_map,hi];rfl
  rw[List.getElem?_take,if_pos (by omega)] at this
  exact this
section
section
variable {α:Type}
end
section
variable {F:List Nat} {N0:Nat} {A B C:World}
end
end
end Go.Proofs.YtjmaicckkkdjpaaGreat
/- The kit's walk tactics and laws, together; a struct loaded and stored whole, kept shut. -/
namespace Go.Proofs.YtjmaicckkkdjpaaGreat
open Go.RowKit
def ldR (P:Program) (t:TypeId) (v:Value) (w:World):Result Value:=(Instr.loadAt t v).run P w
def lvR (P:Program) (t:TypeId) (a:Addr) (w:World):Result Value:=(loadVar t a).run P w
def stR (P:Program) (t:TypeId) (p v:Value) (w:World):Result Unit:=(Instr.storeAt t p v).run P w
def ldM (t:TypeId) (v:Value):Sem Value:=Instr.loadAt t v
def lvM (t:TypeId) (a:Addr):Sem Value:=loadVar t a
def stM (t:TypeId) (p v:Value):Sem Unit:=Instr.storeAt t p v
theorem ldM_run (P:Program) (t:TypeId) (v:Value) (w:World):(ldM t v).run P w=ldR P t v w:=rfl
theorem lvM_run (P:Program) (t:TypeId) (a:Addr) (w:World):(lvM t a).run P w=lvR P t a w:=rfl
theorem stM_run (P:Program) (t:TypeId) (p v:Value) (w:World):(stM t p v).run P w=stR P t p v w:=rfl
theorem Blk.lv {P:Program} {w:World} {b:Nat} {t ty:TypeId} {cs:Array Value} {d:TypeDesc} (h:Blk w b t cs) (hu:P.underlying ty=some d) (hd:d.isRow=true) (hi:(P.info? ty).map (·.size)=some cs.size):lvR P ty ⟨b,0,none⟩ w= .ok (.agg cs) w:=by
 have h1:w.rangeAt b 0 cs.toList:=fun j v hv=>by
  rw[Nat.zero_add,h.cell]
  simpa using hv
 have:=run_loadVar_mid (P:=P) w b 0 ty cs.toList d h1 hu hd (by simpa using hi)
 simpa[lvR] using this
theorem Blk.ld {P:Program} {w:World} {b:Nat} {t ty:TypeId} {cs:Array Value} {d:TypeDesc} (h:Blk w b t cs) (hu:P.underlying ty=some d) (hd:d.isRow=true) (hi:(P.info? ty).map (·.size)=some cs.size):ldR P ty (.pointer (some ⟨b,0,none⟩)) w= .ok (.agg cs) w:=by
 have h1:w.rangeAt b 0 cs.toList:=fun j v hv=>by
  rw[Nat.zero_add,h.cell]
  simpa using hv
 have:=run_loadAt_mid (P:=P) w b 0 ty cs.toList d h1 hu hd (by simpa using hi)
 simpa[ldR] using this
theorem Blk.st {P:Program} {w:World} {b:Nat} {t ty:TypeId} {cs cs':Array Value} (h:Blk w b t cs) (hi:(P.info? ty).map (·.size)=some cs'.size) (ho:cs.size=cs'.size) (h1:cs'.all (·.oneCell')=true):stR P ty (.pointer (some ⟨b,0,none⟩)) (.agg cs') w= .ok () (w.setRow b cs'):=by
 have:=run_storeVar_row (P:=P) w b t ty cs cs' h hi ho h1
 unfold stR Instr.storeAt Instr.sureAddr
 simp only[Sem.run_bind,Sem.run_pure,Result.andThen_ok]
 exact this
theorem Blk.st_same {P:Program} {w:World} {b:Nat} {t ty:TypeId} {cs:Array Value} (h:Blk w b t cs) (hi:(P.info? ty).map (·.size)=some cs.size) (h1:cs.all (·.oneCell')=true):stR P ty (.pointer (some ⟨b,0,none⟩)) (.agg cs) w= .ok () w:=by
 rw[h.st hi rfl h1,setRow_self w b cs t (0,0) h]
theorem results_cellv_tmp {P:Program} {fn:Func} {p u:Tmp} {ty:TypeId} (h:fn.results= #[.cell p ty,.tmp u]) (tmps:Array Value) (w:World) (a:Addr) (v x:Value) (hp:tmps.getD p undef= .pointer (some a)) (hx:tmps.getD u undef=x) (hl:lvR P ty a w= .ok v w):(results fn tmps).run P w= .ok (.tuple #[v,x]) w:=by
 rw[results_cell_tmp h,hp,hx]
 have e:(asAddr (.pointer (some a))).run P w= .ok a w:=rfl
 have hl':(loadVar ty a).run P w= .ok v w:=hl
 rw[e]
 simp only[Result.andThen_ok,hl']
theorem results_cellv {P:Program} {fn:Func} {p:Tmp} {ty:TypeId} (h:fn.results= #[.cell p ty]) (tmps:Array Value) (w:World) (a:Addr) (v:Value) (hp:tmps.getD p undef= .pointer (some a)) (hl:lvR P ty a w= .ok v w):(results fn tmps).run P w= .ok v w:=by
 have hp':tmps[p]?.getD undef= .pointer (some a):=by simpa using hp
 have hl':(loadVar ty a).run P w= .ok v w:=hl
 simp[results,h,hp',asAddr,hl']
theorem Blk.ldAt {P:Program} {w:World} {b:Nat} {t ty:TypeId} {cs xs:Array Value} {d:TypeDesc} (h:Blk w b t cs) (o:Nat) (hx: ∀j v,xs[j]?=some v→cs[o+j]?=some v) (hu:P.underlying ty=some d) (hd:d.isRow=true) (hi:(P.info? ty).map (·.size)=some xs.size):ldR P ty (.pointer (some ⟨b,o,none⟩)) w= .ok (.agg xs) w:=by
 have h1:w.rangeAt b o xs.toList:=fun j v hv=>by
  rw[h.cell]
  exact hx j v (by simpa using hv)
 have:=run_loadAt_mid (P:=P) w b o ty xs.toList d h1 hu hd (by simpa using hi)
 simpa[ldR] using this
theorem act_eq {K:Act→World→Prop} {t t':Array Value} {W:World} (h:K { tmps:=t,defers:=[] } W) (e:t'=t):K { tmps:=t',defers:=[] } W:=e▸h
theorem postM_ret {n:Nat} {P:Program} {fn:Func} {R:Ending→World→Prop} {t:Array Value} {D:Nat} {W:World} (v:Value) (h:W.heap[D]?=some (.deferred (some []))) (hres:(results fn t).run P (W.putObj D (.deferred none))= .ok v (W.putObj D (.deferred none))) (hR:R (.returned v) (W.putObj D (.deferred none))):
  bodyPostM Fence.wide n P fn R Exit.ret { tmps:=t,defers:=[{ target:= .collected D,args:= #[] }] } W:=
 ⟨by simp,.inl ⟨_,_,rfl,run_takeDeferred h,⟨v,hres,hR⟩⟩⟩
theorem own_cells {w:World} {base:Nat} {e:TypeId} {size n:Nat} {v:Value} {xs:List Value} (h:w.ownsRow base e size v n xs): ∀k,v.ownBlock=some k→ ∃cs t fr,w.heap[k]?=some (.cells cs t fr):=by
 intro k hk
 rcases h.2 with⟨h1,_⟩ | ⟨g,cap,cur,h1,h2,h3,_⟩
 ·rw[h1] at hk;cases hk
 ·rw[h1] at hk
  have:g=k:=by simpa[Value.ownBlock] using hk
  subst this
  exact⟨_,_,_,h3⟩
theorem own_keep {w w':World} {base:Nat} {e:TypeId} {size n:Nat} {v:Value} {xs:List Value} {row:Option Nat} (h:w.ownsRow base e size v n xs) (hg:w.grownBy w' row) (hrow: ∀r,row=some r→ ∃o:Obj,w.heap[r]?=some o∧o.isCells=false):w'.ownsRow base e size v n xs:=
 (Only.of_grown (f:=row.toList) hg (fun k hk=>by simp[hk])).own h (fun k hk hm=>by
  obtain⟨cs,t,fr,hc⟩:=own_cells h k hk
  obtain⟨o,ho,hn⟩:=hrow k (by simpa using hm)
  rw[hc] at ho
  injection ho with ho
  subst ho
  cases hn)
end Go.Proofs.YtjmaicckkkdjpaaGreat
