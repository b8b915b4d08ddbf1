/- slices.Chunk over bytes, by eight: a contract for a loop over it. -/
import Derived.Lib.MinMax
import Derived.Stop.RegionWithIn
import Derived.RangeFuncNested
import Derived.RangeFuncBound
import Derived.RangeFuncCalls
import Derived.RangeFuncLeaves
import Derived.RangeFuncBox
import Derived.Shelf.Abstract
import Derived.Shelf.RegionOpen
import Derived.OwnWalkIn
import Derived.TacticsInMore
import Derived.LoopNIn
import Derived.LoopIn
import Derived.Maps.OwnIn
import Derived.Maps.AppendAt
import Derived.Test.YtibiekfjbibpbaaGreatRow
set_option maxRecDepth 100000
set_option maxHeartbeats 2000000
set_option linter.unusedVariables false
set_option linter.unusedSimpArgs false
namespace Go.Proofs.YtibiekfjbibpbaaGreat
open Go.RowKit Go.Shelf
attribute [local go_sem] Oper.semAt_some
theorem belDrew (w:World):Below w.heap.size w w.drew:=⟨rfl,rfl,rfl,Nat.le_refl _,fun _ _=>rfl⟩
theorem grownBel {w w':World} (h:Below w.heap.size w w'):w.grownBy w' none:=⟨h.os,h.tape,h.output,h.size,fun k hk _=>h.block k hk⟩
structure KeepN (F:List Nat) (N0:Nat) (A B:World):Prop where
 size:A.heap.size≤B.heap.size
 block: ∀k,k<N0→k∉F→B.heap[k]?=A.heap[k]?
section
variable {F:List Nat} {N0:Nat} {A B C:World}
theorem KeepN.refl (F:List Nat) (N0:Nat) (A:World):KeepN F N0 A A:=⟨Nat.le_refl _,fun _ _ _=>rfl⟩
theorem KeepN.trans (h:KeepN F N0 A B) (k:KeepN F N0 B C):KeepN F N0 A C:=⟨Nat.le_trans h.size k.size,fun x hx hn=>(k.block x hx hn).trans (h.block x hx hn)⟩
theorem KeepN.only (h:Only F A B) (hA:N0≤A.heap.size):KeepN F N0 A B:=⟨h.size,fun k hk hn=>h.block k (Nat.lt_of_lt_of_le hk hA) hn⟩
theorem KeepN.putObj (h:KeepN F N0 A B) {l:Nat} (hl:N0≤l) (o:Obj):KeepN F N0 A (B.putObj l o):=
 ⟨by simpa[World.putObj] using h.size,fun k hk hn=>(World.putObj_heap_other (by omega)).trans (h.block k hk hn)⟩
theorem KeepN.cell (h:KeepN F N0 A B) {p:Addr} (hp:p.block<N0) (hn:p.block∉F):B.cell? p=A.cell? p:=World.cell?_of_block (w:=A) (h.block p.block hp hn)
end
def chunkV (b off x:Nat):Value:= .slice (some ⟨b,off+8*x,none⟩) 8 8
theorem Chunk1_in (n q b off cap:Nat) (p:Option Addr) (F:List Nat) (N0 l Bs Bn:Nat) (J Jx:List (Fin q)→World→Prop) (W:World) (hq:8*q≤cap) (hcap:cap≤9223372036854775807) (hp:0<q→p=some ⟨b,off,none⟩)
  (hJ:AbidesFrom W.heap.size J) (hBs:Bs<N0) (hBn:Bn<N0) (hBs':Bs∉F) (hBn':Bn∉F) (hN:N0≤W.heap.size)
  (hY: ∀pre (x:Fin q) W1,J pre W1→pre.length<q→YieldAt Fence.wide (n-1) Tryz.prog l #[chunkV b off x] W1 fun e W'=>
   (e= .returned (.bool true)∧J (pre++[x]) W'∧KeepN F N0 W1 W')∨(e= .returned (.bool false)∧Jx (pre++[x]) W'))
  (hs:W.cell? ⟨Bs,0,none⟩=some (.slice p (8*q) cap)) (hn:W.cell? ⟨Bn,0,none⟩=some (.int .i64 8)) (h0:J [] W):
  CallsIn Fence.wide n Tryz.prog 171 #[.func (.yield l) #[] #[],.pointer (some ⟨Bs,0,none⟩),.pointer (some ⟨Bn,0,none⟩)] W fun e W'=>(∃v,e= .returned v)∧
   ((∃ys,ys=List.finRange q∧J ys W')∨(∃pre,pre<+:List.finRange q∧Jx pre W')):=by
 refine callsIn_of_wp Tryz.func171 rfl trivial ?_ rfl
 simp only[Tryz.ntmps171,List.size_toArray,List.length_cons,List.length_nil,Nat.reduceAdd,Nat.reduceSub,Array.replicate_succ,Array.replicate_zero,List.push_toArray,List.append_toArray,List.nil_append,List.cons_append]
 obtain⟨Z,hZ⟩: ∃Z,Z=8*q:=⟨_,rfl⟩
 rw[←hZ] at hs
 have HZ:=hid hZ
 have HS:=hid hs
 have HN':=hid hn
 clear hs hn hZ
 gi_wp2_with fail
 gi_loopw [4] (fun i wr=> ∃k:Nat,k≤q∧i= .int .i64 (8*k:Nat)∧J ((List.finRange q).take k) wr∧KeepN F N0 W wr) (fun i _=>(8*q- (intOf i).toNat))
 case atStart=>exact⟨0,by omega,rfl,h0,KeepN.refl _ _ _⟩
 case round=>
  obtain⟨i,hi,rfl,hJi,hK⟩:=hrel
  have x1:=(hK.cell (p:=⟨Bs,0,none⟩) hBs hBs').trans HS.out
  have x2:=(hK.cell (p:=⟨Bn,0,none⟩) hBn hBn').trans HN'.out
  by_cases hlt:i<q
  ·have i1:(0:Int)≤((8*i:Nat):Int):=by omega
   have i2:((8*i:Nat):Int)< (Z:Int):=by have:=HZ.out;omega
   obtain rfl:=hp (by omega)
   have i3:((8*i:Nat):Int)≤(Z:Int):=by omega
   have i4: ¬cap=8*i:=by have:=HZ.out;omega
   have i5:8*i≤cap:=by omega
   have i6:min (8:Int) ((Z-8*i:Nat):Int)=8:=by have:=HZ.out;omega
   have hJ2:=hJ _ _ _ none hJi (grownBel (belDrew wr)) (fun r h=>by cases h)
   have hK2:KeepN F N0 W wr.drew:=hK.trans ⟨Nat.le_refl _,fun _ _ _=>rfl⟩
   have y1:wr.drew.cell? ⟨Bs,0,none⟩=some (.slice (some ⟨b,off,none⟩) Z cap):=x1
   have i7:((8*i+8:Nat):Int)≤(cap:Int):=by have:=HZ.out;omega
   have i8:8*i+8≤cap:=by have:=HZ.out;omega
   obtain⟨fn,tmps,assign,body,hy,hR⟩:=hY _ (⟨i,hlt⟩:Fin q) _ hJ2 (by simp;omega)
   have hT:(List.finRange q).take i++[⟨i,hlt⟩]=(List.finRange q).take (i+1):=by rw[List.take_succ_eq_append_getElem (by simpa using hlt)];simp
   have HR:=hid hR
   clear hR hJ2 hJi hK
   unfold chunkV at hy
   gi_wp2
   gi_region_with fail
   all_goals
    try simp only[Act.put,List.setIfInBounds_toArray,List.set_cons_zero,List.set_cons_succ]
    gi_wp2
    refine⟨fun h=>by simp[Fence.wide] at h,HR.out.mono ?_⟩
    rintro e W3 (⟨rfl,hJ3,hk3⟩ | ⟨rfl,hJx3⟩)
    ·rw[hT] at hJ3
     have x3:=((hK2.trans hk3).cell (p:=⟨Bn,0,none⟩) hBn hBn').trans HN'.out
     have K3:=hid (hK2.trans hk3)
     clear hK2 hk3 x1 x2 y1 hy
     gi_wp2
     go_roundw
     case rel=>exact⟨i+1,by omega,by go_num,hJ3,K3.out⟩
     case measure=>simp[intOf];omega
    ·rw[hT] at hJx3
     gi_wp2
     refine bodyPost_ret (results_none rfl _ _ _) rfl ?_
     exact⟨⟨_,rfl⟩,.inr ⟨_,List.take_prefix _ _,hJx3⟩⟩
  ·have hJ5:J (List.finRange q) wr:=by rw[List.take_of_length_le (by simp;omega)] at hJi;exact hJi
   obtain rfl:i=q:=by omega
   have i2: ¬((8*i:Nat):Int)< (Z:Int):=by have:=HZ.out;omega
   gi_wp2
   go_end0
   first | exact⟨⟨_,rfl⟩,.inl hJ5⟩ | exact .inl hJ5
theorem Chunk_stops (n q b off cap:Nat) (p:Option Addr) (F:List Nat) (N0 Bs Bn:Nat) (w:World) (hq:8*q≤cap) (hcap:cap≤9223372036854775807) (hp:0<q→p=some ⟨b,off,none⟩) (hBs:Bs<N0) (hBn:Bn<N0) (hBs':Bs∉F) (hBn':Bn∉F) (hN:N0≤w.heap.size)
  (hs:w.cell? ⟨Bs,0,none⟩=some (.slice p (8*q) cap)) (hn:w.cell? ⟨Bn,0,none⟩=some (.int .i64 8)):
  SeqStopsK Fence.wide n Tryz.prog 171 #[.pointer (some ⟨Bs,0,none⟩),.pointer (some ⟨Bn,0,none⟩)] (fun x:Fin q=> #[chunkV b off x]) (KeepN F N0) (fun ys=>ys=List.finRange q) (fun pre=>pre<+:List.finRange q) q w:=by
 intro l J Jx W hW hJ _ hY h0
 have h1:=(hW.cell (p:=⟨Bs,0,none⟩) (World.block_lt_of_cell? w _ hs)).trans hs
 have h2:=(hW.cell (p:=⟨Bn,0,none⟩) (World.block_lt_of_cell? w _ hn)).trans hn
 exact Chunk1_in n q b off cap p F N0 l Bs Bn J Jx W hq hcap hp hJ hBs hBn hBs' hBn' (Nat.le_trans hN hW.size) hY h1 h2 h0
theorem Chunk_make (n:Nat) (v:Value) (w:World) (hv: ∃a l c,v= .slice a l c):
  CallsIn Fence.wide n Tryz.prog 106 #[v,.int .i64 8] w fun e w'=>e= .returned (.func (.func 171) #[] #[.pointer (some ⟨w.heap.size,0,none⟩),.pointer (some ⟨w.heap.size+1,0,none⟩)])∧
   w'=(w.alloc (.cells #[v] 36)).alloc (.cells #[.int .i64 8] 3):=by
 obtain⟨a,l,c,rfl⟩:=hv
 refine callsIn_of_wp Tryz.func106 rfl trivial ?_ rfl
 simp only[Tryz.ntmps106,List.size_toArray,List.length_cons,List.length_nil,Nat.reduceAdd,Nat.reduceSub,Array.replicate_succ,Array.replicate_zero,List.push_toArray,List.append_toArray,List.nil_append,List.cons_append]
 gi_wp2
 go_ret
 exact⟨rfl,rfl⟩
end Go.Proofs.YtibiekfjbibpbaaGreat
