import Derived.Laws.Bits64b
import Derived.Test.YtjmaicckkkdjpaaGreatF19
import Derived.Test.YtjmaicckkkdjpaaGreatF08
import Derived.Deep.RegionHeld3
import Derived.Maps.AppendAt
import Derived.Deep.AppendLies
import Derived.Laws.BytesString
import Derived.Laws.BytesArg
set_option maxRecDepth 100000
set_option maxHeartbeats 2000000
set_option linter.unusedVariables false
set_option linter.unusedSimpArgs false
/- Bits of a word: bit, Has; words of bytes. -/
namespace Go.Proofs.YtjmaicckkkdjpaaGreat
section
open Go.RowKit
def bitZ (j:Int):Int:=if 0≤j∧j<64 then(2:Int)^j.toNat else 0
def hasB (b:Nat) (j:Nat):Bool:=b.testBit j
theorem bit_z (j:Int) (w:World):Calls Tryz.prog 170 #[.int .i64 j] w fun e w'=>e= .returned (.int .u64 (bitZ j))∧w=w':=by
 by_cases h1:j<0
 ·have HZ:=hid (show bitZ j=0 from if_neg (by omega))
  go_enter Tryz.func170,Tryz.ntmps170
  go_wp2
  go_ret
  exact⟨by rw[HZ.out];rfl,rfl⟩
 ·by_cases h2:j≥64
  ·have HZ:=hid (show bitZ j=0 from if_neg (by omega))
   go_enter Tryz.func170,Tryz.ntmps170
   go_wp2
   go_ret
   exact⟨by rw[HZ.out];rfl,rfl⟩
  ·obtain⟨k,rfl⟩:=Int.eq_ofNat_of_zero_le (show 0≤j by omega)
   have hk:k<64:=by omega
   have HZ:=hid (show bitZ (k:Int)=(2:Int)^k by unfold bitZ;rw[if_pos (by omega)];simp)
   have hw:IntKind.u64.wrap (2^k:Int)=(2:Int)^k:=by
    have h1:2^k≤2^63:=Nat.pow_le_pow_right (by omega) (by omega)
    have h2:((2:Int)^k)=((2^k:Nat):Int):=by simp
    rw[h2]
    generalize 2^k=y at*
    exact IntWalk.u64_in _ (by omega)
   go_enter Tryz.func170,Tryz.ntmps170
   go_wp2
   go_ret
   exact⟨by rw[HZ.out];rfl,rfl⟩
theorem and_two (b k:Nat):b&&&2^k=if b.testBit k then 2^k else 0:=by
 apply Nat.eq_of_testBit_eq
 intro i
 rw[Nat.testBit_and,Nat.testBit_two_pow]
 by_cases h:k=i
 ·subst h
  cases hb:b.testBit k<;>simp
 ·cases hb:b.testBit k<;>simp[h]
theorem and_bit (b k:Nat) (hb:b<18446744073709551616) (hk:k<64):(bits BinOp.and IntKind.u64 (b:Int) ((2:Int)^k) !=0)=hasB b k:=by
 have h1:2^k≤2^63:=Nat.pow_le_pow_right (by omega) (by omega)
 have h2:((2:Int)^k)=((2^k:Nat):Int):=by simp
 rw[h2,bits_and_u64_nat b (2^k) hb (by generalize 2^k=y at*;omega),and_two b k,Bool.eq_iff_iff]
 unfold hasB
 have hp:2^k≠0:=by have:=Nat.two_pow_pos k;omega
 cases b.testBit k
 ·simp
 ·simp
  intro h
  exact hp (by exact_mod_cast h)
theorem Has_z (b k:Nat) (hb:b<18446744073709551616) (hk:k<64) (w:World):Calls Tryz.prog 140 #[.int .u64 (b:Int),.int .i64 (k:Int)] w fun e w'=>e= .returned (.bool (hasB b k))∧w=w':=by
 have HB:=hid (show bitZ (k:Int)=(2:Int)^k by unfold bitZ;rw[if_pos (by omega)];simp)
 have HA:=hid (and_bit b k hb hk)
 go_enter Tryz.func140,Tryz.ntmps140
 go_wp2_with fail
 refine(bit_z _ _).mono ?_
 rintro e w1 ⟨rfl,rfl⟩
 rw[HB.out]
 have hA:=HA.out
 go_wp2
 go_ret
 exact⟨rfl,rfl⟩
end
section
open Go.RowKit Go.Shelf
attribute [local go_sem] Oper.semAt_some
def setBits (b:Nat):List (Fin 64):=(List.finRange 64).filter fun j=>hasB b j.val
def bitsTo (b i:Nat):List (Fin 64):=((List.finRange 64).take i).filter fun j=>hasB b j.val
theorem bitsTo_succ {b i:Nat} (hi:i<64):bitsTo b (i+1)=if hasB b i then bitsTo b i++[⟨i,hi⟩] else bitsTo b i:=by
 unfold bitsTo
 rw[List.take_succ_eq_append_getElem (by simpa using hi),List.filter_append]
 simp only[List.getElem_finRange,List.filter_cons,List.filter_nil]
 by_cases h:hasB b i=true
 ·simp[h]
 ·simp[h]
theorem bitsTo_length (b i:Nat):(bitsTo b i).length≤i:=by
 unfold bitsTo
 exact Nat.le_trans (List.length_filter_le _ _) (by simp;omega)
theorem bitsTo_prefix (b i:Nat):bitsTo b i<+:setBits b:=by
 unfold bitsTo setBits
 exact List.IsPrefix.filter _ (List.take_prefix _ _)
theorem Bits1_in (n b:Nat) (hb:b<18446744073709551616) (F:List Nat) (N0 l Bs:Nat) (J Jx:List (Fin 64)→World→Prop) (W:World)
  (hJ:AbidesFrom W.heap.size J) (hBs:Bs<N0) (hBs':Bs∉F) (hN:N0≤W.heap.size)
  (hY: ∀pre (x:Fin 64) W1,J pre W1→pre.length<64→YieldAt Fence.wide (n-1) Tryz.prog l #[.int .i64 (x.val:Int)] W1 fun e W'=>
   (e= .returned (.bool true)∧J (pre++[x]) W'∧KeepN F N0 W1 W')∨(e= .returned (.bool false)∧Jx (pre++[x]) W'))
  (hs:W.cell? ⟨Bs,0,none⟩=some (.int .u64 (b:Int))) (h0:J [] W):
  CallsIn Fence.wide n Tryz.prog 139 #[.func (.yield l) #[] #[],.pointer (some ⟨Bs,0,none⟩)] W fun e W'=>(∃v,e= .returned v)∧
   ((∃ys,ys=setBits b∧J ys W')∨(∃pre,pre<+:setBits b∧Jx pre W')):=by
 refine callsIn_of_wp Tryz.func139 rfl trivial ?_ rfl
 simp only[Tryz.ntmps139,List.size_toArray,List.length_cons,List.length_nil,Nat.reduceAdd,Nat.reduceSub,Array.replicate_succ,Array.replicate_zero,List.push_toArray,List.append_toArray,List.nil_append,List.cons_append]
 have HS:=hid hs
 clear hs
 gi_wp2_with fail
 gi_loopw [4] (fun i wr=> ∃k:Nat,k≤64∧i= .int .i64 k∧J (bitsTo b k) wr∧KeepN F N0 W wr) (fun i _=>(64- (intOf i).toNat))
 case atStart=>exact⟨0,by omega,rfl,h0,KeepN.refl _ _ _⟩
 case round=>
  obtain⟨i,hi,rfl,hJi,hK⟩:=hrel
  have x1:=(hK.cell (p:=⟨Bs,0,none⟩) hBs hBs').trans HS.out
  by_cases hlt:i<64
  ·have i1:(0:Int)≤(i:Int):=by omega
   have i2:(i:Int)<64:=by omega
   gi_wp2_with fail
   refine⟨trivial,(fun h=>by simp[Fence.wide] at h),(callsIn_wide.2 (Has_z b i hb hlt _)).mono ?_⟩
   rintro e w1 ⟨rfl,rfl⟩
   cases hh:hasB b i
   ·have hT:=hid (show bitsTo b (i+1)=bitsTo b i by rw[bitsTo_succ hlt,hh];rfl)
    gi_wp2
    refine⟨(by intro f h;simp at h),?_⟩
    gi_wp2
    go_roundw
    case rel=>exact⟨i+1,by omega,by go_num,by rw[hT.out];exact hJi,hK⟩
    case measure=>simp[intOf];omega
   ·obtain⟨fn,tmps,assign,body,hy,hR⟩:=hY _ (⟨i,hlt⟩:Fin 64) _ hJi (by have:=bitsTo_length b i;omega)
    have hT:bitsTo b i++[⟨i,hlt⟩]=bitsTo b (i+1):=by rw[bitsTo_succ hlt,hh];rfl
    have HR:=hid hR
    have HT:=hid hT
    clear hR hJi hT
    gi_wp2_with fail
    refine⟨fun h=>by simp[Fence.wide] at h,HR.out.mono ?_⟩
    rintro e W3 (⟨rfl,hJ3,hk3⟩ | ⟨rfl,hJx3⟩)
    ·rw[HT.out] at hJ3
     have K3:=hid (hK.trans hk3)
     clear hK hk3 x1 hy
     gi_wp2
     go_roundw
     case rel=>exact⟨i+1,by omega,by go_num,hJ3,K3.out⟩
     case measure=>simp[intOf];omega
    ·rw[HT.out] at hJx3
     gi_wp2
     refine bodyPost_ret (results_none rfl _ _ _) rfl ?_
     exact⟨⟨_,rfl⟩,.inr ⟨_,bitsTo_prefix b (i+1),hJx3⟩⟩
  ·obtain rfl:i=64:=by omega
   have hJ5:J (setBits b) wr:=hJi
   have i2: ¬(64:Int)<64:=by omega
   gi_wp2
   go_end0
   first | exact⟨⟨_,rfl⟩,.inl ⟨_,rfl,hJ5⟩⟩ | exact⟨⟨_,rfl⟩,.inl hJ5⟩ | exact .inl hJ5
theorem Bits_stops (n b:Nat) (hb:b<18446744073709551616) (F:List Nat) (N0 Bs:Nat) (w:World) (hBs:Bs<N0) (hBs':Bs∉F) (hN:N0≤w.heap.size)
  (hs:w.cell? ⟨Bs,0,none⟩=some (.int .u64 (b:Int))):
  SeqStopsK Fence.wide n Tryz.prog 139 #[.pointer (some ⟨Bs,0,none⟩)] (fun x:Fin 64=> #[.int .i64 (x.val:Int)]) (KeepN F N0) (fun ys=>ys=setBits b) (fun pre=>pre<+:setBits b) 64 w:=by
 intro l J Jx W hW hJ _ hY h0
 have h1:=(hW.cell (p:=⟨Bs,0,none⟩) (World.block_lt_of_cell? w _ hs)).trans hs
 exact Bits1_in n b hb F N0 l Bs J Jx W hJ hBs hBs' (Nat.le_trans hN hW.size) hY h1 h0
theorem Bits_make (n:Nat) (b:Int) (w:World):
  CallsIn Fence.wide n Tryz.prog 101 #[.int .u64 b] w fun e w'=>e= .returned (.func (.func 139) #[] #[.pointer (some ⟨w.heap.size,0,none⟩)])∧w'=w.alloc (.cells #[.int .u64 b] 25):=by
 refine callsIn_of_wp Tryz.func101 rfl trivial ?_ rfl
 simp only[Tryz.ntmps101,List.size_toArray,List.length_cons,List.length_nil,Nat.reduceAdd,Nat.reduceSub,Array.replicate_succ,Array.replicate_zero,List.push_toArray,List.append_toArray,List.nil_append,List.cons_append]
 gi_wp2
 go_ret
 exact⟨rfl,rfl⟩
end
section
open Go.RowKit Go.Shelf
attribute [local go_sem] Oper.semAt_some
def mayBits (b:Nat) (n:Int):Bool:=(setBits b).all fun j=>decide ((j.val:Int)<n)
theorem blkGrown {W W':World} {row:Option Nat} {g:Nat} {t:TypeId} {cs:Array Value} (h:Blk W g t cs) (hg:W.grownBy W' row) (hr: ∀r,row=some r→ ∃o:Obj,W.heap[r]?=some o∧o.isCells=false):Blk W' g t cs:=by
 refine h.grown hg fun e=> ?_
 obtain⟨o,ho,hc⟩:=hr g e.symm
 rw[h] at ho
 cases ho
 cases hc
theorem belGrown {w W W':World} {row:Option Nat} {B:Nat} (h:Below w.heap.size w W) (hg:W.grownBy W' row) (hB:w.heap.size≤B) (hr: ∀r,row=some r→B≤r):Below w.heap.size w W':=
 ⟨hg.os.trans h.os,hg.tape.trans h.tape,hg.output.trans h.output,Nat.le_trans h.size hg.size,fun k hk=>(hg.block k (Nat.lt_of_lt_of_le hk h.size) (fun e=>by have:=hr k e.symm;omega)).trans (h.block k hk)⟩
theorem belPut {w V:World} {D:Nat} (h:Below w.heap.size w V) (hD:w.heap.size≤D) (o:Obj):Below w.heap.size w (V.putObj D o):=
 ⟨h.os,h.tape,h.output,by simpa[World.putObj] using h.size,fun k hk=>(World.putObj_heap_other (by omega)).trans (h.block k hk)⟩
theorem blkPut {V:World} {D g:Nat} {t:TypeId} {cs:Array Value} {o:Obj} (h:Blk V g t cs) (hk:V.heap[D]?=some o) (ho:o.isCells=false) (o':Obj):Blk (V.putObj D o') g t cs:=
 (World.putObj_heap_other (fun e=>by subst e;rw[h] at hk;cases hk;cases ho)).trans h
structure MayI (w:World) (n:Int) (pre:List (Fin 64)) (W:World):Prop where
 bel:Below w.heap.size w W
 lim:Blk W w.heap.size 3 #[.int .i64 n]
 r:Blk W (w.heap.size+1) 4 #[.bool false]
 all: ∀x∈pre,(x.val:Int)<n
structure MayX (w:World) (n:Int) (c:Code) (pre:List (Fin 64)) (W:World):Prop where
 ret:c= .ret
 bel:Below w.heap.size w W
 r:Blk W (w.heap.size+1) 4 #[.bool false]
 no: ∃x∈pre,¬(x.val:Int)<n
theorem mayBits_true {b:Nat} {n:Int} (h: ∀x∈setBits b,(x.val:Int)<n):mayBits b n=true:=by
 unfold mayBits
 rw[List.all_eq_true]
 exact fun x hx=>decide_eq_true (h x hx)
theorem mayBits_false {b:Nat} {n:Int} {pre:List (Fin 64)} (hp:pre<+:setBits b) (h: ∃x∈pre,¬(x.val:Int)<n):mayBits b n=false:=by
 unfold mayBits
 rw[List.all_eq_false]
 obtain⟨x,hx,hn⟩:=h
 exact⟨x,hp.subset hx,by simpa using hn⟩
theorem May_in (b:Nat) (n:Int) (hb:b<18446744073709551616) (w:World):
  CallsIn Fence.wide 5 Tryz.prog 98 #[.int .u64 (b:Int),.int .i64 n] w fun e W'=>e= .returned (.bool (mayBits b n))∧Below w.heap.size w W':=by
 refine callsIn_of_wp_marks Tryz.func98 rfl trivial ?_ rfl
 simp only[Tryz.ntmps98,List.size_toArray,List.length_cons,List.length_nil,Nat.reduceAdd,Nat.reduceSub,Array.replicate_succ,Array.replicate_zero,List.push_toArray,List.append_toArray,List.nil_append,List.cons_append]
 gi_wp2_with fail
 refine⟨trivial,(Bits_make _ _ _).mono ?_⟩
 rintro e w1 ⟨rfl,rfl⟩
 gi_wp2_with fail
 generalize hW5:World.alloc _ (Obj.cells #[Value.int IntKind.u64 (b:Int)] 25)=W5
 have hsz:W5.heap.size=w.heap.size+3:=by rw[←hW5];simp
 have hbel:Below w.heap.size w W5:=by rw[←hW5];exact ba (ba (ba (Below.refl _ _) _) _) _
 have hn:Blk W5 w.heap.size 3 #[.int .i64 n]:=by rw[←hW5];exact((Blk.new w _ _).alloc _).alloc _
 have hr:Blk W5 (w.heap.size+1) 4 #[.bool false]:=by
  rw[←hW5]
  have:=Blk.new (w.alloc (Obj.cells #[Value.int IntKind.i64 n] 3)) 4 #[.bool false]
  simp only[World.size_alloc] at this
  exact this.alloc _
 have hs:W5.cell? ⟨w.heap.size+1+1,0,none⟩=some (.int .u64 (b:Int)):=by rw[←hW5];clear hW5;go_simp
 have HSZ:=hid hsz
 clear hW5 hsz
 refine wpIn_rangeFunc_ownG rfl (by omega) (gf:=139) (lb:= #[.pointer (some ⟨w.heap.size+1+1,0,none⟩)]) rfl trivial (enters_of Tryz.func139 (by kernel_rfl) rfl)
  (Bits_stops 4 b hb [] W5.heap.size (w.heap.size+1+1) W5 (by have:=HSZ.out;omega) (by simp) (Nat.le_refl _) hs) KeepN.trans ?hKb (Below.refl _ _) (fun _=>rfl)
  (MayI w n) (MayX w n) ?hI ?hX ⟨hbel,hn,hr,by simp⟩
  (fun x=>{ tmps:= #[.int .u64 (b:Int),.int .i64 n,undef,.pointer (some ⟨w.heap.size,0,none⟩),.pointer (some ⟨w.heap.size+1,0,none⟩),.int .i64 (x.val:Int),.int .u64 (b:Int),.func (.func 139) #[] #[.pointer (some ⟨w.heap.size+1+1,0,none⟩)],.int .i64 (x.val:Int),undef,undef,undef],defers:=[] }) ?assign ?body ?done ?stop
 case hKb=>
  intro W l o o' hl ho hc hw
  exact KeepN.putObj (KeepN.refl _ _ _) hl _
 case hI=>
  intro s A W row h hg hr
  have hr1: ∀r,row=some r→ ∃o:Obj,A.heap[r]?=some o∧o.isCells=false:=fun r e=>(hr r e).2
  exact⟨belGrown h.bel hg (by have:=HSZ.out;omega) (fun r e=>(hr r e).1),blkGrown h.lim hg hr1,blkGrown h.r hg hr1,h.all⟩
 case hX=>
  intro c s A W row h hg hr
  have hr1: ∀r,row=some r→ ∃o:Obj,A.heap[r]?=some o∧o.isCells=false:=fun r e=>(hr r e).2
  exact⟨h.ret,belGrown h.bel hg (by have:=HSZ.out;omega) (fun r e=>(hr r e).1),blkGrown h.r hg hr1,h.no⟩
 case assign=>
  intro l x W K hK
  gi_wp2
  exact hK
 case body=>
  rintro l pre x W hI hlt
  have y0:W.cell? ⟨w.heap.size,0,none⟩=some (.int .i64 n):=hI.lim.cell 0
  have y1:W.cell? ⟨w.heap.size+1,0,none⟩=some (.bool false):=hI.r.cell 0
  have y2:=hI.r.frozen 0
  have H:=hid hI
  clear hI
  by_cases hx:(x.val:Int)≥n
  ·gi_wp2
   have hr2:Blk (W.setCell ⟨w.heap.size+1,0,none⟩ (.bool false)) (w.heap.size+1) 4 #[.bool false]:=H.out.r.set_ 0 _
   exact⟨(KeepsOthers.setCell _ _ _).from _,rfl,H.out.bel.setCell (by show w.heap.size≤w.heap.size+1;omega) _,hr2,x,by simp,by omega⟩
  ·gi_wp2
   refine⟨KeepsFrom.refl _ _,KeepN.refl _ _ _,H.out.bel,H.out.lim,H.out.r,fun y hy=> ?_⟩
   rcases List.mem_append.1 hy with h | h
   ·exact H.out.all y h
   ·simp at h;subst h;omega
 case done=>
  rintro D xs W hD rfl hI hK
  have HZ:=hid (mayBits_true hI.all)
  have y1:W.cell? ⟨w.heap.size+1,0,none⟩=some (.bool false):=hI.r.cell 0
  have y2:=hI.r.frozen 0
  have H:=hid hI
  have HK:=hid hK
  clear hI hK
  gi_wp2
  have hk1:(W.setCell ⟨w.heap.size+1,0,none⟩ (.bool true)).heap[D]?=some (.deferred (some [])):=(KeepsOthers.setCell _ _ _).same D _ HK.out rfl
  have hr2:Blk (W.setCell ⟨w.heap.size+1,0,none⟩ (.bool true)) (w.heap.size+1) 4 #[.bool true]:=H.out.r.set_ 0 _
  have hr3:=(blkPut hr2 hk1 rfl (.deferred none)).cell 0
  refine⟨by simp,.inl ⟨_,_,rfl,run_takeDeferred hk1,?_⟩⟩
  refine⟨_,?_,by rw[HZ.out],belPut (H.out.bel.setCell (by show w.heap.size≤w.heap.size+1;omega) _) (by have:=HSZ.out;omega) _⟩
  simp[results,Tryz.results98,go_sem,hr3]
 case stop=>
  rintro D c pre W hD hp hX hK
  obtain rfl:=hX.ret
  have HZ:=hid (mayBits_false hp hX.no)
  have H:=hid hX
  have HK:=hid hK
  clear hX hK
  gi_wp2
  have hr3:=(blkPut H.out.r HK.out rfl (.deferred none)).cell 0
  refine⟨by simp,.inl ⟨_,_,rfl,run_takeDeferred HK.out,?_⟩⟩
  refine⟨_,?_,by rw[HZ.out],belPut H.out.bel (by have:=HSZ.out;omega) _⟩
  simp[results,Tryz.results98,go_sem,hr3]
theorem May_z (b:Nat) (n:Int) (hb:b<18446744073709551616) (w:World):Calls Tryz.prog 98 #[.int .u64 (b:Int),.int .i64 n] w fun e W'=>e= .returned (.bool (mayBits b n))∧Below w.heap.size w W':=
 callsIn_wide.1 (May_in b n hb w)
end
end Go.Proofs.YtjmaicckkkdjpaaGreat
/- Contracts of levee/geo's functions on addresses. -/
namespace Go.Proofs.YtjmaicckkkdjpaaGreat
open Go.RowKit
def fieldZ (b i:Int):Int:=if 0≤i∧i≤7 then b+8*i else 0
theorem Field_z (b i:Int) (w:World) (h0:0≤b) (h1:b≤1099511627776):
  Calls Tryz.prog 179 #[.int .u64 b,.int .i64 i] w fun e w'=>e= .returned (.int .u64 (fieldZ b i))∧w=w':=by
 by_cases h:0≤i∧i≤7
 ·have hi:=inB_t h
  have hz:Hid (fieldZ b i=b+8*i):=if_pos h
  obtain⟨h2,h3⟩:=h
  go_enter Tryz.func179,Tryz.ntmps179
  go_wp2_with fail
  refine(within_int _ _ _ _).mono ?_
  rintro e w2 ⟨rfl,rfl⟩
  go_wp2
  go_ret
  exact⟨by rw[hz.out];rfl,rfl⟩
 ·have hi:=inB_f h
  have hz:Hid (fieldZ b i=0):=if_neg h
  clear h
  go_enter Tryz.func179,Tryz.ntmps179
  go_wp2_with fail
  refine(within_int _ _ _ _).mono ?_
  rintro e w2 ⟨rfl,rfl⟩
  go_wp2
  go_ret
  exact⟨by rw[hz.out];rfl,rfl⟩
def bitsZ (s:Int):Int:=if 1≤s∧s≤64 then 1024*s+8 else 0
theorem Bits_z (s:Int) (w:World):
  Calls Tryz.prog 97 #[.int .i64 s] w fun e w'=>e= .returned (.int .u64 (bitsZ s))∧w=w':=by
 by_cases h:1≤s∧s≤64
 ·have hz:Hid (bitsZ s=1024*s+8):=if_pos h
  have hk:headerZ s=1024*s:=if_pos h
  obtain⟨h2,h3⟩:=h
  have hk1:1024≤headerZ s:=by omega
  have hk2:headerZ s≤65536:=by omega
  have hk3:(headerZ s==0)=false:=by simp;omega
  have Hk:=hid hk;clear hk
  go_enter Tryz.func97,Tryz.ntmps97
  go_wp2_with fail
  refine(Header_z _ _).mono ?_
  rintro e w2 ⟨rfl,rfl⟩
  go_wp2_with fail
  refine(Header_z _ _).mono ?_
  rintro e w2 ⟨rfl,rfl⟩
  go_wp2
  go_ret
  exact⟨by rw[hz.out,←Hk.out];rfl,rfl⟩
 ·have hz:Hid (bitsZ s=0):=if_neg h
  have hk:headerZ s=0:=if_neg h
  have hk3:(headerZ s==0)=true:=by rw[hk];rfl
  clear h hk
  go_enter Tryz.func97,Tryz.ntmps97
  go_wp2_with fail
  refine(Header_z _ _).mono ?_
  rintro e w2 ⟨rfl,rfl⟩
  go_wp2
  go_ret
  exact⟨by rw[hz.out];rfl,rfl⟩
end Go.Proofs.YtjmaicckkkdjpaaGreat
/- Contracts of levee/geo.Index (a loop that calls Block) and levee/geo.Class (a closure handed to slices.IndexFunc). -/
namespace Go.Proofs.YtjmaicckkkdjpaaGreat
open Go.RowKit
def fitsZ (n:Int):Int:=if n≤56 then 0 else if n≤120 then 1 else-1
def classZ (n:Int):Int:=if n<0 then 0 else 1+fitsZ n
end Go.Proofs.YtjmaicckkkdjpaaGreat
/- The walks of the statements of layer 3 (geo): each call returns true, and no memory that was there is turned. -/
namespace Go.Proofs.YtjmaicckkkdjpaaGreat
open Go.RowKit
end Go.Proofs.YtjmaicckkkdjpaaGreat
/- Contracts of the references of layer 3: Bytes, Header, Blocks, Block, Slabs. -/
namespace Go.Proofs.YtjmaicckkkdjpaaGreat
open Go.RowKit
end Go.Proofs.YtjmaicckkkdjpaaGreat
/- What other texts say in passing, for a seat without pmem: words of bytes, headers of an image. -/
namespace Go.Proofs.YtjmaicckkkdjpaaGreat
open Go.RowKit
def leW:List Int→Int
 | []=>0
 | b::bs=>b+256*leW bs
theorem leW_bounds: ∀{bs:List Int},(∀x∈bs,0≤x∧x<256)→0≤leW bs∧leW bs<2^ (8*bs.length)
 | [],_=>by simp[leW]
 | b::bs,h=>by
  have h1:=h b (List.mem_cons_self ..)
  have h2:=leW_bounds (bs:=bs) (fun x hx=>h x (List.mem_cons_of_mem _ hx))
  have e:(2:Int)^ (8*(b::bs).length)=256*2^ (8*bs.length):=by
   rw[List.length_cons,Nat.mul_add,Nat.mul_one,Int.pow_add]
   omega
  rw[e]
  simp only[leW]
  omega
theorem leW_snoc: ∀(bs:List Int) (c:Int),leW (bs++[c])=leW bs+c*2^ (8*bs.length)
 | [],c=>by simp[leW]
 | b::bs,c=>by
  have e:(2:Int)^ (8*(b::bs).length)=256*2^ (8*bs.length):=by
   rw[List.length_cons,Nat.mul_add,Nat.mul_one,Int.pow_add]
   omega
  rw[List.cons_append,leW,leW,leW_snoc bs c,e,Int.mul_add,Int.mul_left_comm]
  omega
def BytesIn (w:World) (p:Option Addr) (cap:Nat) (bs:List Int):Prop:=
 bs.length≤cap∧(∀x∈bs,0≤x∧x<256)∧(0<bs.length→ ∃b off,p=some ⟨b,off,none⟩∧b<w.heap.size∧ ∀i x,bs[i]?=some x→w.cell? ⟨b,off+i,none⟩=some (.int .u8 x))
def wAt (bs:List Int) (i:Nat):Int:=leW ((bs.drop (8*i)).take 8)
def wordsOf (bs:List Int):List Int:=(List.range (bs.length/8)).map (wAt bs)
def appRun (P:Program) (ats:Array TypeId) (ty:TypeId) (args:Array Value) (w:World):Result Value:=(Builtin.append_ ats ty args).run P w
def appM (ats:Array TypeId) (ty:TypeId) (args:Array Value):Sem Value:=Builtin.append_ ats ty args
theorem builtin_append_shut (ats:Array TypeId) (ty:TypeId) (cs:Array Bool) (args:Array Value):builtin .append ats ty cs args=(do pure (.value (←appM ats ty args))):=rfl
theorem appM_run (P:Program) (ats:Array TypeId) (ty:TypeId) (args:Array Value) (w:World):(appM ats ty args).run P w=appRun P ats ty args w:=rfl
theorem rowForm {w:World} {base:Nat} {e:TypeId} {size:Nat} {v:Value} {n:Nat} {xs:List Value} (h:w.ownsRow base e size v n xs): ∃a c,v= .slice a n c:=by
 rcases h.2 with⟨rfl,rfl⟩ | ⟨g,cap,cur,rfl,_⟩
 ·exact⟨_,_,rfl⟩
 ·exact⟨_,_,rfl⟩
def mayB (n:Nat):Bool:=decide (64≤n∧n≤1048576∧n % 64=0)
def isGet:List (Int×Int)→Int→Int
 | [],_=>0
 | x::l,a=>if x.1=a then x.2 else isGet l a
def nb (c:Nat):Nat:=(blocksZ c).toNat
theorem nb_eq (c:Nat):((nb c:Nat):Int)=blocksZ c:=by
 have:=blocksZ_le c
 unfold nb;omega
def clsAt (bs:List Int) (i:Nat):Nat:=(leW ((bs.drop (1024*i)).take 8)).toNat
def bitAt (bs:List Int) (i:Nat):Nat:=(leW ((bs.drop (1024*i+8)).take 8)).toNat
def headOK (bs:List Int) (i:Nat):Bool:=decide (clsAt bs i≤3)&&mayBits (bitAt bs i) (blocksZ (clsAt bs i))
theorem nb_le (c:Nat):nb c≤15:=by
 have:=blocksZ_le c
 unfold nb;omega
theorem bytesBel {w w':World} {p:Option Addr} {cap:Nat} {bs:List Int} (h:BytesIn w p cap bs) (hb:Below w.heap.size w w'):BytesIn w' p cap bs:=by
 refine⟨h.1,h.2.1,fun h0=> ?_⟩
 obtain⟨b,off,h1,h2,h3⟩:=h.2.2 h0
 exact⟨b,off,h1,Nat.lt_of_lt_of_le h2 hb.size,fun i x hx=>(hb.cell (p:=⟨b,off+i,none⟩) h2).trans (h3 i x hx)⟩
def at0 (xs:List Int) (i:Nat):Int:=(xs[i]?).getD 0
structure Key (X:Prop):Prop where
 out:X
theorem share {X G:Prop} (main:Key X→G) (key:X):G:=main ⟨key⟩
end Go.Proofs.YtjmaicckkkdjpaaGreat
/- Contracts of the references' words and bits: Take, Has, Put. -/
namespace Go.Proofs.YtjmaicckkkdjpaaGreat
open Go.RowKit
theorem own_base {w:World} {base:Nat} {e:TypeId} {size n:Nat} {v:Value} {xs:List Value} (h:w.ownsRow base e size v n xs): ∀k,v.ownBlock=some k→base≤k:=by
 intro k hk
 rcases h.2 with⟨h1,_⟩ | ⟨g,cap,cur,h1,h2,_⟩
 ·rw[h1] at hk;cases hk
 ·rw[h1] at hk
  have:g=k:=by simpa[Value.ownBlock] using hk
  omega
def byteN (n j:Nat):Int:=((n/256^j % 256:Nat):Int)
theorem byteN_le (n j:Nat):0≤byteN n j∧byteN n j<256:=by
 unfold byteN
 have:=Nat.mod_lt (n/256^j) (show 0<256 by omega)
 omega
theorem pow_256 (k:Nat):(2:Int)^ (8*k)=((256^k:Nat):Int):=by
 rw[Int.pow_mul,Int.natCast_pow]
 rfl
theorem leW_bytes (n:Nat): ∀k,leW ((List.range k).map (byteN n))=((n % 256^k:Nat):Int)
 | 0=>by
  show(0:Int)=((n % 256^0:Nat):Int)
  rw[Nat.pow_zero,Nat.mod_one];rfl
 | k+1=>by
  rw[List.range_succ,List.map_append,List.map_singleton,leW_snoc,leW_bytes n k,Nat.mod_pow_succ]
  rw[List.length_map,List.length_range,pow_256]
  unfold byteN
  rw[Int.natCast_add,Int.natCast_mul,Int.mul_comm]
theorem leW_word {n:Nat} (hn:n<18446744073709551616):leW ((List.range 8).map (byteN n))=(n:Int):=by
 rw[leW_bytes,Nat.mod_eq_of_lt (by exact hn)]
def putC (n i:Nat):Array Value:=((List.range 8).map fun j=>if j<i then Value.int .u8 (byteN n j) else .int .u8 0).toArray
theorem putC_succ (n i:Nat) (hi:i<8):(putC n i).setIfInBounds i (.int .u8 (byteN n i))=putC n (i+1):=by
 have:i=0∨i=1∨i=2∨i=3∨i=4∨i=5∨i=6∨i=7:=by omega
 rcases this with rfl | rfl | rfl | rfl | rfl | rfl | rfl | rfl<;>rfl
def putV (n:Nat):Value:= .agg #[.int .u8 (byteN n 0),.int .u8 (byteN n 1),.int .u8 (byteN n 2),.int .u8 (byteN n 3),.int .u8 (byteN n 4),.int .u8 (byteN n 5),.int .u8 (byteN n 6),.int .u8 (byteN n 7)]
end Go.Proofs.YtjmaicckkkdjpaaGreat
/- Bytes of one's own: a word laid in them (the law's set); bytes copied. -/
namespace Go.Proofs.YtjmaicckkkdjpaaGreat
open Go.RowKit
def byC (bs:List Int):Array Value:=(bs.map (Value.int .u8)).toArray
theorem byC_set (bs:List Int) (i:Nat) (x:Int):(byC bs).setIfInBounds i (.int .u8 x)=byC (bs.set i x):=by
 unfold byC
 simp[List.map_set]
theorem byC_get {bs:List Int} {i:Nat} {x:Int} (h:bs[i]?=some x):(byC bs)[i]?=some (.int .u8 x):=by
 simp[byC,h]
def putW (bs:List Int) (a x:Nat):List Int:=bs.take a++(List.range 8).map (byteN x)++bs.drop (a+8)
def putTo (bs:List Int) (a x i:Nat):List Int:=bs.take a++(List.range i).map (byteN x)++bs.drop (a+i)
theorem putTo_zero (bs:List Int) (a x:Nat):putTo bs a x 0=bs:=by unfold putTo;simp
theorem putTo_8 (bs:List Int) (a x:Nat):putTo bs a x 8=putW bs a x:=rfl
theorem putTo_len {bs:List Int} {a:Nat} (x:Nat) {i:Nat} (h:a+i≤bs.length):(putTo bs a x i).length=bs.length:=by
 unfold putTo
 simp
 omega
theorem putW_len {bs:List Int} {a:Nat} (x:Nat) (h:a+8≤bs.length):(putW bs a x).length=bs.length:=putTo_len x h
theorem putTo_next {bs:List Int} {a x i:Nat} (h:a+i<bs.length):(putTo bs a x i).set (a+i) (byteN x i)=putTo bs a x (i+1):=by
 unfold putTo
 have h1:(bs.take a++(List.range i).map (byteN x)).length=a+i:=by simp;omega
 rw[List.set_append_right _ _ (by omega),h1,Nat.sub_self,List.drop_eq_getElem_cons h,List.set_cons_zero,List.range_succ,List.map_append,←List.append_assoc,List.append_assoc _ _ (List.drop _ _)]
 rfl
theorem putTo_at {bs:List Int} {a x i:Nat} (h:a+i<bs.length): ∃y,(putTo bs a x i)[a+i]?=some y:=⟨_,List.getElem?_eq_getElem (by rw[putTo_len x (by omega)];exact h)⟩
theorem putW_byte {bs:List Int} (h: ∀x∈bs,0≤x∧x<256) (a x:Nat): ∀y∈putW bs a x,0≤y∧y<256:=by
 intro y hy
 unfold putW at hy
 rw[List.mem_append,List.mem_append] at hy
 rcases hy with(hy | hy) | hy
 ·exact h y (List.mem_of_mem_take hy)
 ·obtain⟨j,_,rfl⟩:=List.mem_map.1 hy
  exact byteN_le x j
 ·exact h y (List.mem_of_mem_drop hy)
def wdN (bs:List Int) (a:Nat):Int:=leW ((bs.drop a).take 8)
theorem putW_get {bs:List Int} {a x i:Nat} (h:a+8≤bs.length):(putW bs a x)[i]?=if i<a then bs[i]? else if i<a+8 then some (byteN x (i-a)) else bs[i]?:=by
 unfold putW
 by_cases h1:i<a
 ·rw[if_pos h1,List.append_assoc,List.getElem?_append_left (by simp;omega),List.getElem?_take,if_pos h1]
 ·rw[if_neg h1]
  by_cases h2:i<a+8
  ·rw[if_pos h2,List.getElem?_append_left (by simp;omega),List.getElem?_append_right (by simp;omega)]
   have e:i- (bs.take a).length=i-a:=by simp;omega
   rw[e,List.getElem?_map,List.getElem?_range (by omega)];rfl
  ·rw[if_neg h2,List.getElem?_append_right (by simp;omega),List.getElem?_drop]
   congr 1
   simp;omega
theorem wdN_same {bs:List Int} {a x:Nat} (h:a+8≤bs.length) (hx:x<18446744073709551616):wdN (putW bs a x) a=x:=by
 unfold wdN
 have:((putW bs a x).drop a).take 8=(List.range 8).map (byteN x):=by
  apply List.ext_getElem?
  intro j
  rw[List.getElem?_take]
  by_cases hj:j<8
  ·rw[if_pos hj,List.getElem?_drop,putW_get h,if_neg (by omega),if_pos (by omega),List.getElem?_map,List.getElem?_range hj,Nat.add_sub_cancel_left];rfl
  ·rw[if_neg hj,List.getElem?_eq_none (by simp;omega)]
 rw[this,leW_word hx]
theorem wdN_other {bs:List Int} {a b x:Nat} (h:a+8≤bs.length) (hb:b+8≤a∨a+8≤b):wdN (putW bs a x) b=wdN bs b:=by
 unfold wdN
 congr 1
 apply List.ext_getElem?
 intro j
 rw[List.getElem?_take,List.getElem?_take]
 by_cases hj:j<8
 ·rw[if_pos hj,if_pos hj,List.getElem?_drop,List.getElem?_drop,putW_get h]
  rcases hb with hb | hb
  ·rw[if_pos (by omega)]
  ·rw[if_neg (by omega),if_neg (by omega)]
 ·rw[if_neg hj,if_neg hj]
theorem bytesIn_blk {w:World} {g n:Nat} {bs:List Int} (h:Blk w g 5 (byC bs)) (hb: ∀x∈bs,0≤x∧x<256) (hn:bs.length≤n):BytesIn w (some ⟨g,0,none⟩) n bs:=
 ⟨hn,hb,fun _=>⟨g,0,rfl,h.lt,fun i x hx=>by rw[h.cell,Nat.zero_add];exact byC_get hx⟩⟩
def ByArg (w:World) (v:Value) (bs:List Int):Prop:=
 (∀x∈bs,0≤x∧x<256)∧((v= .slice none 0 0∧bs=[])∨ ∃a cap,v= .slice (some a) bs.length cap∧bs.length≤cap∧cap≤maxLen∧(bs=[]∨ ∃b off,a=⟨b,off,none⟩∧b<w.heap.size∧ ∀i x,bs[i]?=some x→w.cell? ⟨b,off+i,none⟩=some (.int .u8 x)))
theorem ByArg.bel {w w':World} {v:Value} {bs:List Int} (h:ByArg w v bs) (hb:Below w.heap.size w w'):ByArg w' v bs:=by
 refine⟨h.1,?_⟩
 rcases h.2 with h | ⟨a,cap,h1,h2,h3,h4⟩
 ·exact Or.inl h
 ·refine Or.inr ⟨a,cap,h1,h2,h3,?_⟩
  rcases h4 with h4 | ⟨b,off,h4,h5,h6⟩
  ·exact Or.inl h4
  ·exact Or.inr ⟨b,off,h4,Nat.lt_of_lt_of_le h5 hb.size,fun i x hi=>(hb.cell (p:=⟨b,off+i,none⟩) h5).trans (h6 i x hi)⟩
theorem by_conv {w:World} {p:Option Addr} {cap:Nat} {bs:List Int} (h:ByArg w (.slice p bs.length cap) bs):(convert 47 9 (.slice p bs.length cap)).run Tryz.prog w= .ok (.string (strOfNums bs)) w:=by
 by_cases h0:bs=[]
 ·subst h0
  rw[List.length_nil,run_convert_bytes_string (P:=Tryz.prog) w 47 9 5 p 0 cap Tryz.underlying47 Tryz.underlying5 Tryz.underlying9]
  cases p<;>simp[Conv.bytesToString,loadCells]
  all_goals rfl
 ·rcases h.2 with⟨_,hb⟩ | ⟨a,cap',e,h2,h3,h4⟩
  ·exact absurd hb h0
  ·injection e with e1 _ e3
   subst e1 e3
   obtain⟨b,off,rfl,h5,h6⟩:=h4.resolve_left h0
   refine run_convert_bytes_arg (P:=Tryz.prog) w 47 5 Tryz.underlying47 Tryz.underlying5 b off bs.length cap bs rfl (fun i hi=> ?_) 9 Tryz.underlying9
   rw[List.getD_eq_getElem?_getD,List.getElem?_eq_getElem hi]
   exact h6 i _ (List.getElem?_eq_getElem hi)
end Go.Proofs.YtjmaicckkkdjpaaGreat
