import Derived.Test.YtibiekfjbibpbaaGreatAppM
set_option maxRecDepth 100000
set_option maxHeartbeats 2000000
set_option linter.unusedVariables false
set_option linter.unusedSimpArgs false
namespace Go.Proofs.YtibiekfjbibpbaaGreat
section
open Go.RowKit
def bitZ (j:Int):Int:=if 0<=j/\j<64 then(2:Int)^j.toNat else 0
def hasB (b:Nat) (j:Nat):Bool:=b.testBit j
theorem v9e (j:Int) (w:World):Calls Tryz.prog 212 #[.int .i64 j] w fun e w'=>e= .returned (.int .u64 (bitZ j))/\w=w':=by
 by_cases h1:j<0;·have HZ:=hid (show bitZ j=0 from if_neg (by omega));go_enter Tryz.func212,Tryz.ntmps212;go_wp2;go_ret;exact⟨by rw[HZ.out];rfl,rfl⟩
 ·by_cases h2:j≥64;·have HZ:=hid (show bitZ j=0 from if_neg (by omega));go_enter Tryz.func212,Tryz.ntmps212;go_wp2;go_ret;exact⟨by rw[HZ.out];rfl,rfl⟩
  ·obtain⟨k,rfl⟩:=Bk (show 0<=j by omega);have hk:k<64:=by omega
   have HZ:=hid (show bitZ (k:Int)=(2:Int)^k by unfold bitZ;rw[if_pos (by omega)];simp)
   have hw:IntKind.u64.wrap (2^k:Int)=(2:Int)^k:=by
    have h1:2^k<=2^63:=As (by omega) (by omega);have h2:((2:Int)^k)=((2^k:Nat):Int):=by simp
    rw[h2];generalize 2^k=y at*;exact IntWalk.u64_in _ (by omega)
   go_enter Tryz.func212,Tryz.ntmps212;go_wp2;go_ret;exact⟨by rw[HZ.out];rfl,rfl⟩
theorem v4s (b k:Nat):b&&&2^k=if b.testBit k then 2^k else 0:=by
 apply Nat.eq_of_testBit_eq;intro i;rw[Nat.testBit_and,Nat.testBit_two_pow];by_cases h:k=i;·subst h;cases hb:b.testBit k<;>simp
 ·cases hb:b.testBit k<;>simp[h]
theorem v4i (b k:Nat) (hb:b<18446744073709551616) (hk:k<64):(bits BinOp.and IntKind.u64 (b:Int) ((2:Int)^k) !=0)=hasB b k:=by
 have h1:2^k<=2^63:=As (by omega) (by omega);have h2:((2:Int)^k)=((2^k:Nat):Int):=by simp
 rw[h2,bits_and_u64_nat b (2^k) hb (by generalize 2^k=y at*;omega),v4s b k,Bool.eq_iff_iff];unfold hasB;have hp:2^k≠0:=by have:=Nat.two_pow_pos k;omega
 cases b.testBit k;·simp
 ·simp;intro h;exact hp (by exact_mod_cast h)
theorem v9j (b k:Nat) (hb:b<18446744073709551616) (hk:k<64) (w:World):Calls Tryz.prog 157 #[.int .u64 (b:Int),.int .i64 (k:Int)] w fun e w'=>e= .returned (.bool (hasB b k))/\w=w':=by have HB:=hid (show bitZ (k:Int)=(2:Int)^k by unfold bitZ;rw[if_pos (by omega)];simp);have HA:=hid (v4i b k hb hk);go_enter Tryz.func157,Tryz.ntmps157;go_wp2_with fail;refine(v9e _ _).mono ?_;rintro e w1 ⟨rfl,rfl⟩;rw[HB.out];have hA:=HA.out;go_wp2;go_ret;exact⟨rfl,rfl⟩
end
section
open Go.RowKit Go.Shelf
attribute [local go_sem] Oper.semAt_some
def q0t (b:Nat):List (Fin 64):=(List.finRange 64).filter fun j=>hasB b j.val
def q3q (b i:Nat):List (Fin 64):=((List.finRange 64).take i).filter fun j=>hasB b j.val
theorem q6k {b i:Nat} (hi:i<64):q3q b (i+1)=if hasB b i then q3q b i++[⟨i,hi⟩] else q3q b i:=by
 unfold q3q;rw[BF (by simpa using hi),Aq];simp only[List.getElem_finRange,List.filter_cons,List.filter_nil];by_cases h:hasB b i=true;·simp[h]
 ·simp[h]
theorem q3s (b i:Nat):(q3q b i).length<=i:=by unfold q3q;exact AH (Ao _ _) (by simp;omega)
theorem z6j (b i:Nat):q3q b i<+:q0t b:=by unfold q3q q0t;exact List.IsPrefix.filter _ (DO _ _)
theorem v3y (n b:Nat) (hb:b<18446744073709551616) (F:List Nat) (N0 l Bs:Nat) (J Jx:List (Fin 64)->World->Prop) (W:World)
  (hJ:AbidesFrom W.heap.size J) (Y:Bs<N0) (O:Bs∉F) (hN:N0<=W.heap.size)
  (hY:∀pre (x:Fin 64) W1,J pre W1->pre.length<64->YieldAt Fence.wide (n-1) Tryz.prog l #[.int .i64 (x.val:Int)] W1 fun e W'=>(e= .returned (.bool true)/\J (pre++[x]) W'/\q0u F N0 W1 W')\/(e= .returned (.bool false)/\Jx (pre++[x]) W'))
  (hs:W.cell? ⟨Bs,0,none⟩=some (.int .u64 (b:Int))) (h0:J [] W):
  CallsIn Fence.wide n Tryz.prog 158 #[.func (.yield l) #[] #[],.pointer (some ⟨Bs,0,none⟩)] W fun e W'=>(∃v,e= .returned v)/\
   ((∃ys,ys=q0t b/\J ys W')\/(∃pre,pre<+:q0t b/\Jx pre W')):=by
 refine callsIn_of_wp Tryz.func158 rfl trivial ?_ rfl;simp only[Tryz.ntmps158,List.size_toArray,List.length_cons,List.length_nil,Nat.reduceAdd,Nat.reduceSub,Array.replicate_succ,Array.replicate_zero,List.push_toArray,List.append_toArray,List.nil_append,List.cons_append];have HS:=hid hs;clear hs;gi_wp2_with fail;gi_loopw [4] (fun i wr=> ∃k:Nat,k<=64/\i= .int .i64 k/\J (q3q b k) wr/\q0u F N0 W wr) (fun i _=>(64- (intOf i).toNat));case atStart=>exact⟨0,by omega,rfl,h0,q0u.refl _ _ _⟩
 case round=>
  obtain⟨i,hi,rfl,L,hK⟩:=hrel;have x1:=(hK.cell (p:=⟨Bs,0,none⟩) Y O).trans HS.out;by_cases hlt:i<64
  ·have i1:(0:Int)<=(i:Int):=by omega
   have i2:(i:Int)<64:=by omega
   gi_wp2_with fail;refine⟨trivial,(fun h=>by simp[Fence.wide] at h),(callsIn_wide.2 (v9j b i hb hlt _)).mono ?_⟩;rintro e w1 ⟨rfl,rfl⟩;cases hh:hasB b i
   ·have hT:=hid (show q3q b (i+1)=q3q b i by rw[q6k hlt,hh];rfl);gi_wp2;refine⟨(by intro f h;simp at h),?_⟩;gi_wp2;go_roundw;case rel=>exact⟨i+1,by omega,by go_num,by rw[hT.out];exact L,hK⟩
    case measure=>simp[intOf];omega
   ·obtain⟨fn,tmps,assign,body,hy,hR⟩:=hY _ (⟨i,hlt⟩:Fin 64) _ L (by have:=q3s b i;omega);have hT:q3q b i++[⟨i,hlt⟩]=q3q b (i+1):=by rw[q6k hlt,hh];rfl
    have HR:=hid hR;have HT:=hid hT;clear hR L hT;gi_wp2_with fail;refine⟨fun h=>by simp[Fence.wide] at h,HR.out.mono ?_⟩;rintro e W3 (⟨rfl,U,S⟩|⟨rfl,I⟩)
    ·rw[HT.out] at U;have K3:=hid (hK.trans S);clear hK S x1 hy;gi_wp2;go_roundw;case rel=>exact⟨i+1,by omega,by go_num,U,K3.out⟩
     case measure=>simp[intOf];omega
    ·rw[HT.out] at I;gi_wp2;refine bodyPost_ret (results_none rfl _ _ _) rfl ?_;exact⟨⟨_,rfl⟩,.inr ⟨_,z6j b (i+1),I⟩⟩
  ·obtain rfl:i=64:=by omega
   have M:J (q0t b) wr:=L;have i2: ¬(64:Int)<64:=by omega
   gi_wp2;go_end0;first|exact⟨⟨_,rfl⟩,.inl ⟨_,rfl,M⟩⟩|exact⟨⟨_,rfl⟩,.inl M⟩|exact .inl M
theorem z3r (n b:Nat) (hb:b<18446744073709551616) (F:List Nat) (N0 Bs:Nat) (w:World) (L:Bs<N0) (I:Bs∉F) (hN:N0<=w.heap.size)
  (hs:w.cell? ⟨Bs,0,none⟩=some (.int .u64 (b:Int))):
  SeqStopsK Fence.wide n Tryz.prog 158 #[.pointer (some ⟨Bs,0,none⟩)] (fun x:Fin 64=> #[.int .i64 (x.val:Int)]) (q0u F N0) (fun ys=>ys=q0t b) (fun pre=>pre<+:q0t b) 64 w:=by
 intro l J Jx W hW hJ _ hY h0;have h1:=(hW.cell (p:=⟨Bs,0,none⟩) (World.block_lt_of_cell? w _ hs)).trans hs;exact v3y n b hb F N0 l Bs J Jx W hJ L I (AH hN hW.size) hY h1 h0
theorem z7h (n:Nat) (b:Int) (w:World):
  CallsIn Fence.wide n Tryz.prog 70 #[.int .u64 b] w fun e w'=>e= .returned (.func (.func 158) #[] #[.pointer (some ⟨w.heap.size,0,none⟩)])/\w'=w.alloc (.cells #[.int .u64 b] 46):=by
 refine callsIn_of_wp Tryz.func70 rfl trivial ?_ rfl;simp only[Tryz.ntmps70,List.size_toArray,List.length_cons,List.length_nil,Nat.reduceAdd,Nat.reduceSub,Array.replicate_succ,Array.replicate_zero,List.push_toArray,List.append_toArray,List.nil_append,List.cons_append];gi_wp2;go_ret;exact⟨rfl,rfl⟩
end
section
open Go.RowKit Go.Shelf
attribute [local go_sem] Oper.semAt_some
def q4y (b:Nat) (n:Int):Bool:=(q0t b).all fun j=>decide ((j.val:Int)<n)
theorem z4a {W W':World} {row:Option Nat} {g:Nat} {t:TypeId} {cs:Array Value} (h:Blk W g t cs) (hg:W.grownBy W' row) (hr:∀r,row=some r-> ∃o:Obj,W.heap[r]?=some o/\o.isCells=false):Blk W' g t cs:=by refine h.grown hg fun e=> ?_;obtain⟨o,ho,hc⟩:=hr g e.symm;rw[h] at ho;cases ho;cases hc
theorem z5q {w W W':World} {row:Option Nat} {B:Nat} (h:Below w.heap.size w W) (hg:W.grownBy W' row) (hB:w.heap.size<=B) (hr:∀r,row=some r->B<=r):Below w.heap.size w W':=⟨hg.os.trans h.os,hg.tape.trans h.tape,hg.output.trans h.output,AH h.size hg.size,fun k hk=>(hg.block k (AL hk h.size) (fun e=>by have:=hr k e.symm;omega)).trans (h.block k hk)⟩
theorem v3d {w V:World} {D:Nat} (h:Below w.heap.size w V) (hD:w.heap.size<=D) (o:Obj):Below w.heap.size w (V.putObj D o):=⟨h.os,h.tape,h.output,by simpa[World.putObj] using h.size,fun k hk=>(World.putObj_heap_other (by omega)).trans (h.block k hk)⟩
theorem v3c {V:World} {D g:Nat} {t:TypeId} {cs:Array Value} {o:Obj} (h:Blk V g t cs) (hk:V.heap[D]?=some o) (ho:o.isCells=false) (o':Obj):Blk (V.putObj D o') g t cs:=(World.putObj_heap_other (fun e=>by subst e;rw[h] at hk;cases hk;cases ho)).trans h
structure MayI (w:World) (n:Int) (pre:List (Fin 64)) (W:World):Prop where
 bel:Below w.heap.size w W
 lim:Blk W w.heap.size 3 #[.int .i64 n]
 r:Blk W (w.heap.size+1) 4 #[.bool false]
 all:∀x∈pre,(x.val:Int)<n
structure MayX (w:World) (n:Int) (c:Code) (pre:List (Fin 64)) (W:World):Prop where
 ret:c= .ret
 bel:Below w.heap.size w W
 r:Blk W (w.heap.size+1) 4 #[.bool false]
 no:∃x∈pre,¬(x.val:Int)<n
theorem q6a {b:Nat} {n:Int} (h:∀x∈q0t b,(x.val:Int)<n):q4y b n=true:=by unfold q4y;rw[Bc];exact fun x hx=>AT (h x hx)
theorem q9l {b:Nat} {n:Int} {pre:List (Fin 64)} (hp:pre<+:q0t b) (h:∃x∈pre,¬(x.val:Int)<n):q4y b n=false:=by unfold q4y;rw[DK];obtain⟨x,hx,hn⟩:=h;exact⟨x,hp.subset hx,by simpa using hn⟩
theorem v9p (b:Nat) (n:Int) (hb:b<18446744073709551616) (w:World):
  CallsIn Fence.wide 5 Tryz.prog 183 #[.int .u64 (b:Int),.int .i64 n] w fun e W'=>e= .returned (.bool (q4y b n))/\Below w.heap.size w W':=by
 refine callsIn_of_wp_marks Tryz.func183 rfl trivial ?_ rfl;simp only[Tryz.ntmps183,List.size_toArray,List.length_cons,List.length_nil,Nat.reduceAdd,Nat.reduceSub,Array.replicate_succ,Array.replicate_zero,List.push_toArray,List.append_toArray,List.nil_append,List.cons_append];gi_wp2_with fail;refine⟨trivial,(z7h _ _ _).mono ?_⟩;rintro e w1 ⟨rfl,rfl⟩;gi_wp2_with fail;generalize hW5:World.alloc _ (Obj.cells #[Value.int IntKind.u64 (b:Int)] 46)=W5;have U:W5.heap.size=w.heap.size+3:=by rw[<- hW5];simp
 have hbel:Below w.heap.size w W5:=by rw[<- hW5];exact ba (ba (ba (Below.refl _ _) _) _) _
 have hn:Blk W5 w.heap.size 3 #[.int .i64 n]:=by rw[<- hW5];exact((Blk.new w _ _).alloc _).alloc _
 have hr:Blk W5 (w.heap.size+1) 4 #[.bool false]:=by rw[<- hW5];have:=Blk.new (w.alloc (Obj.cells #[Value.int IntKind.i64 n] 3)) 4 #[.bool false];simp only[World.size_alloc] at this;exact this.alloc _
 have hs:W5.cell? ⟨w.heap.size+1+1,0,none⟩=some (.int .u64 (b:Int)):=by rw[<- hW5];clear hW5;go_simp
 have I:=hid U;clear hW5 U
 refine wpIn_rangeFunc_ownG rfl (by omega) (gf:=158) (lb:= #[.pointer (some ⟨w.heap.size+1+1,0,none⟩)]) rfl trivial (enters_of Tryz.func158 (by kernel_rfl) rfl)
  (z3r 4 b hb [] W5.heap.size (w.heap.size+1+1) W5 (by have:=I.out;omega) (by simp) (AG _) hs) q0u.trans ?hKb (Below.refl _ _) (fun _=>rfl)
  (MayI w n) (MayX w n) ?hI ?hX ⟨hbel,hn,hr,by simp⟩
  (fun x=>{ tmps:= #[.int .u64 (b:Int),.int .i64 n,undef,.pointer (some ⟨w.heap.size,0,none⟩),.pointer (some ⟨w.heap.size+1,0,none⟩),.int .i64 (x.val:Int),.int .u64 (b:Int),.func (.func 158) #[] #[.pointer (some ⟨w.heap.size+1+1,0,none⟩)],.int .i64 (x.val:Int),undef,undef,undef],defers:=[] }) ?assign ?body ?done ?stop
 case hKb=>intro W l o o' hl ho hc hw;exact q0u.putObj (q0u.refl _ _ _) hl _
 case hI=>intro s A W row h hg hr;have L:∀r,row=some r-> ∃o:Obj,A.heap[r]?=some o/\o.isCells=false:=fun r e=>(hr r e).2;exact⟨z5q h.bel hg (by have:=I.out;omega) (fun r e=>(hr r e).1),z4a h.lim hg L,z4a h.r hg L,h.all⟩
 case hX=>intro c s A W row h hg hr;have L:∀r,row=some r-> ∃o:Obj,A.heap[r]?=some o/\o.isCells=false:=fun r e=>(hr r e).2;exact⟨h.ret,z5q h.bel hg (by have:=I.out;omega) (fun r e=>(hr r e).1),z4a h.r hg L,h.no⟩
 case assign=>intro l x W K hK;gi_wp2;exact hK
 case body=>
  rintro l pre x W hI hlt;have y0:W.cell? ⟨w.heap.size,0,none⟩=some (.int .i64 n):=hI.lim.cell 0;have y1:W.cell? ⟨w.heap.size+1,0,none⟩=some (.bool false):=hI.r.cell 0;have y2:=hI.r.frozen 0;have H:=hid hI;clear hI;by_cases hx:(x.val:Int)≥n;·gi_wp2;have O:Blk (W.setCell ⟨w.heap.size+1,0,none⟩ (.bool false)) (w.heap.size+1) 4 #[.bool false]:=H.out.r.set_ 0 _;exact⟨(KeepsOthers.setCell _ _ _).from _,rfl,H.out.bel.setCell (by show w.heap.size<=w.heap.size+1;omega) _,O,x,by simp,by omega⟩
  ·gi_wp2;refine⟨KeepsFrom.refl _ _,q0u.refl _ _ _,H.out.bel,H.out.lim,H.out.r,fun y hy=> ?_⟩;rcases An.1 hy with h|h;·exact H.out.all y h
   ·simp at h;subst h;omega
 case done=>rintro D xs W hD rfl hI hK;have HZ:=hid (q6a hI.all);have y1:W.cell? ⟨w.heap.size+1,0,none⟩=some (.bool false):=hI.r.cell 0;have y2:=hI.r.frozen 0;have H:=hid hI;have HK:=hid hK;clear hI hK;gi_wp2;have S:(W.setCell ⟨w.heap.size+1,0,none⟩ (.bool true)).heap[D]?=some (.deferred (some [])):=(KeepsOthers.setCell _ _ _).same D _ HK.out rfl;have O:Blk (W.setCell ⟨w.heap.size+1,0,none⟩ (.bool true)) (w.heap.size+1) 4 #[.bool true]:=H.out.r.set_ 0 _;have M:=(v3c O S rfl (.deferred none)).cell 0;refine⟨by simp,.inl ⟨_,_,rfl,run_takeDeferred S,?_⟩⟩;refine⟨_,?_,by rw[HZ.out],v3d (H.out.bel.setCell (by show w.heap.size<=w.heap.size+1;omega) _) (by have:=I.out;omega) _⟩;simp[results,Tryz.results183,go_sem,M]
 case stop=>rintro D c pre W hD hp hX hK;obtain rfl:=hX.ret;have HZ:=hid (q9l hp hX.no);have H:=hid hX;have HK:=hid hK;clear hX hK;gi_wp2;have M:=(v3c H.out.r HK.out rfl (.deferred none)).cell 0;refine⟨by simp,.inl ⟨_,_,rfl,run_takeDeferred HK.out,?_⟩⟩;refine⟨_,?_,by rw[HZ.out],v3d H.out.bel (by have:=I.out;omega) _⟩;simp[results,Tryz.results183,go_sem,M]
theorem v9u (b:Nat) (n:Int) (hb:b<18446744073709551616) (w:World):Calls Tryz.prog 183 #[.int .u64 (b:Int),.int .i64 n] w fun e W'=>e= .returned (.bool (q4y b n))/\Below w.heap.size w W':=callsIn_wide.1 (v9p b n hb w)
end
end Go.Proofs.YtibiekfjbibpbaaGreat
