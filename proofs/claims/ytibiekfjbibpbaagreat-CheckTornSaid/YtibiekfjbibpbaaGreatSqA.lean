/- The chapter's rows of layer 23. -/
import Derived.Test.YtibiekfjbibpbaaGreatByteW
set_option maxRecDepth 100000
set_option maxHeartbeats 4000000
set_option linter.unusedVariables false
set_option linter.unusedSimpArgs false
namespace Go.Proofs.YtibiekfjbibpbaaGreat
open Go.RowKit
theorem bytesIn_blk {w:World} {g n:Nat} {bs:List Int} (h:Blk w g 5 (byC bs)) (hb: ∀x∈bs,0≤x∧x<256) (hn:bs.length≤n):q1m w (some ⟨g,0,none⟩) n bs:=
 ⟨hn,hb,fun _=>⟨g,0,rfl,h.lt,fun i x hx=>by rw[h.cell,Nat.zero_add];exact z2r hx⟩⟩
structure StW (w:World) (g bx:Nat) (bs:List Int) (a x i:Nat) (W:World):Prop where
 by':Blk W g 5 (byC (z3h bs a x i))
 box: ∀j,j<8→W.cell? ⟨bx,j,none⟩=some (.int .u8 (q0g x j))
 only:Only [g] w W
 lt:w.heap.size≤bx∧bx<W.heap.size
theorem SetW_z (g n cap:Nat) (bs:List Int) (a x:Nat) (hx:x<18446744073709551616) (hn:n=bs.length) (ha:a+8≤bs.length) (hl:bs.length≤1000000) (w:World) (h:Blk w g 5 (byC bs)):
  Calls Tryz.prog 21 #[.slice (some ⟨g,0,none⟩) n cap,.int .i64 (a:Int),.int .u64 (x:Int)] w fun e w'=>e= .returned (.tuple #[])∧Blk w' g 5 (byC (putW bs a x))∧Only [g] w w':=by
 have PT:=hid (y0b x hx w)
 have HN:=hid (⟨hn,ha,hl⟩:_∧_∧_)
 have H:=hid h
 clear hn ha hl h hx
 go_enter Tryz.func21,Tryz.ntmps21
 go_wp2_with fail
 refine PT.out.mono ?_
 rintro e w1 ⟨rfl,hb1⟩
 obtain⟨W2,hW2⟩: ∃W2,W2=w1.alloc (.cells #[.int .u8 (q0g x 0),.int .u8 (q0g x 1),.int .u8 (q0g x 2),.int .u8 (q0g x 3),.int .u8 (q0g x 4),.int .u8 (q0g x 5),.int .u8 (q0g x 6),.int .u8 (q0g x 7)] 170):=⟨_,rfl⟩
 obtain⟨bx,hbx⟩: ∃bx,bx=w1.heap.size:=⟨_,rfl⟩
 have hb2:Below w1.heap.size w1 W2:=by rw[hW2];exact ba (Below.refl _ _) _
 have k6:Blk W2 bx 170 #[.int .u8 (q0g x 0),.int .u8 (q0g x 1),.int .u8 (q0g x 2),.int .u8 (q0g x 3),.int .u8 (q0g x 4),.int .u8 (q0g x 5),.int .u8 (q0g x 6),.int .u8 (q0g x 7)]:=by rw[hW2,hbx];exact Blk.new _ _ _
 have HI0:Hid (StW w g bx bs a x 0 W2):=by
  have hb:=hb1.trans (hb2.mono hb1.size)
  refine hid ⟨by rw[x2o];exact H.out.bel hb,fun j hj=> ?_,Only.of_below hb _,by have:=hb1.size;omega,k6.lt⟩
  rw[k6.cell]
  rcases(by omega:j=0∨j=1∨j=2∨j=3∨j=4∨j=5∨j=6∨j=7) with rfl | rfl | rfl | rfl | rfl | rfl | rfl | rfl<;>rfl
 have HW2:=hid hW2
 have HBX:=hid hbx
 clear hb1 hb2 k6 hW2 hbx
 unfold putV
 go_wp2
 rw[←HW2.out,←HBX.out]
 go_loopw [7] (fun iv wr=> ∃i:Nat,i≤8∧iv= .int .i64 (i:Int)∧Hid (StW w g bx bs a x i wr)) (fun iv _=>8- (intOf iv).toNat)
 case atStart=>exact⟨0,Nat.zero_le _,rfl,HI0⟩
 case round=>
  obtain⟨i,hi,rfl,hI⟩:=hrel
  obtain⟨wA,rfl⟩: ∃y,y=wr:=⟨_,rfl⟩
  have i0:(0:Int)≤(i:Int):=by omega
  by_cases hi8:i<8
  ·have i1:(i:Int)<8:=by omega
   obtain⟨y,hy⟩:=v1r (bs:=bs) (a:=a) (x:=x) (i:=i) (by have:=HN.out.2.1;omega)
   have cg:wA.cell? ⟨g,a+i,none⟩=some (.int .u8 y):=(hI.out.by'.cell (a+i)).trans (z2r hy)
   have fg:=hI.out.by'.frozen (a+i)
   have cb:=hI.out.box i hi8
   have wa:IntKind.i64.wrap ((a:Int)+(i:Int))=((a+i:Nat):Int):=by
    rw[IntWalk.i64_in _ (by have:=HN.out;constructor<;>omega)];omega
   have hN:Hid (StW w g bx bs a x (i+1) (wA.setCell ⟨g,a+i,none⟩ (.int .u8 (q0g x i)))):=by
    have o:Only [g] wA (wA.setCell ⟨g,a+i,none⟩ (.int .u8 (q0g x i))):=(Only.refl _ _).setCell (Or.inl (by simp)) _
    have hg:=H.out.lt
    have hl:=hI.out.lt
    have hb:=hI.out.by'.set_ (a+i) (.int .u8 (q0g x i))
    rw[x0w,x3e (by have:=HN.out.2.1;omega)] at hb
    refine hid ⟨hb,fun j hj=>(o.cell (p:=⟨bx,j,none⟩) hl.2 (by simp;omega)).trans (hI.out.box j hj),hI.out.only.trans o (fun _ h=>Or.inl h),hl.1,Nat.lt_of_lt_of_le hl.2 o.size⟩
   have a0:(0:Int)≤((a+i:Nat):Int):=by omega
   have a1:((a+i:Nat):Int)< (n:Int):=by have:=HN.out;omega
   obtain⟨q,hq⟩: ∃q,q=a+i:=⟨_,rfl⟩
   rw[←hq] at cg fg wa hN a0 a1
   have HI8:=hid hi8
   clear hy hq hi8 hi hI
   go_wp2
   go_roundw
   case rel=>exact⟨i+1,HI8.out,by go_num,hN⟩
   case measure=>simp[intOf];have:=HI8.out;omega
  ·obtain rfl:i=8:=by omega
   have i1: ¬((8:Nat):Int)<8:=by omega
   clear hi hi8
   go_wp2
   refine bodyPost_end (v:= .tuple #[]) (by simp[results,Tryz.results21,go_sem]) rfl ?_
   exact⟨rfl,by have:=hI.out.by';rw[v5o] at this;exact this,hI.out.only⟩
section
def smallB:List Int:=putW (putW (putW (putW (putW (putW (putW (putW (List.replicate 3072 0) 0 5929342154728227142) 8 3072) 16 1088) 24 18446744073709548543) 1024 3) 1032 1) 1088 5495893775785918464) 1120 1088
theorem small_len:smallB.length=3072:=by decide+kernel
theorem small_byte: ∀x∈smallB,0≤x∧x<256:=by
 unfold smallB
 repeat refine q7z ?_ _ _
 intro x hx
 rw[List.mem_replicate] at hx
 rw[hx.2];decide
def smallN:NodeA:=q5t (q2p smallB 1088)
theorem small_ok:q1a smallB [[(1088,smallN)]] []:=by
 have hl:(smallB.length:Int)=3072:=by rw[small_len];rfl
 have hs:q0w smallB.length=2:=by rw[hl];decide
 have w2:wAt smallB 2=1088:=by decide+kernel
 have hn:q1y smallB 1088=some smallN:=by
  unfold q1y
  rw[if_pos (by decide+kernel)]
  rfl
 refine⟨⟨by rw[hs];decide,fun i h1 h2=> ?_⟩,⟨by decide+kernel,by decide+kernel⟩,⟨smallN,by rw[w2];exact hn,?_⟩,[(1088,smallN)],rfl,?_⟩
 ·have:nsI smallB=2:=by unfold nsI;rw[hs];rfl
  rcases(by omega:i=1∨i=2) with rfl | rfl<;>decide+kernel
 ·have lv0:smallN.lv=0:=by decide+kernel
  rw[w2,lv0]
  refine⟨⟨by decide,rfl,hn,lv0,fun _=>by decide+kernel,(by decide+kernel:smallN.low=0),(by decide+kernel:smallN.nx=0)⟩,fun i x hi=> ?_,fun u hu=>by simp at hu,by rw[if_pos rfl]⟩
  cases i with
  | zero=>simp at hi;subst hi;decide+kernel
  | succ i=>simp at hi
 ·have:allE [(1088,smallN)]=[]:=by decide+kernel
  rw[this]
  rfl
theorem made_by (n:Nat):madeCells #[Value.int .u8 0] n=byC (List.replicate n 0):=by
 apply Array.ext'
 rw[toList_madeCells_one]
 simp[byC]
theorem make_by (n:Nat) (hn:n≤1000000) (w:World):(Instr.makeSlice 36 (.int .i64 (n:Int)) (.int .i64 (n:Int))).run Tryz.prog w= .ok (.slice (some ⟨w.heap.size,0,none⟩) n n) (w.alloc (.cells (byC (List.replicate n 0)) 5)):=by
 have:=run_make_row' (P:=Tryz.prog) 36 5 (.int .u8 0) 1 Tryz.underlying36 (by kernel_rfl) rfl .i64 .i64 n (by omega) (by omega) w
 rw[made_by] at this
 exact this
theorem Small_z (w:World):Calls Tryz.prog 63 #[] w fun e w'=> ∃g,e= .returned (.slice (some ⟨g,0,none⟩) 3072 3072)∧Blk w' g 5 (byC smallB)∧w.heap.size≤g∧Below w.heap.size w w':=by
 have hmk:(Instr.makeSlice 36 (.int .i64 3072) (.int .i64 3072)).run Tryz.prog w= .ok (.slice (some ⟨w.heap.size,0,none⟩) 3072 3072) (w.alloc (.cells (byC (List.replicate 3072 0)) 5)):=make_by 3072 (by omega) w
 obtain⟨B0,hB0⟩: ∃B0:List Int,B0=List.replicate 3072 0:=⟨_,rfl⟩
 have l0:B0.length=3072:=by rw[hB0];simp
 rw[←hB0] at hmk
 obtain⟨W1,hW1⟩: ∃W1,W1=w.alloc (.cells (byC B0) 5):=⟨_,rfl⟩
 have k1:Blk W1 w.heap.size 5 (byC B0):=by rw[hW1];exact Blk.new _ _ _
 have hb1:Below w.heap.size w W1:=by rw[hW1];exact ba (Below.refl _ _) _
 rw[←hW1] at hmk
 obtain⟨g,hg⟩: ∃g,g=w.heap.size:=⟨_,rfl⟩
 have SW:=hid (fun(bs:List Int) (a x:Nat) (hx:x<18446744073709551616) (hl:bs.length=3072) (ha:a+8≤3072) (W:World) (h:Blk W g 5 (byC bs))=>SetW_z g 3072 3072 bs a x hx (by omega) (by omega) (by omega) W h)
 have ST:Hid (B0.length=3072∧Blk W1 g 5 (byC B0)∧Below w.heap.size w W1):=hid ⟨l0,by rw[hg];exact k1,hb1⟩
 have stp:=fun(bs:List Int) (a x:Nat) (W W':World) (h:bs.length=3072∧Blk W g 5 (byC bs)∧Below w.heap.size w W) (ha:a+8≤3072) (hk:Blk W' g 5 (byC (putW bs a x))) (ho:Only [g] W W')=>(show(putW bs a x).length=3072∧Blk W' g 5 (byC (putW bs a x))∧Below w.heap.size w W' from⟨by rw[q3n x (by omega)];exact h.1,hk,h.2.2.trans (ho.below (fun y hy=>by simp at hy;omega) h.2.2.size)⟩)
 have STP:=hid stp
 have HB0:=hid hB0
 have HG:=hid hg
 rw[←hg] at hmk
 clear hB0 l0 hW1 k1 hb1 stp hg
 go_enter Tryz.func63,Tryz.ntmps63
 go_wp2_with fail
 refine(SW.out B0 0 5929342154728227142 (by omega) ST.out.1 (by omega) _ ST.out.2.1).mono ?_
 rintro e v1 ⟨rfl,hk,ho⟩
 have ST1:=hid (STP.out _ _ _ _ _ ST.out (by omega) hk ho)
 clear hk ho
 go_wp2_with fail
 refine(SW.out _ 8 3072 (by omega) ST1.out.1 (by omega) _ ST1.out.2.1).mono ?_
 rintro e v2 ⟨rfl,hk,ho⟩
 have ST2:=hid (STP.out _ _ _ _ _ ST1.out (by omega) hk ho)
 clear hk ho
 go_wp2_with fail
 refine(SW.out _ 16 1088 (by omega) ST2.out.1 (by omega) _ ST2.out.2.1).mono ?_
 rintro e v3 ⟨rfl,hk,ho⟩
 have ST3:=hid (STP.out _ _ _ _ _ ST2.out (by omega) hk ho)
 clear hk ho
 go_wp2_with fail
 refine(SW.out _ 24 18446744073709548543 (by omega) ST3.out.1 (by omega) _ ST3.out.2.1).mono ?_
 rintro e v4 ⟨rfl,hk,ho⟩
 have ST4:=hid (STP.out _ _ _ _ _ ST3.out (by omega) hk ho)
 clear hk ho
 go_wp2_with fail
 refine(SW.out _ 1024 3 (by omega) ST4.out.1 (by omega) _ ST4.out.2.1).mono ?_
 rintro e v5 ⟨rfl,hk,ho⟩
 have ST5:=hid (STP.out _ _ _ _ _ ST4.out (by omega) hk ho)
 clear hk ho
 go_wp2_with fail
 refine(SW.out _ 1032 1 (by omega) ST5.out.1 (by omega) _ ST5.out.2.1).mono ?_
 rintro e v6 ⟨rfl,hk,ho⟩
 have ST6:=hid (STP.out _ _ _ _ _ ST5.out (by omega) hk ho)
 clear hk ho
 go_wp2_with fail
 refine(SW.out _ 1088 5495893775785918464 (by omega) ST6.out.1 (by omega) _ ST6.out.2.1).mono ?_
 rintro e v7 ⟨rfl,hk,ho⟩
 have ST7:=hid (STP.out _ _ _ _ _ ST6.out (by omega) hk ho)
 clear hk ho
 go_wp2_with fail
 refine(SW.out _ 1120 1088 (by omega) ST7.out.1 (by omega) _ ST7.out.2.1).mono ?_
 rintro e v8 ⟨rfl,hk,ho⟩
 have ST8:=hid (STP.out _ _ _ _ _ ST7.out (by omega) hk ho)
 clear hk ho
 go_wp2
 go_ret
 refine⟨g,rfl,?_,by have:=HG.out;omega,ST8.out.2.2⟩
 have:=ST8.out.2.1
 rw[HB0.out] at this
 exact this
theorem rep_put (W:World) (p r f k:Option Addr) (pn pc rn rc fn fc kn kc:Nat) (x y:Int): ∃W',stR Tryz.prog 32 (.pointer (some ⟨W.heap.size,0,none⟩)) (.agg #[.slice p pn pc,.slice r rn rc,.slice f fn fc,.slice k kn kc,.int .i64 x,.int .i64 y]) (W.alloc (.cells #[.slice none 0 0,.slice none 0 0,.slice none 0 0,.slice none 0 0,.int .i64 0,.int .i64 0] 32))= .ok () W'∧Blk W' W.heap.size 32 #[.slice p pn pc,.slice r rn rc,.slice f fn fc,.slice k kn kc,.int .i64 x,.int .i64 y]∧Below W.heap.size W W':=by
 obtain⟨W',h1,h2,h3⟩:=x9x (Blk.new W 32 #[.slice none 0 0,.slice none 0 0,.slice none 0 0,.slice none 0 0,.int .i64 0,.int .i64 0]) rfl p r f k pn pc rn rc fn fc kn kc x y
 have hb:Below W.heap.size W (W.alloc (.cells #[.slice none 0 0,.slice none 0 0,.slice none 0 0,.slice none 0 0,.int .i64 0,.int .i64 0] 32)):=ba (Below.refl _ _) _
 exact⟨W',h1,h2,hb.trans (h3.below (fun x hx=>by simp at hx;omega) hb.size)⟩
theorem rep_put0 (W:World): ∃W',stR Tryz.prog 32 (.pointer (some ⟨W.heap.size,0,none⟩)) (.agg rep0) (W.alloc (.cells #[.slice none 0 0,.slice none 0 0,.slice none 0 0,.slice none 0 0,.int .i64 0,.int .i64 0] 32))= .ok () W'∧Below W.heap.size W W':=by
 obtain⟨W',h1,_,h2⟩:=rep_put W none none none none 0 0 0 0 0 0 0 0 0 0
 exact⟨W',h1,h2⟩
theorem rbld_15 (a:Option Addr) (n c:Nat) (y:Int) (W:World):bldR Tryz.prog 32 #[(1,.slice a n c),(5,.int .i64 y)] W= .ok (.agg #[.slice none 0 0,.slice a n c,.slice none 0 0,.slice none 0 0,.int .i64 0,.int .i64 y]) W:=by kernel_rfl
theorem small_reach:q2i [[(1088,smallN)]] [(1088,smallN)]=[1088]:=by decide+kernel
theorem small_fault:([1088]:List Int).filter (fun a=>decide (a∉refA smallB (nsI smallB)))=[]:=by decide+kernel
theorem small_leak:(refA smallB (nsI smallB)).filter (fun a=>decide (a∉ ([1088]:List Int)))=[]:=by decide+kernel
attribute [local go_sem ↓ high] q6v q7f q7e z2o
attribute [local go_sem] q1x q1p q1v q2t
theorem known23_z (w:World):Calls Tryz.prog 14 #[] w fun e w'=>e= .returned (.bool true)∧Below w.heap.size w w':=by
 have L0:=hid (fun W=>v8x none 0 0 [] rfl (by omega) (by omega) W ⟨Nat.le_refl _,(fun x hx=>by cases hx),fun hp=>by simp at hp⟩)
 have N0:Hid (∀rs ps,¬q1a ([]:List Int) rs ps):=hid (fun rs ps h=>by have:=h.slabs.1;revert this;decide)
 obtain⟨Z,hZ⟩: ∃Z:List Int,Z=List.replicate 2048 0:=⟨_,rfl⟩
 have hmk: ∀W:World,(Instr.makeSlice 36 (.int .i64 2048) (.int .i64 2048)).run Tryz.prog W= .ok (.slice (some ⟨W.heap.size,0,none⟩) 2048 2048) (W.alloc (.cells (byC Z) 5)):=fun W=>by rw[hZ];exact make_by 2048 (by omega) W
 have HZ:=hid hZ
 have LZ:=hid (fun(g:Nat) (W:World) (hk:Blk W g 5 (byC Z))=>v8x (some ⟨g,0,none⟩) 2048 2048 Z (by rw[HZ.out];simp) (by omega) (by omega) W (bytesIn_blk hk (fun x hx=>by rw[HZ.out,List.mem_replicate] at hx;rw[hx.2];decide) (by rw[HZ.out];simp)))
 have LS:=hid (fun(g:Nat) (W:World) (hk:Blk W g 5 (byC smallB))=>v8x (some ⟨g,0,none⟩) 3072 3072 smallB small_len.symm (by omega) (by omega) W (bytesIn_blk hk small_byte (by rw[small_len];exact Nat.le_refl _)))
 clear hZ
 go_enter Tryz.func14,Tryz.ntmps14
 go_wp2_with fail
 refine(L0.out _).mono ?_
 intro e w1 hp
 obtain⟨rfl,hb1⟩:=z6u N0.out hp
 clear hp
 obtain⟨W2,hst2,hb2⟩:=rep_put0 w1
 have HB2:=hid (bx hb1 hb2)
 clear hb1 hb2
 go_wp2_with fail
 clear hst2
 have kZ:Blk (W2.alloc (.cells (byC Z) 5)) W2.heap.size 5 (byC Z):=Blk.new _ _ _
 refine(LZ.out _ _ kZ).mono ?_
 intro e w3 hp
 obtain⟨rfl,hb3⟩:=z6u (by rw[HZ.out];exact v6c) hp
 clear hp kZ
 obtain⟨W4,hst4,hb4⟩:=rep_put0 w3
 have HB4:=hid (bx (bx (HB2.out.trans ((ba (Below.refl _ W2) (.cells (byC Z) 5)).mono HB2.out.size)) hb3) hb4)
 clear hb3 hb4
 go_wp2_with fail
 clear hst4 hmk
 refine(Small_z _).mono ?_
 rintro e w5 ⟨g,rfl,hk5,hg5,hb5⟩
 have HB5:=hid (bx HB4.out hb5)
 have LS5:=hid (LS.out _ _ hk5)
 clear hk5 hg5 hb5
 go_wp2_with fail
 refine LS5.out.mono ?_
 intro e w6 hp
 obtain⟨hb6,pa,pc,ra,rc,fa,fc,ka,kc,rfl,hrep⟩:=x8b small_byte small_ok (leaves:=[(1088,smallN)]) rfl hp
 rw[small_reach,small_fault,small_leak] at hrep
 rw[small_reach,small_fault,small_leak]
 have e0:(([[(1088,smallN)]]:List (List (Int×NodeA))).length-1:Int)=0:=by simp
 have e1:q2y [[(1088,smallN)]]=1:=by decide+kernel
 rw[e0,e1]
 simp only[List.length_nil,List.length_singleton] at hrep ⊢
 obtain⟨W7,hst7,k7,hb7⟩:=rep_put w6 pa ra fa ka 0 pc 1 rc 0 fc 0 kc 0 1
 have hld7:=k7.ld (P:=Tryz.prog) (ty:=32) Tryz.underlying32 rfl (by kernel_rfl)
 have HB7:=hid (bx (bx HB5.out hb6) hb7)
 have HR7:=hid (hrep.bel hb7)
 clear hp hb6 hrep hb7 k7 e0 e1
 obtain⟨W8,hW8⟩: ∃W8,W8=W7.alloc (.cells #[.int .u64 1088] 51):=⟨_,rfl⟩
 have hb8:Below W7.heap.size W7 W8:=by rw[hW8];exact ba (Below.refl _ _) _
 have k8:Blk W8 W7.heap.size 51 #[.int .u64 1088]:=by rw[hW8];exact Blk.new _ _ _
 have hbl:=rbld_15 (some ⟨W7.heap.size,0,none⟩) 1 1 1 (W7.alloc (.cells #[.int .u64 1088] 51))
 have SM:=hid (x8o 0 1 0 0 pa none pc 0 (.slice ra 1 rc) (.slice fa 0 fc) (.slice ka 0 kc) (.slice (some ⟨W7.heap.size,0,none⟩) 1 1) (.slice none 0 0) (.slice none 0 0) [] [1088] [] [] W8 (HR7.out.bel hb8) ⟨Or.inl ⟨rfl,rfl,rfl⟩,⟨none,0,rfl,Nat.le_refl _⟩,⟨_,1,rfl,Or.inr ⟨W7.heap.size,0,rfl,k8.lt,fun i x hi=>by
  cases i with
  | zero=>simp at hi;subst hi;exact k8.cell 0
  | succ i=>simp at hi⟩⟩,⟨none,0,rfl,Or.inl rfl⟩,⟨none,0,rfl,Or.inl rfl⟩⟩ (by simp) (fun p hp=>by cases hp))
 have HB8:=hid (bx HB7.out hb8)
 have HW8:=hid hW8
 clear hb8 k8 hW8
 go_wp2_with fail
 rw[←HW8.out]
 refine SM.out.mono ?_
 rintro e w9 ⟨rfl,hb9⟩
 have HB9:=hid (bx HB8.out hb9)
 clear hb9
 go_wp2
 go_ret
 exact⟨rfl,HB9.out⟩
end
end Go.Proofs.YtibiekfjbibpbaaGreat
