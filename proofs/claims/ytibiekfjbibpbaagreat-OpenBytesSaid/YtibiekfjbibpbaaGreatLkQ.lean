/- A level read: the code's look.level, walked. -/
import Derived.Test.YtibiekfjbibpbaaGreatLkO
import Derived.Test.YtibiekfjbibpbaaGreatRdM
import Derived.Test.YtibiekfjbibpbaaGreatLkP
set_option maxRecDepth 100000
set_option maxHeartbeats 4000000
set_option linter.unusedVariables false
set_option linter.unusedSimpArgs false
namespace Go.Proofs.YtibiekfjbibpbaaGreat
open Go.RowKit
section
attribute [local go_sem ↓ high] nodeLoadAt nodeLoadVar nodeStoreAt append_shut2
attribute [local go_sem] ldM_run lvM_run stM_run Oper.semAt_some appM2_run
attribute [local go_sem ↓ high] linkBuild linkBuildS linkLoadAt linkStoreAt
attribute [local go_sem] bldM_run bslM_run
theorem Level_in (N:Nat) (B:LkP) (bs:List Int) (root:Int) (lv pr:Value) (R0:List Int) (lev a0:Int) (ha0:0≤a0∧a0≤18446744073709551615) (w:World) (hL:LookIs w N B bs root lv pr R0) (hNw:N≤w.heap.size) (hfew:bs.length≤1000000) (hR0: ∀a∈R0,∀nd,nodeI bs a=some nd→nd.lv≠lev) (hlev:0≤lev) (rows:List (List (Int×NodeA))) (hrl:rows.length≤1000) (hLv:LvlsAt w N B lv rows):
  CallsIn Fence.wide 6 Tryz.prog 152 #[.pointer (some ⟨B.lb,0,none⟩),.int .u64 a0,.int .i64 lev] w (LvPost w N B bs root pr R0 rows lev a0):=by
 refine callsIn_of_wpF Tryz.func152 rfl ?_
 simp only[Tryz.ntmps152,List.size_toArray,List.length_cons,List.length_nil,Nat.reduceAdd,Nat.reduceSub,Array.replicate_succ,Array.replicate_zero,List.push_toArray,List.append_toArray,List.nil_append,List.cons_append]
 refine wpF_seq (wpF_of (n:=6) ?_)
 gi_wp2_with fail
 refine wpF_seq (wpF_of (n:=6) ?_)
 gi_wp2_with fail
 refine wpF_seq (wpF_seq (wpF_of (n:=6) ?_))
 gi_wp2_with fail
 refine⟨trivial,(callsIn_wide.2 (LChain_z B.lb a0 _)).mono ?_⟩
 rintro e w1 ⟨rfl,hw1⟩
 have hs1:w1.heap.size=w.heap.size+4:=by rw[hw1];simp
 have hb1:Below w.heap.size w w1:=by rw[hw1];exact ba (ba (ba (ba (Below.refl _ _) _) _) _) _
 have k5:Blk w1 w.heap.size 3 #[.int .i64 lev]:=by rw[hw1];exact(((Blk.new w _ _).alloc _).alloc _).alloc _
 have k6:Blk w1 (w.heap.size+1) 148 #[.slice none 0 0]:=by
  rw[hw1]
  have:=Blk.new (w.alloc (.cells #[.int .i64 lev] 3)) 148 #[.slice none 0 0]
  rw[World.size_alloc] at this
  exact(this.alloc _).alloc _
 have kl:Blk w1 (w.heap.size+2) 136 #[.pointer (some ⟨B.lb,0,none⟩)]:=by
  rw[hw1]
  have:=Blk.new ((w.alloc (.cells #[.int .i64 lev] 3)).alloc (.cells #[.slice none 0 0] 148)) 136 #[.pointer (some ⟨B.lb,0,none⟩)]
  rw[World.size_alloc,World.size_alloc] at this
  exact this.alloc _
 have ka:Blk w1 (w.heap.size+3) 51 #[.int .u64 a0]:=by
  rw[hw1]
  have:=Blk.new (((w.alloc (.cells #[.int .i64 lev] 3)).alloc (.cells #[.slice none 0 0] 148)).alloc (.cells #[.pointer (some ⟨B.lb,0,none⟩)] 136)) 51 #[.int .u64 a0]
  rw[World.size_alloc,World.size_alloc,World.size_alloc] at this
  exact this
 have hL1:=hL.bel hb1
 have hlt:B.lb<w.heap.size∧B.wb<w.heap.size∧B.hb<w.heap.size∧B.mb<w.heap.size:=⟨hL.cells.lt,hL.fix.words.1,hL.fix.hlt,hL.set.lt⟩
 have e2:(((w.alloc (.cells #[.int .i64 lev] 3)).alloc (.cells #[.slice none 0 0] 148)).heap.size)=w.heap.size+2:=by simp
 simp only[World.size_alloc]
 have HW1:=hid (⟨hs1,hb1,k5,k6,kl,ka⟩:_∧_∧_∧_∧_∧_)
 have HL1:=hid hL1
 have HSET:=hid hL.set
 have HLT:=hid hlt
 clear hw1 hs1 hb1 k5 k6 kl ka hL1 hlt e2 hL
 gi_wp2_with fail
 obtain⟨B5,hB5⟩: ∃B5,B5=w.heap.size:=⟨_,rfl⟩
 obtain⟨B6,hB6⟩: ∃B6,B6=w.heap.size+1:=⟨_,rfl⟩
 obtain⟨Bl,hBl⟩: ∃Bl,Bl=w.heap.size+1+1:=⟨_,rfl⟩
 obtain⟨Ba,hBa⟩: ∃Ba,Ba=w.heap.size+1+1+1:=⟨_,rfl⟩
 rw[←hBa,←hBl,←hB6,←hB5]
 have HN:=hid (⟨hB5,hB6,hBl,hBa⟩:_∧_∧_∧_)
 clear hB5 hB6 hBl hBa
 refine wpF_block (wpF_range (n:=6) (gf:=241) (lb:= #[.pointer (some ⟨Ba,0,none⟩),.pointer (some ⟨Bl,0,none⟩)]) rfl (enters_of Tryz.func241 (by kernel_rfl) rfl) ?_)
 intro W1 hW1 hLp
 have hsz:W1.heap.size=w.heap.size+6:=by rw[hW1];have:=HW1.out.1;simp;omega
 have hb1:Below w1.heap.size w1 W1:=by rw[hW1];exact ba (ba (Below.refl _ _) _) _
 have hs1:=HW1.out.1
 refine(Level_loop (n:=6) ⟨_,Tryz.func152⟩ w N (w.heap.size+4) B5 B6 (w1.heap.size+1) w1.heap.size B bs root lv pr R0 lev a0 Ba Bl W1 ha0 HLT.out (by rw[HN.out.1]) (by rw[HN.out.2.1]) (by rw[HN.out.2.2.1]) (by rw[HN.out.2.2.2]) rfl hs1 (by omega) hNw (by have:=HL1.out.ge;omega) hsz hR0 (A1:=fun x nb=>{ tmps:= #[.pointer (some ⟨B.lb,0,none⟩),.int .u64 a0,.int .i64 lev,undef,undef,.pointer (some ⟨B5,0,none⟩),.pointer (some ⟨B6,0,none⟩),.int .u64 x.1,.pointer (some ⟨nb,0,none⟩),undef,undef,undef,.pointer (some ⟨B.lb,0,none⟩),.int .u64 a0,.func (.func 241) #[] #[.pointer (some ⟨Ba,0,none⟩),.pointer (some ⟨Bl,0,none⟩)],.int .u64 x.1,.agg (nodeC x.2),undef,undef,undef,undef,undef,undef,undef,undef,undef,undef,undef,undef,undef,undef,undef,undef,undef,undef,undef,undef,undef,undef,undef,undef,undef,undef,undef,undef,undef,undef,undef,undef,undef,undef,undef,undef,undef,undef,undef,undef,undef,undef,undef,undef,undef,undef,undef,undef,undef,undef,undef,undef,undef,undef,undef,undef,undef,undef,undef,undef,undef,undef,undef,undef,undef,undef,undef,undef,undef,undef,undef,undef,undef,undef,undef,undef,undef],defers:=[] }) ?hassign ?hbody ⟨hLp,?hk5,⟨.slice none 0 0,?hk6,World.ownsRow_nil _ _ _ _⟩,?hbel,hNw,HL1.out.ge.2.2.2⟩ (HL1.out.bel hb1) ?hba ?hbl hfew).mono ?hpost
 case hassign=>
  intro x W
  obtain⟨W2,hs2,k2,hb2⟩:=node_new W x.2
  refine⟨W2,hb2,k2,fun K hK=> ?_⟩
  clear k2 hb2
  gi_wp2
  exact hK
 case hbody=>
  intro pre prev x nb W2 hC hpl hnb hnbl hJ hkn
  generalize(recF 152 _ #[15,16] _ _ _ LoopState.busy)=r at hJ ⊢
  have c5:W2.cell? ⟨B5,0,none⟩=some (.int .i64 lev):=hJ.b5.cell 0
  have n0:W2.cell? ⟨nb,0,none⟩=some (.int .i64 x.2.lv):=hkn.cell 0
  have n1:W2.cell? ⟨nb,1,none⟩=some (.int .u64 x.2.low):=hkn.cell 1
  have n4:W2.cell? ⟨nb,4,none⟩=some (.int .u64 x.2.fi):=hkn.cell 4
  have nld:=node_ld hkn
  obtain⟨rv,h6,hrow⟩:=hJ.row
  obtain⟨ra,rc,rfl⟩:=row_form1 hrow
  have c6:W2.cell? ⟨B6,0,none⟩=some (.slice ra pre.length rc):=h6.cell 0
  have z6:=h6.frozen 0
  obtain⟨k,hk⟩: ∃k,k=pre.length:=⟨_,rfl⟩
  rw[←hk] at c6 hpl hrow h6
  have hprev:=hC.last
  have HJ:=hid (⟨hJ,hkn,h6,hrow,hk,hprev,hC⟩:_∧_∧_∧_∧_∧_∧_)
  have HNB:=hid (⟨hnb,hnbl⟩:_∧_)
  have HS1:=hid hs1
  have HBN:=hid (⟨HN.out.1,HN.out.2.1⟩:_∧_)
  clear hJ hkn h6 hrow hk hprev hC hW1 hLp hsz hb1 hs1 HW1 HL1 HLT HN hnb hnbl hR0
  have MY:=hid Must_yes
  have MN:=hid Must_no
  have FAIL: ∀a,a.defers=[]→ ¬nodeFits bs lev prev x→RndQ w N B.mb (w.heap.size+4) B5 B6 (w1.heap.size+1) w1.heap.size r bs lev prev pre x W2 (.panic errC) a W2:=fun a h1 h2=>⟨h1,rfl,h2,HJ.out.1.bel,HJ.out.1.loop.df⟩
  have FAILD: ∀a,a.defers=[]→ ¬nodeFits bs lev prev x→RndQ w N B.mb (w.heap.size+4) B5 B6 (w1.heap.size+1) w1.heap.size r bs lev prev pre x W2 (.panic errC) a W2.drew:=fun a h1 h2=>⟨h1,rfl,h2,HJ.out.1.bel.drew,HJ.out.1.loop.df⟩
  have HFAILD:=hid FAILD
  clear FAILD
  have HFAIL:=hid FAIL
  clear FAIL
  generalize hQ:RndQ w N B.mb (w.heap.size+4) B5 B6 (w1.heap.size+1) w1.heap.size r bs lev prev pre x W2=Q
  have HQ:=hid hQ
  rw[hQ] at HFAIL HFAILD
  clear hQ
  by_cases h1:x.2.lv=lev
  ·have e1:(x.2.lv==lev)=true:=by simp[h1]
   have H1:=hid h1
   clear h1
   by_cases h2:0<lev
   ·have HFI:=hid (show lev=0→x.2.fi=x.1 from fun h=>by omega)
    have QQ:True:=trivial
    by_cases hqq:True
    ·clear QQ hqq
     gi_wp2_with fail
     refine⟨trivial,CallsIn.inRound _ ((callsIn_wide.2 (MY.out W2))) |>.mono ?_⟩
     rintro e w3 ⟨rfl,rfl⟩
     by_cases hk0:k=0
     ·have k0:((k:Int)==0)=true:=by simp[hk0]
      have hpre:pre=[]:=List.length_eq_zero_iff.1 (by have:=HJ.out.2.2.2.2.1;omega)
      have HPV:=hid (show prev=none by rw[HJ.out.2.2.2.2.2.1,hpre];rfl)
      have HPRE:=hid hpre
      clear hpre
      by_cases hlow:x.2.low=0
      ·have tl:(x.2.low==0)=true:=by simp[hlow]
       have lb5:=link_built x.2 x.1 W2
       have ls5:=link_row x.2 x.1 W2
       obtain⟨va,vc,w9,hrun,kb9,hJ9,hK9⟩:=lv_push x k HJ.out.2.2.2.2.1 hpl HJ.out.1 HJ.out.2.2.1 HJ.out.2.2.2.1 (Only.refl _ _) HJ.out.2.2.2.1 (by rw[HPRE.out];exact(linksC_one x).symm) (by omega) (by have:=HJ.out.2.1.lt;have:=HNB.out.1;omega) (by have:=HBN.out;have:=HS1.out;omega)
       have w9c:w9.cell? ⟨B6,0,none⟩=some (.slice ra k rc):=kb9.cell 0
       have w9f:w9.frozen? ⟨B6,0,none⟩=false:=kb9.frozen 0
       have HEND:Hid (∀a,Q .normal a (w9.setCell ⟨B6,0,none⟩ (.slice va (k+1) vc))):=by
        intro a
        rw[←HQ.out]
        exact⟨⟨H1.out,fun h0=>HFI.out h0,by rw[HPV.out];exact hlow⟩,hJ9,hK9⟩
       clear kb9 hJ9 hK9 hk0 hlow
       gi_wp2_with fail
       refine⟨trivial,CallsIn.inRound _ ((callsIn_wide.2 (MY.out W2))) |>.mono ?_⟩
       rintro e w3 ⟨rfl,rfl⟩
       gi_wp2
       exact HEND.out _
      ·have tl:(x.2.low==0)=false:=by simp[hlow]
       have HNF:=hid (show ¬nodeFits bs lev prev x from fun h=>hlow (by have:=h.2.2;rw[HPV.out] at this;exact this))
       clear hk0 hlow
       gi_wp2_with fail
       refine⟨trivial,CallsIn.inRound _ ((callsIn_wide.2 (MN.out W2))) |>.mono ?_⟩
       rintro e w3 ⟨rfl,rfl⟩
       exact HFAIL.out _ rfl HNF.out
     ·have k0:((k:Int)==0)=false:=by simp[hk0]
      obtain⟨m,hm⟩: ∃m,m=k-1:=⟨_,rfl⟩
      have dk:IntKind.i64.wrap ((k:Int)-1)=(m:Int):=by rw[IntWalk.i64_in _ (by omega)];omega
      have j0:(0:Int)≤(m:Int):=by omega
      have j1:(m:Int)< (k:Int):=by omega
      have j2:m<k:=by omega
      obtain⟨last,hlast⟩: ∃last,pre[m]?=some last:=⟨_,List.getElem?_eq_getElem (by have:=HJ.out.2.2.2.2.1;omega)⟩
      obtain⟨g,cap,cur,hsl,hg1,hg2,hg3,hg4,hg5,hg6⟩:=own_links HJ.out.2.2.2.1 (by omega)
      injection hsl with hs1' _ hs2'
      subst hs1' hs2'
      have gl:W2.cell? ⟨g,m*24+1,none⟩=some (.int .u64 last.2.low):=by
       rw[hg4.cell]
       exact take_at hg6 (by rw[linksC_at hlast (by omega)];rfl)
      have HG:=hid (⟨hg1,hg2,hg3,hg4,hg5,hg6,hlast,hm⟩:_∧_∧_∧_∧_∧_∧_∧_)
      clear hk0 hm hlast hg1 hg2 hg3 hg4 hg5 hg6
      have gld:W2.drew.cell? ⟨g,m*24+1,none⟩=some (.int .u64 last.2.low):=gl
      have c6d:W2.drew.cell? ⟨B6,0,none⟩=some (.slice (some ⟨g,0,none⟩) k rc):=c6
      have n1d:W2.drew.cell? ⟨nb,1,none⟩=some (.int .u64 x.2.low):=n1
      have HNG:=hid (show nb≠g by
       intro e
       have h1:W2.heap[g]?=_:=HG.out.2.2.2.1
       have h2:W2.heap[nb]?=_:=HJ.out.2.1
       rw[e,h1] at h2
       injection h2 with h2
       injection h2 with _ h2
       cases h2)
      have HPV:=hid (show prev=some last.2.low by
       rw[HJ.out.2.2.2.2.2.1,List.getLast?_eq_getElem?,←HJ.out.2.2.2.2.1]
       have:=HG.out.2.2.2.2.2.2
       rw[←this.2,this.1];rfl)
      have HNLOW: ¬last.2.low<x.2.low→Hid (¬nodeFits bs lev prev x):=fun hn h=>hn (by have:=h.2.2;rw[HPV.out] at this;exact this)
      by_cases hlow:last.2.low<x.2.low
      ·have tl:decide (last.2.low<x.2.low)=true:=decide_eq_true hlow
       gi_wp2_with fail
       refine wpIn_region_reads (n:=10) (aF:={ tmps:= #[.pointer (some ⟨B.lb,0,none⟩),.int .u64 a0,.int .i64 lev,undef,undef,.pointer (some ⟨B5,0,none⟩),.pointer (some ⟨B6,0,none⟩),.int .u64 x.1,.pointer (some ⟨nb,0,none⟩),.int .i64 k,undef,undef,.pointer (some ⟨B.lb,0,none⟩),.int .u64 a0,.func (.func 241) #[] #[.pointer (some ⟨Ba,0,none⟩),.pointer (some ⟨Bl,0,none⟩)],.int .u64 x.1,.agg (nodeC x.2),.pointer (some ⟨nb,0,none⟩),.int .i64 x.2.lv,.int .i64 lev,.bool true,.bool true,.int .i64 lev,.bool true,.bool true,undef,undef,undef,undef,.bool true,.bool true,.tuple #[],.slice (some ⟨g,0,none⟩) k rc,.int .i64 k,.int .i64 k,.bool false,undef,undef,undef,undef,.pointer (some ⟨nb,1,none⟩),.int .u64 x.2.low,.slice (some ⟨g,0,none⟩) k rc,.int .i64 k,.int .i64 m,.pointer (some ⟨g,m*24,none⟩),.pointer (some ⟨g,m*24,none⟩),.pointer (some ⟨g,m*24+1,none⟩),.int .u64 last.2.low,.bool true,undef,undef,undef,undef,undef,undef,undef,undef,undef,undef,undef,undef,undef,undef,undef,undef,undef,undef,undef,undef,undef,undef,undef,undef,undef,undef,undef,undef,undef,undef,undef,undef,undef,undef,undef,undef,undef,undef,undef,undef,undef,undef,undef,undef],defers:=[] }) rfl ⟨rfl,by kernel_rfl,by kernel_rfl,fun _=>trivial,rfl,rfl,?old,?back,?run,fun o ho=>by cases ho;rfl⟩ ?last
       case back=>exact backB_spec (by kernel_rfl)
       case old=>
        intro t ht
        have h0:t≠40:=fun e=>ht 0 _ (by omega) rfl (congrArg some e.symm)
        have h1:t≠41:=fun e=>ht 1 _ (by omega) rfl (congrArg some e.symm)
        have h2:t≠42:=fun e=>ht 2 _ (by omega) rfl (congrArg some e.symm)
        have h3:t≠43:=fun e=>ht 3 _ (by omega) rfl (congrArg some e.symm)
        have h4:t≠44:=fun e=>ht 4 _ (by omega) rfl (congrArg some e.symm)
        have h5:t≠45:=fun e=>ht 5 _ (by omega) rfl (congrArg some e.symm)
        have h6:t≠46:=fun e=>ht 6 _ (by omega) rfl (congrArg some e.symm)
        have h7:t≠47:=fun e=>ht 7 _ (by omega) rfl (congrArg some e.symm)
        have h8:t≠48:=fun e=>ht 8 _ (by omega) rfl (congrArg some e.symm)
        have h9:t≠49:=fun e=>ht 9 _ (by omega) rfl (congrArg some e.symm)
        exact old_mid [.pointer (some ⟨B.lb,0,none⟩),.int .u64 a0,.int .i64 lev,undef,undef,.pointer (some ⟨B5,0,none⟩),.pointer (some ⟨B6,0,none⟩),.int .u64 x.1,.pointer (some ⟨nb,0,none⟩),.int .i64 k,undef,undef,.pointer (some ⟨B.lb,0,none⟩),.int .u64 a0,.func (.func 241) #[] #[.pointer (some ⟨Ba,0,none⟩),.pointer (some ⟨Bl,0,none⟩)],.int .u64 x.1,.agg (nodeC x.2),.pointer (some ⟨nb,0,none⟩),.int .i64 x.2.lv,.int .i64 lev,.bool true,.bool true,.int .i64 lev,.bool true,.bool true,undef,undef,undef,undef,.bool true,.bool true,.tuple #[],.slice (some ⟨g,0,none⟩) k rc,.int .i64 k,.int .i64 k,.bool false,undef,undef,undef,undef] [undef,undef,undef,undef,undef,undef,undef,undef,undef,undef,undef,undef,undef,undef,undef,undef,undef,undef,undef,undef,undef,undef,undef,undef,undef,undef,undef,undef,undef,undef,undef,undef,undef,undef,undef,undef,undef,undef,undef,undef,undef,undef,undef,undef] [undef,undef,undef,undef,undef,undef,undef,undef,undef,undef] [.pointer (some ⟨nb,1,none⟩),.int .u64 x.2.low,.slice (some ⟨g,0,none⟩) k rc,.int .i64 k,.int .i64 m,.pointer (some ⟨g,m*24,none⟩),.pointer (some ⟨g,m*24,none⟩),.pointer (some ⟨g,m*24+1,none⟩),.int .u64 last.2.low,.bool true] rfl rfl rfl t (by simp only[List.length_cons,List.length_nil];omega)
       case run=>
        intro i o hi ho
        obtain rfl | rfl | rfl | rfl | rfl | rfl | rfl | rfl | rfl | rfl:i=0∨i=1∨i=2∨i=3∨i=4∨i=5∨i=6∨i=7∨i=8∨i=9:=by omega
        all_goals
         cases ho
         refine⟨rfl,(by intro cs b h;cases h),(by intro c h;cases h),_,_,rfl,?_,rfl⟩
         go_simp
       case last=>
        intro o ho
        cases ho
        refine⟨fun _ _=>trivial,?_⟩
        rw[Oper.semAt_eq _ _ _ (by intro c h;cases h)]
        go_simp
        refine((CallsIn.inRound _ (callsIn_wide.2 (MY.out W2.drew)))).mono ?_
        rintro e w3 ⟨rfl,rfl⟩
        have W2L:W2.drew.cell? ⟨B6,0,none⟩=some (.slice (some ⟨g,0,none⟩) k rc):=c6
        obtain⟨W4,hW4⟩: ∃W4,W4=W2.drew:=⟨_,rfl⟩
        rw[←hW4]
        have u6:W4.cell? ⟨B6,0,none⟩=some (.slice (some ⟨g,0,none⟩) k rc):=by rw[hW4];exact c6
        have u1:W4.cell? ⟨nb,1,none⟩=some (.int .u64 x.2.low):=by rw[hW4];exact n1
        have kg4:Blk W4 g 196 cur:=by rw[hW4];exact HG.out.2.2.2.1.drew
        obtain⟨y22,hy22⟩: ∃y,cur[m*24+22]?=some y:=⟨_,Array.getElem?_eq_getElem (by have:=HG.out.2.1;have:=HG.out.2.2.2.2.1;omega)⟩
        obtain⟨y23,hy23⟩: ∃y,cur[m*24+23]?=some y:=⟨_,Array.getElem?_eq_getElem (by have:=HG.out.2.1;have:=HG.out.2.2.2.2.1;omega)⟩
        have g22:W4.cell? ⟨g,m*24+22,none⟩=some y22:=(kg4.cell _).trans hy22
        have g23:W4.cell? ⟨g,m*24+23,none⟩=some y23:=(kg4.cell _).trans hy23
        have f22:W4.frozen? ⟨g,m*24+22,none⟩=false:=kg4.frozen _
        have f23:W4.frozen? ⟨g,m*24+23,none⟩=false:=kg4.frozen _
        have HW4:=hid hW4
        have HK4:=hid kg4
        clear W2L hW4 kg4 hy22 hy23 gl gld c6 c6d n1 n1d
        have v6:W4.drew.cell? ⟨B6,0,none⟩=some (.slice (some ⟨g,0,none⟩) k rc):=u6
        have v1:W4.drew.cell? ⟨nb,1,none⟩=some (.int .u64 x.2.low):=u1
        have hkg4:Blk (W4.drew.setCell ⟨g,m*24+22,none⟩ (.int .u64 x.2.low)) g 196 (cur.setIfInBounds (m*24+22) (.int .u64 x.2.low)):=HK4.out.drew.set_ _ _
        have h23:(W4.drew.setCell ⟨g,m*24+22,none⟩ (.int .u64 x.2.low)).cell? ⟨g,m*24+23,none⟩=some y23:=by rw[hkg4.cell,Array.getElem?_setIfInBounds_ne (by omega),←HK4.out.cell];exact g23
        have hf23:(W4.drew.setCell ⟨g,m*24+22,none⟩ (.int .u64 x.2.low)).frozen? ⟨g,m*24+23,none⟩=false:=hkg4.frozen _
        have hOs:Only [g] W4.drew (W4.drew.setCell ⟨g,m*24+22,none⟩ (.int .u64 x.2.low)):=(Only.refl _ _).setCell (Or.inl (by simp)) _
        have x6:(W4.drew.setCell ⟨g,m*24+22,none⟩ (.int .u64 x.2.low)).cell? ⟨B6,0,none⟩=some (.slice (some ⟨g,0,none⟩) k rc):=(hOs.cell (p:=⟨B6,0,none⟩) (World.block_lt_of_cell? W4 _ u6) (by have:=HG.out.1;have:=HBN.out;simp;omega)).trans u6
        have x1:(W4.drew.setCell ⟨g,m*24+22,none⟩ (.int .u64 x.2.low)).cell? ⟨nb,1,none⟩=some (.int .u64 x.2.low):=(hOs.cell (p:=⟨nb,1,none⟩) (World.block_lt_of_cell? W4 _ u1) (by simp;exact HNG.out)).trans u1
        have e22:W4.drew.cell? ⟨g,m*24+22,none⟩=some y22:=g22
        have ef22:W4.drew.frozen? ⟨g,m*24+22,none⟩=false:=f22
        clear hOs hkg4
        gi_wp2_with fail
        refine wpIn_region_store (n:=13) (s:=10) (w1:=W4.drew.setCell ⟨g,m*24+22,none⟩ (.int .u64 x.2.low)) (aF:={ tmps:= #[.pointer (some ⟨B.lb,0,none⟩),.int .u64 a0,.int .i64 lev,undef,undef,.pointer (some ⟨B5,0,none⟩),.pointer (some ⟨B6,0,none⟩),.int .u64 x.1,.pointer (some ⟨nb,0,none⟩),.int .i64 k,undef,undef,.pointer (some ⟨B.lb,0,none⟩),.int .u64 a0,.func (.func 241) #[] #[.pointer (some ⟨Ba,0,none⟩),.pointer (some ⟨Bl,0,none⟩)],.int .u64 x.1,.agg (nodeC x.2),.pointer (some ⟨nb,0,none⟩),.int .i64 x.2.lv,.int .i64 lev,.bool true,.bool true,.int .i64 lev,.bool true,.bool true,undef,undef,undef,undef,.bool true,.bool true,.tuple #[],.slice (some ⟨g,0,none⟩) k rc,.int .i64 k,.int .i64 k,.bool false,undef,undef,undef,undef,.pointer (some ⟨nb,1,none⟩),.int .u64 x.2.low,.slice (some ⟨g,0,none⟩) k rc,.int .i64 k,.int .i64 m,.pointer (some ⟨g,m*24,none⟩),.pointer (some ⟨g,m*24,none⟩),.pointer (some ⟨g,m*24+1,none⟩),.int .u64 last.2.low,.bool true,.tuple #[],.slice (some ⟨g,0,none⟩) k rc,.int .i64 k,.int .i64 m,.slice (some ⟨g,0,none⟩) k rc,.int .i64 k,.int .i64 m,.pointer (some ⟨nb,1,none⟩),.int .u64 x.2.low,.pointer (some ⟨g,m*24,none⟩),.pointer (some ⟨g,m*24+22,none⟩),.pointer (some ⟨g,m*24,none⟩),.pointer (some ⟨g,m*24+23,none⟩),undef,undef,undef,undef,undef,undef,undef,undef,undef,undef,undef,undef,undef,undef,undef,undef,undef,undef,undef,undef,undef,undef,undef,undef,undef,undef,undef,undef,undef,undef,undef],defers:=[] }) rfl ⟨rfl,by kernel_rfl,by kernel_rfl,fun _=>trivial,rfl,rfl,?old,?back,?run,by omega,?store,fun o ho=>by cases ho;rfl⟩ ?last
        case back=>exact backB_spec (by kernel_rfl)
        case old=>
         intro t ht
         have h0:t≠51:=fun e=>ht 0 _ (by omega) rfl (congrArg some e.symm)
         have h1:t≠52:=fun e=>ht 1 _ (by omega) rfl (congrArg some e.symm)
         have h2:t≠53:=fun e=>ht 2 _ (by omega) rfl (congrArg some e.symm)
         have h3:t≠54:=fun e=>ht 3 _ (by omega) rfl (congrArg some e.symm)
         have h4:t≠55:=fun e=>ht 4 _ (by omega) rfl (congrArg some e.symm)
         have h5:t≠56:=fun e=>ht 5 _ (by omega) rfl (congrArg some e.symm)
         have h6:t≠57:=fun e=>ht 6 _ (by omega) rfl (congrArg some e.symm)
         have h7:t≠58:=fun e=>ht 7 _ (by omega) rfl (congrArg some e.symm)
         have h8:t≠59:=fun e=>ht 8 _ (by omega) rfl (congrArg some e.symm)
         have h9:t≠60:=fun e=>ht 9 _ (by omega) rfl (congrArg some e.symm)
         have h11:t≠61:=fun e=>ht 11 _ (by omega) rfl (congrArg some e.symm)
         have h12:t≠62:=fun e=>ht 12 _ (by omega) rfl (congrArg some e.symm)
         exact old_mid [.pointer (some ⟨B.lb,0,none⟩),.int .u64 a0,.int .i64 lev,undef,undef,.pointer (some ⟨B5,0,none⟩),.pointer (some ⟨B6,0,none⟩),.int .u64 x.1,.pointer (some ⟨nb,0,none⟩),.int .i64 k,undef,undef,.pointer (some ⟨B.lb,0,none⟩),.int .u64 a0,.func (.func 241) #[] #[.pointer (some ⟨Ba,0,none⟩),.pointer (some ⟨Bl,0,none⟩)],.int .u64 x.1,.agg (nodeC x.2),.pointer (some ⟨nb,0,none⟩),.int .i64 x.2.lv,.int .i64 lev,.bool true,.bool true,.int .i64 lev,.bool true,.bool true,undef,undef,undef,undef,.bool true,.bool true,.tuple #[],.slice (some ⟨g,0,none⟩) k rc,.int .i64 k,.int .i64 k,.bool false,undef,undef,undef,undef,.pointer (some ⟨nb,1,none⟩),.int .u64 x.2.low,.slice (some ⟨g,0,none⟩) k rc,.int .i64 k,.int .i64 m,.pointer (some ⟨g,m*24,none⟩),.pointer (some ⟨g,m*24,none⟩),.pointer (some ⟨g,m*24+1,none⟩),.int .u64 last.2.low,.bool true,.tuple #[]] [undef,undef,undef,undef,undef,undef,undef,undef,undef,undef,undef,undef,undef,undef,undef,undef,undef,undef,undef,undef,undef,undef,undef,undef,undef,undef,undef,undef,undef,undef,undef] [undef,undef,undef,undef,undef,undef,undef,undef,undef,undef,undef,undef] [.slice (some ⟨g,0,none⟩) k rc,.int .i64 k,.int .i64 m,.slice (some ⟨g,0,none⟩) k rc,.int .i64 k,.int .i64 m,.pointer (some ⟨nb,1,none⟩),.int .u64 x.2.low,.pointer (some ⟨g,m*24,none⟩),.pointer (some ⟨g,m*24+22,none⟩),.pointer (some ⟨g,m*24,none⟩),.pointer (some ⟨g,m*24+23,none⟩)] rfl rfl rfl t (by simp only[List.length_cons,List.length_nil];omega)
        case run=>
         intro i o hi hs ho
         obtain rfl | rfl | rfl | rfl | rfl | rfl | rfl | rfl | rfl | rfl | rfl | rfl:i=0∨i=1∨i=2∨i=3∨i=4∨i=5∨i=6∨i=7∨i=8∨i=9∨i=11∨i=12:=by omega
         all_goals
          cases ho
          refine⟨rfl,(by intro cs b h;cases h),(by intro c h;cases h),_,_,rfl,?_,?_,rfl⟩
          ·go_simp
          ·go_simp
        case store=>
         intro o ho
         cases ho
         refine⟨rfl,(by intro cs b h;cases h),(by intro c h;cases h),rfl,?_⟩
         go_simp
        case last=>
         intro o ho
         cases ho
         refine⟨fun _ _=>trivial,?_⟩
         rw[Oper.semAt_eq _ _ _ (by intro c h;cases h)]
         go_simp
         obtain⟨W5,hW5⟩: ∃W5,W5=((W4.setCell ⟨g,m*24+22,none⟩ (.int .u64 x.2.low)).setCell ⟨g,m*24+23,none⟩ (.bool true)).drew:=⟨_,rfl⟩
         rw[←hW5]
         have o5:Only [g] W2 W5:=by rw[hW5,HW4.out];exact((((Only.refl [g] W2).drew).setCell (Or.inl (by simp)) _).setCell (Or.inl (by simp)) _).drew
         have kn5:Blk W5 nb 55 (nodeC x.2):=o5.blk HJ.out.2.1 (by simp;exact HNG.out)
         have kb6:Blk W5 B6 148 #[.slice (some ⟨g,0,none⟩) k rc]:=o5.blk HJ.out.2.2.1 (by have:=HG.out.1;have:=HBN.out;simp;omega)
         have w6:W5.cell? ⟨B6,0,none⟩=some (.slice (some ⟨g,0,none⟩) k rc):=kb6.cell 0
         have wld:=node_ld kn5
         have lb5:=link_built x.2 x.1 W5
         have ls5:=link_row x.2 x.1 W5
         have HW5:=hid hW5
         have HO5:=hid (⟨o5,kn5,kb6⟩:_∧_∧_)
         clear hW5 o5 kn5 kb6 x6 x1 h23 hf23 e22 ef22 v6 v1 u6 u1 g22 g23 f22 f23
         have hr5:W5.ownsRow (w.heap.size+4) 196 24 (.slice (some ⟨g,0,none⟩) k rc) k (((linksC pre).set (m*24+22) (.int .u64 x.2.low)).set (m*24+23) (.bool true)):=by
          have h1:=own_set (own_set HJ.out.2.2.2.1 (m*24+22) (.int .u64 x.2.low)) (m*24+23) (.bool true)
          rw[HW5.out,HW4.out]
          exact((Only.refl [] _).drew).own (((Only.refl [] _).drew).own h1 (by simp)) (by simp)
         obtain⟨va,vc,w9,hrun,kb9,hJ9,hK9⟩:=lv_push x k HJ.out.2.2.2.2.1 hpl HJ.out.1 HJ.out.2.2.1 HJ.out.2.2.2.1 HO5.out.1 hr5 (linksC_snoc pre x (by have:=HG.out.2.2.2.2.2.2;have:=HJ.out.2.2.2.2.1;omega)).symm (by omega) (by have:=HG.out.2.2.2.1.lt;have:=HG.out.1;have:=HO5.out.1.size;omega) (by have:=HBN.out;have:=HS1.out;omega)
         have w9c:w9.cell? ⟨B6,0,none⟩=some (.slice (some ⟨g,0,none⟩) k rc):=kb9.cell 0
         have w9f:w9.frozen? ⟨B6,0,none⟩=false:=kb9.frozen 0
         have HEND:Hid (∀a,Q .normal a (w9.setCell ⟨B6,0,none⟩ (.slice va (k+1) vc))):=by
          intro a
          rw[←HQ.out]
          exact⟨⟨H1.out,fun h0=>HFI.out h0,by rw[HPV.out];exact hlow⟩,hJ9,hK9⟩
         clear hr5 kb9 hJ9 hK9
         gi_wp2
         exact HEND.out _
      ·have tl:decide (last.2.low<x.2.low)=false:=decide_eq_false hlow
       have HNL:=HNLOW hlow
       clear HNLOW
       gi_wp2_with fail
       refine wpIn_region_reads (n:=10) (aF:={ tmps:= #[.pointer (some ⟨B.lb,0,none⟩),.int .u64 a0,.int .i64 lev,undef,undef,.pointer (some ⟨B5,0,none⟩),.pointer (some ⟨B6,0,none⟩),.int .u64 x.1,.pointer (some ⟨nb,0,none⟩),.int .i64 k,undef,undef,.pointer (some ⟨B.lb,0,none⟩),.int .u64 a0,.func (.func 241) #[] #[.pointer (some ⟨Ba,0,none⟩),.pointer (some ⟨Bl,0,none⟩)],.int .u64 x.1,.agg (nodeC x.2),.pointer (some ⟨nb,0,none⟩),.int .i64 x.2.lv,.int .i64 lev,.bool true,.bool true,.int .i64 lev,.bool true,.bool true,undef,undef,undef,undef,.bool true,.bool true,.tuple #[],.slice (some ⟨g,0,none⟩) k rc,.int .i64 k,.int .i64 k,.bool false,undef,undef,undef,undef,.pointer (some ⟨nb,1,none⟩),.int .u64 x.2.low,.slice (some ⟨g,0,none⟩) k rc,.int .i64 k,.int .i64 m,.pointer (some ⟨g,m*24,none⟩),.pointer (some ⟨g,m*24,none⟩),.pointer (some ⟨g,m*24+1,none⟩),.int .u64 last.2.low,.bool false,undef,undef,undef,undef,undef,undef,undef,undef,undef,undef,undef,undef,undef,undef,undef,undef,undef,undef,undef,undef,undef,undef,undef,undef,undef,undef,undef,undef,undef,undef,undef,undef,undef,undef,undef,undef,undef,undef,undef,undef,undef,undef,undef,undef],defers:=[] }) rfl ⟨rfl,by kernel_rfl,by kernel_rfl,fun _=>trivial,rfl,rfl,?old,?back,?run,fun o ho=>by cases ho;rfl⟩ ?last
       case back=>exact backB_spec (by kernel_rfl)
       case old=>
        intro t ht
        have h0:t≠40:=fun e=>ht 0 _ (by omega) rfl (congrArg some e.symm)
        have h1:t≠41:=fun e=>ht 1 _ (by omega) rfl (congrArg some e.symm)
        have h2:t≠42:=fun e=>ht 2 _ (by omega) rfl (congrArg some e.symm)
        have h3:t≠43:=fun e=>ht 3 _ (by omega) rfl (congrArg some e.symm)
        have h4:t≠44:=fun e=>ht 4 _ (by omega) rfl (congrArg some e.symm)
        have h5:t≠45:=fun e=>ht 5 _ (by omega) rfl (congrArg some e.symm)
        have h6:t≠46:=fun e=>ht 6 _ (by omega) rfl (congrArg some e.symm)
        have h7:t≠47:=fun e=>ht 7 _ (by omega) rfl (congrArg some e.symm)
        have h8:t≠48:=fun e=>ht 8 _ (by omega) rfl (congrArg some e.symm)
        have h9:t≠49:=fun e=>ht 9 _ (by omega) rfl (congrArg some e.symm)
        exact old_mid [.pointer (some ⟨B.lb,0,none⟩),.int .u64 a0,.int .i64 lev,undef,undef,.pointer (some ⟨B5,0,none⟩),.pointer (some ⟨B6,0,none⟩),.int .u64 x.1,.pointer (some ⟨nb,0,none⟩),.int .i64 k,undef,undef,.pointer (some ⟨B.lb,0,none⟩),.int .u64 a0,.func (.func 241) #[] #[.pointer (some ⟨Ba,0,none⟩),.pointer (some ⟨Bl,0,none⟩)],.int .u64 x.1,.agg (nodeC x.2),.pointer (some ⟨nb,0,none⟩),.int .i64 x.2.lv,.int .i64 lev,.bool true,.bool true,.int .i64 lev,.bool true,.bool true,undef,undef,undef,undef,.bool true,.bool true,.tuple #[],.slice (some ⟨g,0,none⟩) k rc,.int .i64 k,.int .i64 k,.bool false,undef,undef,undef,undef] [undef,undef,undef,undef,undef,undef,undef,undef,undef,undef,undef,undef,undef,undef,undef,undef,undef,undef,undef,undef,undef,undef,undef,undef,undef,undef,undef,undef,undef,undef,undef,undef,undef,undef,undef,undef,undef,undef,undef,undef,undef,undef,undef,undef] [undef,undef,undef,undef,undef,undef,undef,undef,undef,undef] [.pointer (some ⟨nb,1,none⟩),.int .u64 x.2.low,.slice (some ⟨g,0,none⟩) k rc,.int .i64 k,.int .i64 m,.pointer (some ⟨g,m*24,none⟩),.pointer (some ⟨g,m*24,none⟩),.pointer (some ⟨g,m*24+1,none⟩),.int .u64 last.2.low,.bool false] rfl rfl rfl t (by simp only[List.length_cons,List.length_nil];omega)
       case run=>
        intro i o hi ho
        obtain rfl | rfl | rfl | rfl | rfl | rfl | rfl | rfl | rfl | rfl:i=0∨i=1∨i=2∨i=3∨i=4∨i=5∨i=6∨i=7∨i=8∨i=9:=by omega
        all_goals
         cases ho
         refine⟨rfl,(by intro cs b h;cases h),(by intro c h;cases h),_,_,rfl,?_,rfl⟩
         go_simp
       case last=>
        intro o ho
        cases ho
        refine⟨fun _ _=>trivial,?_⟩
        rw[Oper.semAt_eq _ _ _ (by intro c h;cases h)]
        go_simp
        refine((CallsIn.inRound _ (callsIn_wide.2 (MN.out W2.drew)))).mono ?_
        rintro e w3 ⟨rfl,rfl⟩
        exact HFAILD.out _ rfl HNL.out
    ·exact absurd trivial hqq
   ·by_cases h3:x.2.fi=x.1
    ·have e3:(x.2.fi==x.1)=true:=by simp[h3]
     have HFI:=hid (show lev=0→x.2.fi=x.1 from fun _=>h3)
     clear h3
     gi_wp2_with fail
     refine⟨trivial,CallsIn.inRound _ ((callsIn_wide.2 (MY.out W2))) |>.mono ?_⟩
     rintro e w3 ⟨rfl,rfl⟩
     by_cases hk0:k=0
     ·have k0:((k:Int)==0)=true:=by simp[hk0]
      have hpre:pre=[]:=List.length_eq_zero_iff.1 (by have:=HJ.out.2.2.2.2.1;omega)
      have HPV:=hid (show prev=none by rw[HJ.out.2.2.2.2.2.1,hpre];rfl)
      have HPRE:=hid hpre
      clear hpre
      by_cases hlow:x.2.low=0
      ·have tl:(x.2.low==0)=true:=by simp[hlow]
       have lb5:=link_built x.2 x.1 W2
       have ls5:=link_row x.2 x.1 W2
       obtain⟨va,vc,w9,hrun,kb9,hJ9,hK9⟩:=lv_push x k HJ.out.2.2.2.2.1 hpl HJ.out.1 HJ.out.2.2.1 HJ.out.2.2.2.1 (Only.refl _ _) HJ.out.2.2.2.1 (by rw[HPRE.out];exact(linksC_one x).symm) (by omega) (by have:=HJ.out.2.1.lt;have:=HNB.out.1;omega) (by have:=HBN.out;have:=HS1.out;omega)
       have w9c:w9.cell? ⟨B6,0,none⟩=some (.slice ra k rc):=kb9.cell 0
       have w9f:w9.frozen? ⟨B6,0,none⟩=false:=kb9.frozen 0
       have HEND:Hid (∀a,Q .normal a (w9.setCell ⟨B6,0,none⟩ (.slice va (k+1) vc))):=by
        intro a
        rw[←HQ.out]
        exact⟨⟨H1.out,fun h0=>HFI.out h0,by rw[HPV.out];exact hlow⟩,hJ9,hK9⟩
       clear kb9 hJ9 hK9 hk0 hlow
       gi_wp2_with fail
       refine⟨trivial,CallsIn.inRound _ ((callsIn_wide.2 (MY.out W2))) |>.mono ?_⟩
       rintro e w3 ⟨rfl,rfl⟩
       gi_wp2
       exact HEND.out _
      ·have tl:(x.2.low==0)=false:=by simp[hlow]
       have HNF:=hid (show ¬nodeFits bs lev prev x from fun h=>hlow (by have:=h.2.2;rw[HPV.out] at this;exact this))
       clear hk0 hlow
       gi_wp2_with fail
       refine⟨trivial,CallsIn.inRound _ ((callsIn_wide.2 (MN.out W2))) |>.mono ?_⟩
       rintro e w3 ⟨rfl,rfl⟩
       exact HFAIL.out _ rfl HNF.out
     ·have k0:((k:Int)==0)=false:=by simp[hk0]
      obtain⟨m,hm⟩: ∃m,m=k-1:=⟨_,rfl⟩
      have dk:IntKind.i64.wrap ((k:Int)-1)=(m:Int):=by rw[IntWalk.i64_in _ (by omega)];omega
      have j0:(0:Int)≤(m:Int):=by omega
      have j1:(m:Int)< (k:Int):=by omega
      have j2:m<k:=by omega
      obtain⟨last,hlast⟩: ∃last,pre[m]?=some last:=⟨_,List.getElem?_eq_getElem (by have:=HJ.out.2.2.2.2.1;omega)⟩
      obtain⟨g,cap,cur,hsl,hg1,hg2,hg3,hg4,hg5,hg6⟩:=own_links HJ.out.2.2.2.1 (by omega)
      injection hsl with hs1' _ hs2'
      subst hs1' hs2'
      have gl:W2.cell? ⟨g,m*24+1,none⟩=some (.int .u64 last.2.low):=by
       rw[hg4.cell]
       exact take_at hg6 (by rw[linksC_at hlast (by omega)];rfl)
      have HG:=hid (⟨hg1,hg2,hg3,hg4,hg5,hg6,hlast,hm⟩:_∧_∧_∧_∧_∧_∧_∧_)
      clear hk0 hm hlast hg1 hg2 hg3 hg4 hg5 hg6
      have gld:W2.drew.cell? ⟨g,m*24+1,none⟩=some (.int .u64 last.2.low):=gl
      have c6d:W2.drew.cell? ⟨B6,0,none⟩=some (.slice (some ⟨g,0,none⟩) k rc):=c6
      have n1d:W2.drew.cell? ⟨nb,1,none⟩=some (.int .u64 x.2.low):=n1
      have HNG:=hid (show nb≠g by
       intro e
       have h1:W2.heap[g]?=_:=HG.out.2.2.2.1
       have h2:W2.heap[nb]?=_:=HJ.out.2.1
       rw[e,h1] at h2
       injection h2 with h2
       injection h2 with _ h2
       cases h2)
      have HPV:=hid (show prev=some last.2.low by
       rw[HJ.out.2.2.2.2.2.1,List.getLast?_eq_getElem?,←HJ.out.2.2.2.2.1]
       have:=HG.out.2.2.2.2.2.2
       rw[←this.2,this.1];rfl)
      have HNLOW: ¬last.2.low<x.2.low→Hid (¬nodeFits bs lev prev x):=fun hn h=>hn (by have:=h.2.2;rw[HPV.out] at this;exact this)
      by_cases hlow:last.2.low<x.2.low
      ·have tl:decide (last.2.low<x.2.low)=true:=decide_eq_true hlow
       gi_wp2_with fail
       refine wpIn_region_reads (n:=10) (aF:={ tmps:= #[.pointer (some ⟨B.lb,0,none⟩),.int .u64 a0,.int .i64 lev,undef,undef,.pointer (some ⟨B5,0,none⟩),.pointer (some ⟨B6,0,none⟩),.int .u64 x.1,.pointer (some ⟨nb,0,none⟩),.int .i64 k,undef,undef,.pointer (some ⟨B.lb,0,none⟩),.int .u64 a0,.func (.func 241) #[] #[.pointer (some ⟨Ba,0,none⟩),.pointer (some ⟨Bl,0,none⟩)],.int .u64 x.1,.agg (nodeC x.2),.pointer (some ⟨nb,0,none⟩),.int .i64 x.2.lv,.int .i64 lev,.bool true,.bool true,.int .i64 lev,.bool false,.bool false,.pointer (some ⟨nb,4,none⟩),.int .u64 x.2.fi,.int .u64 x.1,.bool true,.bool true,.bool true,.tuple #[],.slice (some ⟨g,0,none⟩) k rc,.int .i64 k,.int .i64 k,.bool false,undef,undef,undef,undef,.pointer (some ⟨nb,1,none⟩),.int .u64 x.2.low,.slice (some ⟨g,0,none⟩) k rc,.int .i64 k,.int .i64 m,.pointer (some ⟨g,m*24,none⟩),.pointer (some ⟨g,m*24,none⟩),.pointer (some ⟨g,m*24+1,none⟩),.int .u64 last.2.low,.bool true,undef,undef,undef,undef,undef,undef,undef,undef,undef,undef,undef,undef,undef,undef,undef,undef,undef,undef,undef,undef,undef,undef,undef,undef,undef,undef,undef,undef,undef,undef,undef,undef,undef,undef,undef,undef,undef,undef,undef,undef,undef,undef,undef,undef],defers:=[] }) rfl ⟨rfl,by kernel_rfl,by kernel_rfl,fun _=>trivial,rfl,rfl,?old,?back,?run,fun o ho=>by cases ho;rfl⟩ ?last
       case back=>exact backB_spec (by kernel_rfl)
       case old=>
        intro t ht
        have h0:t≠40:=fun e=>ht 0 _ (by omega) rfl (congrArg some e.symm)
        have h1:t≠41:=fun e=>ht 1 _ (by omega) rfl (congrArg some e.symm)
        have h2:t≠42:=fun e=>ht 2 _ (by omega) rfl (congrArg some e.symm)
        have h3:t≠43:=fun e=>ht 3 _ (by omega) rfl (congrArg some e.symm)
        have h4:t≠44:=fun e=>ht 4 _ (by omega) rfl (congrArg some e.symm)
        have h5:t≠45:=fun e=>ht 5 _ (by omega) rfl (congrArg some e.symm)
        have h6:t≠46:=fun e=>ht 6 _ (by omega) rfl (congrArg some e.symm)
        have h7:t≠47:=fun e=>ht 7 _ (by omega) rfl (congrArg some e.symm)
        have h8:t≠48:=fun e=>ht 8 _ (by omega) rfl (congrArg some e.symm)
        have h9:t≠49:=fun e=>ht 9 _ (by omega) rfl (congrArg some e.symm)
        exact old_mid [.pointer (some ⟨B.lb,0,none⟩),.int .u64 a0,.int .i64 lev,undef,undef,.pointer (some ⟨B5,0,none⟩),.pointer (some ⟨B6,0,none⟩),.int .u64 x.1,.pointer (some ⟨nb,0,none⟩),.int .i64 k,undef,undef,.pointer (some ⟨B.lb,0,none⟩),.int .u64 a0,.func (.func 241) #[] #[.pointer (some ⟨Ba,0,none⟩),.pointer (some ⟨Bl,0,none⟩)],.int .u64 x.1,.agg (nodeC x.2),.pointer (some ⟨nb,0,none⟩),.int .i64 x.2.lv,.int .i64 lev,.bool true,.bool true,.int .i64 lev,.bool false,.bool false,.pointer (some ⟨nb,4,none⟩),.int .u64 x.2.fi,.int .u64 x.1,.bool true,.bool true,.bool true,.tuple #[],.slice (some ⟨g,0,none⟩) k rc,.int .i64 k,.int .i64 k,.bool false,undef,undef,undef,undef] [undef,undef,undef,undef,undef,undef,undef,undef,undef,undef,undef,undef,undef,undef,undef,undef,undef,undef,undef,undef,undef,undef,undef,undef,undef,undef,undef,undef,undef,undef,undef,undef,undef,undef,undef,undef,undef,undef,undef,undef,undef,undef,undef,undef] [undef,undef,undef,undef,undef,undef,undef,undef,undef,undef] [.pointer (some ⟨nb,1,none⟩),.int .u64 x.2.low,.slice (some ⟨g,0,none⟩) k rc,.int .i64 k,.int .i64 m,.pointer (some ⟨g,m*24,none⟩),.pointer (some ⟨g,m*24,none⟩),.pointer (some ⟨g,m*24+1,none⟩),.int .u64 last.2.low,.bool true] rfl rfl rfl t (by simp only[List.length_cons,List.length_nil];omega)
       case run=>
        intro i o hi ho
        obtain rfl | rfl | rfl | rfl | rfl | rfl | rfl | rfl | rfl | rfl:i=0∨i=1∨i=2∨i=3∨i=4∨i=5∨i=6∨i=7∨i=8∨i=9:=by omega
        all_goals
         cases ho
         refine⟨rfl,(by intro cs b h;cases h),(by intro c h;cases h),_,_,rfl,?_,rfl⟩
         go_simp
       case last=>
        intro o ho
        cases ho
        refine⟨fun _ _=>trivial,?_⟩
        rw[Oper.semAt_eq _ _ _ (by intro c h;cases h)]
        go_simp
        refine((CallsIn.inRound _ (callsIn_wide.2 (MY.out W2.drew)))).mono ?_
        rintro e w3 ⟨rfl,rfl⟩
        have W2L:W2.drew.cell? ⟨B6,0,none⟩=some (.slice (some ⟨g,0,none⟩) k rc):=c6
        obtain⟨W4,hW4⟩: ∃W4,W4=W2.drew:=⟨_,rfl⟩
        rw[←hW4]
        have u6:W4.cell? ⟨B6,0,none⟩=some (.slice (some ⟨g,0,none⟩) k rc):=by rw[hW4];exact c6
        have u1:W4.cell? ⟨nb,1,none⟩=some (.int .u64 x.2.low):=by rw[hW4];exact n1
        have kg4:Blk W4 g 196 cur:=by rw[hW4];exact HG.out.2.2.2.1.drew
        obtain⟨y22,hy22⟩: ∃y,cur[m*24+22]?=some y:=⟨_,Array.getElem?_eq_getElem (by have:=HG.out.2.1;have:=HG.out.2.2.2.2.1;omega)⟩
        obtain⟨y23,hy23⟩: ∃y,cur[m*24+23]?=some y:=⟨_,Array.getElem?_eq_getElem (by have:=HG.out.2.1;have:=HG.out.2.2.2.2.1;omega)⟩
        have g22:W4.cell? ⟨g,m*24+22,none⟩=some y22:=(kg4.cell _).trans hy22
        have g23:W4.cell? ⟨g,m*24+23,none⟩=some y23:=(kg4.cell _).trans hy23
        have f22:W4.frozen? ⟨g,m*24+22,none⟩=false:=kg4.frozen _
        have f23:W4.frozen? ⟨g,m*24+23,none⟩=false:=kg4.frozen _
        have HW4:=hid hW4
        have HK4:=hid kg4
        clear W2L hW4 kg4 hy22 hy23 gl gld c6 c6d n1 n1d
        have v6:W4.drew.cell? ⟨B6,0,none⟩=some (.slice (some ⟨g,0,none⟩) k rc):=u6
        have v1:W4.drew.cell? ⟨nb,1,none⟩=some (.int .u64 x.2.low):=u1
        have hkg4:Blk (W4.drew.setCell ⟨g,m*24+22,none⟩ (.int .u64 x.2.low)) g 196 (cur.setIfInBounds (m*24+22) (.int .u64 x.2.low)):=HK4.out.drew.set_ _ _
        have h23:(W4.drew.setCell ⟨g,m*24+22,none⟩ (.int .u64 x.2.low)).cell? ⟨g,m*24+23,none⟩=some y23:=by rw[hkg4.cell,Array.getElem?_setIfInBounds_ne (by omega),←HK4.out.cell];exact g23
        have hf23:(W4.drew.setCell ⟨g,m*24+22,none⟩ (.int .u64 x.2.low)).frozen? ⟨g,m*24+23,none⟩=false:=hkg4.frozen _
        have hOs:Only [g] W4.drew (W4.drew.setCell ⟨g,m*24+22,none⟩ (.int .u64 x.2.low)):=(Only.refl _ _).setCell (Or.inl (by simp)) _
        have x6:(W4.drew.setCell ⟨g,m*24+22,none⟩ (.int .u64 x.2.low)).cell? ⟨B6,0,none⟩=some (.slice (some ⟨g,0,none⟩) k rc):=(hOs.cell (p:=⟨B6,0,none⟩) (World.block_lt_of_cell? W4 _ u6) (by have:=HG.out.1;have:=HBN.out;simp;omega)).trans u6
        have x1:(W4.drew.setCell ⟨g,m*24+22,none⟩ (.int .u64 x.2.low)).cell? ⟨nb,1,none⟩=some (.int .u64 x.2.low):=(hOs.cell (p:=⟨nb,1,none⟩) (World.block_lt_of_cell? W4 _ u1) (by simp;exact HNG.out)).trans u1
        have e22:W4.drew.cell? ⟨g,m*24+22,none⟩=some y22:=g22
        have ef22:W4.drew.frozen? ⟨g,m*24+22,none⟩=false:=f22
        clear hOs hkg4
        gi_wp2_with fail
        refine wpIn_region_store (n:=13) (s:=10) (w1:=W4.drew.setCell ⟨g,m*24+22,none⟩ (.int .u64 x.2.low)) (aF:={ tmps:= #[.pointer (some ⟨B.lb,0,none⟩),.int .u64 a0,.int .i64 lev,undef,undef,.pointer (some ⟨B5,0,none⟩),.pointer (some ⟨B6,0,none⟩),.int .u64 x.1,.pointer (some ⟨nb,0,none⟩),.int .i64 k,undef,undef,.pointer (some ⟨B.lb,0,none⟩),.int .u64 a0,.func (.func 241) #[] #[.pointer (some ⟨Ba,0,none⟩),.pointer (some ⟨Bl,0,none⟩)],.int .u64 x.1,.agg (nodeC x.2),.pointer (some ⟨nb,0,none⟩),.int .i64 x.2.lv,.int .i64 lev,.bool true,.bool true,.int .i64 lev,.bool false,.bool false,.pointer (some ⟨nb,4,none⟩),.int .u64 x.2.fi,.int .u64 x.1,.bool true,.bool true,.bool true,.tuple #[],.slice (some ⟨g,0,none⟩) k rc,.int .i64 k,.int .i64 k,.bool false,undef,undef,undef,undef,.pointer (some ⟨nb,1,none⟩),.int .u64 x.2.low,.slice (some ⟨g,0,none⟩) k rc,.int .i64 k,.int .i64 m,.pointer (some ⟨g,m*24,none⟩),.pointer (some ⟨g,m*24,none⟩),.pointer (some ⟨g,m*24+1,none⟩),.int .u64 last.2.low,.bool true,.tuple #[],.slice (some ⟨g,0,none⟩) k rc,.int .i64 k,.int .i64 m,.slice (some ⟨g,0,none⟩) k rc,.int .i64 k,.int .i64 m,.pointer (some ⟨nb,1,none⟩),.int .u64 x.2.low,.pointer (some ⟨g,m*24,none⟩),.pointer (some ⟨g,m*24+22,none⟩),.pointer (some ⟨g,m*24,none⟩),.pointer (some ⟨g,m*24+23,none⟩),undef,undef,undef,undef,undef,undef,undef,undef,undef,undef,undef,undef,undef,undef,undef,undef,undef,undef,undef,undef,undef,undef,undef,undef,undef,undef,undef,undef,undef,undef,undef],defers:=[] }) rfl ⟨rfl,by kernel_rfl,by kernel_rfl,fun _=>trivial,rfl,rfl,?old,?back,?run,by omega,?store,fun o ho=>by cases ho;rfl⟩ ?last
        case back=>exact backB_spec (by kernel_rfl)
        case old=>
         intro t ht
         have h0:t≠51:=fun e=>ht 0 _ (by omega) rfl (congrArg some e.symm)
         have h1:t≠52:=fun e=>ht 1 _ (by omega) rfl (congrArg some e.symm)
         have h2:t≠53:=fun e=>ht 2 _ (by omega) rfl (congrArg some e.symm)
         have h3:t≠54:=fun e=>ht 3 _ (by omega) rfl (congrArg some e.symm)
         have h4:t≠55:=fun e=>ht 4 _ (by omega) rfl (congrArg some e.symm)
         have h5:t≠56:=fun e=>ht 5 _ (by omega) rfl (congrArg some e.symm)
         have h6:t≠57:=fun e=>ht 6 _ (by omega) rfl (congrArg some e.symm)
         have h7:t≠58:=fun e=>ht 7 _ (by omega) rfl (congrArg some e.symm)
         have h8:t≠59:=fun e=>ht 8 _ (by omega) rfl (congrArg some e.symm)
         have h9:t≠60:=fun e=>ht 9 _ (by omega) rfl (congrArg some e.symm)
         have h11:t≠61:=fun e=>ht 11 _ (by omega) rfl (congrArg some e.symm)
         have h12:t≠62:=fun e=>ht 12 _ (by omega) rfl (congrArg some e.symm)
         exact old_mid [.pointer (some ⟨B.lb,0,none⟩),.int .u64 a0,.int .i64 lev,undef,undef,.pointer (some ⟨B5,0,none⟩),.pointer (some ⟨B6,0,none⟩),.int .u64 x.1,.pointer (some ⟨nb,0,none⟩),.int .i64 k,undef,undef,.pointer (some ⟨B.lb,0,none⟩),.int .u64 a0,.func (.func 241) #[] #[.pointer (some ⟨Ba,0,none⟩),.pointer (some ⟨Bl,0,none⟩)],.int .u64 x.1,.agg (nodeC x.2),.pointer (some ⟨nb,0,none⟩),.int .i64 x.2.lv,.int .i64 lev,.bool true,.bool true,.int .i64 lev,.bool false,.bool false,.pointer (some ⟨nb,4,none⟩),.int .u64 x.2.fi,.int .u64 x.1,.bool true,.bool true,.bool true,.tuple #[],.slice (some ⟨g,0,none⟩) k rc,.int .i64 k,.int .i64 k,.bool false,undef,undef,undef,undef,.pointer (some ⟨nb,1,none⟩),.int .u64 x.2.low,.slice (some ⟨g,0,none⟩) k rc,.int .i64 k,.int .i64 m,.pointer (some ⟨g,m*24,none⟩),.pointer (some ⟨g,m*24,none⟩),.pointer (some ⟨g,m*24+1,none⟩),.int .u64 last.2.low,.bool true,.tuple #[]] [undef,undef,undef,undef,undef,undef,undef,undef,undef,undef,undef,undef,undef,undef,undef,undef,undef,undef,undef,undef,undef,undef,undef,undef,undef,undef,undef,undef,undef,undef,undef] [undef,undef,undef,undef,undef,undef,undef,undef,undef,undef,undef,undef] [.slice (some ⟨g,0,none⟩) k rc,.int .i64 k,.int .i64 m,.slice (some ⟨g,0,none⟩) k rc,.int .i64 k,.int .i64 m,.pointer (some ⟨nb,1,none⟩),.int .u64 x.2.low,.pointer (some ⟨g,m*24,none⟩),.pointer (some ⟨g,m*24+22,none⟩),.pointer (some ⟨g,m*24,none⟩),.pointer (some ⟨g,m*24+23,none⟩)] rfl rfl rfl t (by simp only[List.length_cons,List.length_nil];omega)
        case run=>
         intro i o hi hs ho
         obtain rfl | rfl | rfl | rfl | rfl | rfl | rfl | rfl | rfl | rfl | rfl | rfl:i=0∨i=1∨i=2∨i=3∨i=4∨i=5∨i=6∨i=7∨i=8∨i=9∨i=11∨i=12:=by omega
         all_goals
          cases ho
          refine⟨rfl,(by intro cs b h;cases h),(by intro c h;cases h),_,_,rfl,?_,?_,rfl⟩
          ·go_simp
          ·go_simp
        case store=>
         intro o ho
         cases ho
         refine⟨rfl,(by intro cs b h;cases h),(by intro c h;cases h),rfl,?_⟩
         go_simp
        case last=>
         intro o ho
         cases ho
         refine⟨fun _ _=>trivial,?_⟩
         rw[Oper.semAt_eq _ _ _ (by intro c h;cases h)]
         go_simp
         obtain⟨W5,hW5⟩: ∃W5,W5=((W4.setCell ⟨g,m*24+22,none⟩ (.int .u64 x.2.low)).setCell ⟨g,m*24+23,none⟩ (.bool true)).drew:=⟨_,rfl⟩
         rw[←hW5]
         have o5:Only [g] W2 W5:=by rw[hW5,HW4.out];exact((((Only.refl [g] W2).drew).setCell (Or.inl (by simp)) _).setCell (Or.inl (by simp)) _).drew
         have kn5:Blk W5 nb 55 (nodeC x.2):=o5.blk HJ.out.2.1 (by simp;exact HNG.out)
         have kb6:Blk W5 B6 148 #[.slice (some ⟨g,0,none⟩) k rc]:=o5.blk HJ.out.2.2.1 (by have:=HG.out.1;have:=HBN.out;simp;omega)
         have w6:W5.cell? ⟨B6,0,none⟩=some (.slice (some ⟨g,0,none⟩) k rc):=kb6.cell 0
         have wld:=node_ld kn5
         have lb5:=link_built x.2 x.1 W5
         have ls5:=link_row x.2 x.1 W5
         have HW5:=hid hW5
         have HO5:=hid (⟨o5,kn5,kb6⟩:_∧_∧_)
         clear hW5 o5 kn5 kb6 x6 x1 h23 hf23 e22 ef22 v6 v1 u6 u1 g22 g23 f22 f23
         have hr5:W5.ownsRow (w.heap.size+4) 196 24 (.slice (some ⟨g,0,none⟩) k rc) k (((linksC pre).set (m*24+22) (.int .u64 x.2.low)).set (m*24+23) (.bool true)):=by
          have h1:=own_set (own_set HJ.out.2.2.2.1 (m*24+22) (.int .u64 x.2.low)) (m*24+23) (.bool true)
          rw[HW5.out,HW4.out]
          exact((Only.refl [] _).drew).own (((Only.refl [] _).drew).own h1 (by simp)) (by simp)
         obtain⟨va,vc,w9,hrun,kb9,hJ9,hK9⟩:=lv_push x k HJ.out.2.2.2.2.1 hpl HJ.out.1 HJ.out.2.2.1 HJ.out.2.2.2.1 HO5.out.1 hr5 (linksC_snoc pre x (by have:=HG.out.2.2.2.2.2.2;have:=HJ.out.2.2.2.2.1;omega)).symm (by omega) (by have:=HG.out.2.2.2.1.lt;have:=HG.out.1;have:=HO5.out.1.size;omega) (by have:=HBN.out;have:=HS1.out;omega)
         have w9c:w9.cell? ⟨B6,0,none⟩=some (.slice (some ⟨g,0,none⟩) k rc):=kb9.cell 0
         have w9f:w9.frozen? ⟨B6,0,none⟩=false:=kb9.frozen 0
         have HEND:Hid (∀a,Q .normal a (w9.setCell ⟨B6,0,none⟩ (.slice va (k+1) vc))):=by
          intro a
          rw[←HQ.out]
          exact⟨⟨H1.out,fun h0=>HFI.out h0,by rw[HPV.out];exact hlow⟩,hJ9,hK9⟩
         clear hr5 kb9 hJ9 hK9
         gi_wp2
         exact HEND.out _
      ·have tl:decide (last.2.low<x.2.low)=false:=decide_eq_false hlow
       have HNL:=HNLOW hlow
       clear HNLOW
       gi_wp2_with fail
       refine wpIn_region_reads (n:=10) (aF:={ tmps:= #[.pointer (some ⟨B.lb,0,none⟩),.int .u64 a0,.int .i64 lev,undef,undef,.pointer (some ⟨B5,0,none⟩),.pointer (some ⟨B6,0,none⟩),.int .u64 x.1,.pointer (some ⟨nb,0,none⟩),.int .i64 k,undef,undef,.pointer (some ⟨B.lb,0,none⟩),.int .u64 a0,.func (.func 241) #[] #[.pointer (some ⟨Ba,0,none⟩),.pointer (some ⟨Bl,0,none⟩)],.int .u64 x.1,.agg (nodeC x.2),.pointer (some ⟨nb,0,none⟩),.int .i64 x.2.lv,.int .i64 lev,.bool true,.bool true,.int .i64 lev,.bool false,.bool false,.pointer (some ⟨nb,4,none⟩),.int .u64 x.2.fi,.int .u64 x.1,.bool true,.bool true,.bool true,.tuple #[],.slice (some ⟨g,0,none⟩) k rc,.int .i64 k,.int .i64 k,.bool false,undef,undef,undef,undef,.pointer (some ⟨nb,1,none⟩),.int .u64 x.2.low,.slice (some ⟨g,0,none⟩) k rc,.int .i64 k,.int .i64 m,.pointer (some ⟨g,m*24,none⟩),.pointer (some ⟨g,m*24,none⟩),.pointer (some ⟨g,m*24+1,none⟩),.int .u64 last.2.low,.bool false,undef,undef,undef,undef,undef,undef,undef,undef,undef,undef,undef,undef,undef,undef,undef,undef,undef,undef,undef,undef,undef,undef,undef,undef,undef,undef,undef,undef,undef,undef,undef,undef,undef,undef,undef,undef,undef,undef,undef,undef,undef,undef,undef,undef],defers:=[] }) rfl ⟨rfl,by kernel_rfl,by kernel_rfl,fun _=>trivial,rfl,rfl,?old,?back,?run,fun o ho=>by cases ho;rfl⟩ ?last
       case back=>exact backB_spec (by kernel_rfl)
       case old=>
        intro t ht
        have h0:t≠40:=fun e=>ht 0 _ (by omega) rfl (congrArg some e.symm)
        have h1:t≠41:=fun e=>ht 1 _ (by omega) rfl (congrArg some e.symm)
        have h2:t≠42:=fun e=>ht 2 _ (by omega) rfl (congrArg some e.symm)
        have h3:t≠43:=fun e=>ht 3 _ (by omega) rfl (congrArg some e.symm)
        have h4:t≠44:=fun e=>ht 4 _ (by omega) rfl (congrArg some e.symm)
        have h5:t≠45:=fun e=>ht 5 _ (by omega) rfl (congrArg some e.symm)
        have h6:t≠46:=fun e=>ht 6 _ (by omega) rfl (congrArg some e.symm)
        have h7:t≠47:=fun e=>ht 7 _ (by omega) rfl (congrArg some e.symm)
        have h8:t≠48:=fun e=>ht 8 _ (by omega) rfl (congrArg some e.symm)
        have h9:t≠49:=fun e=>ht 9 _ (by omega) rfl (congrArg some e.symm)
        exact old_mid [.pointer (some ⟨B.lb,0,none⟩),.int .u64 a0,.int .i64 lev,undef,undef,.pointer (some ⟨B5,0,none⟩),.pointer (some ⟨B6,0,none⟩),.int .u64 x.1,.pointer (some ⟨nb,0,none⟩),.int .i64 k,undef,undef,.pointer (some ⟨B.lb,0,none⟩),.int .u64 a0,.func (.func 241) #[] #[.pointer (some ⟨Ba,0,none⟩),.pointer (some ⟨Bl,0,none⟩)],.int .u64 x.1,.agg (nodeC x.2),.pointer (some ⟨nb,0,none⟩),.int .i64 x.2.lv,.int .i64 lev,.bool true,.bool true,.int .i64 lev,.bool false,.bool false,.pointer (some ⟨nb,4,none⟩),.int .u64 x.2.fi,.int .u64 x.1,.bool true,.bool true,.bool true,.tuple #[],.slice (some ⟨g,0,none⟩) k rc,.int .i64 k,.int .i64 k,.bool false,undef,undef,undef,undef] [undef,undef,undef,undef,undef,undef,undef,undef,undef,undef,undef,undef,undef,undef,undef,undef,undef,undef,undef,undef,undef,undef,undef,undef,undef,undef,undef,undef,undef,undef,undef,undef,undef,undef,undef,undef,undef,undef,undef,undef,undef,undef,undef,undef] [undef,undef,undef,undef,undef,undef,undef,undef,undef,undef] [.pointer (some ⟨nb,1,none⟩),.int .u64 x.2.low,.slice (some ⟨g,0,none⟩) k rc,.int .i64 k,.int .i64 m,.pointer (some ⟨g,m*24,none⟩),.pointer (some ⟨g,m*24,none⟩),.pointer (some ⟨g,m*24+1,none⟩),.int .u64 last.2.low,.bool false] rfl rfl rfl t (by simp only[List.length_cons,List.length_nil];omega)
       case run=>
        intro i o hi ho
        obtain rfl | rfl | rfl | rfl | rfl | rfl | rfl | rfl | rfl | rfl:i=0∨i=1∨i=2∨i=3∨i=4∨i=5∨i=6∨i=7∨i=8∨i=9:=by omega
        all_goals
         cases ho
         refine⟨rfl,(by intro cs b h;cases h),(by intro c h;cases h),_,_,rfl,?_,rfl⟩
         go_simp
       case last=>
        intro o ho
        cases ho
        refine⟨fun _ _=>trivial,?_⟩
        rw[Oper.semAt_eq _ _ _ (by intro c h;cases h)]
        go_simp
        refine((CallsIn.inRound _ (callsIn_wide.2 (MN.out W2.drew)))).mono ?_
        rintro e w3 ⟨rfl,rfl⟩
        exact HFAILD.out _ rfl HNL.out
    ·have e3:(x.2.fi==x.1)=false:=by simp[h3]
     have HNF:=hid (show ¬nodeFits bs lev prev x from fun h=>h3 (h.2.1 (by omega)))
     clear h3
     gi_wp2_with fail
     refine⟨trivial,CallsIn.inRound _ ((callsIn_wide.2 (MN.out W2))) |>.mono ?_⟩
     rintro e w3 ⟨rfl,rfl⟩
     exact HFAIL.out _ rfl HNF.out
  ·have e1:(x.2.lv==lev)=false:=by simp[h1]
   have H1:=hid h1
   clear h1
   gi_wp2_with fail
   refine⟨trivial,CallsIn.inRound _ ((callsIn_wide.2 (MN.out W2))) |>.mono ?_⟩
   rintro e w3 ⟨rfl,rfl⟩
   exact HFAIL.out _ rfl (fun h=>H1.out h.1)
 case hk5=>rw[HN.out.1];exact HW1.out.2.2.1.bel hb1
 case hk6=>rw[HN.out.2.1];exact HW1.out.2.2.2.1.bel hb1
 case hbel=>exact Only.of_below (HW1.out.2.1.trans (hb1.mono HW1.out.2.1.size)) _
 case hba=>rw[HN.out.2.2.2];exact HW1.out.2.2.2.2.2.bel hb1
 case hbl=>rw[HN.out.2.2.1];exact(HW1.out.2.2.2.2.1.bel hb1).cell 0
 case hpost=>
  rintro e W2 (⟨⟨v,rfl⟩,row,hC,hJ,hL2⟩ | ⟨rfl,hno,hb2,hdf⟩)
  ·refine Or.inl ⟨v,rfl,hJ.loop,?_⟩
   show wpF _ _ _ _ _ _
   generalize(recF _ _ _ _ _ _ LoopState.exhausted)=rx
   obtain⟨W3,hW3⟩: ∃W3,W3=W2.putObj (w1.heap.size+1) (.loop rx):=⟨_,rfl⟩
   rw[←hW3]
   have hJ3:=hJ.putL (l:=w1.heap.size+1) (r':=rx) (by have:=HN.out;omega)
   rw[←hW3] at hJ3
   have hO3:Only [w1.heap.size+1] W2 W3:=by rw[hW3];exact(Only.refl _ _).putObj (Or.inl (by simp)) _
   have hL3:=hL2.only hO3 (by have:=HLT.out;simp;omega) (by have:=HLT.out;simp;omega) (by have:=HLT.out;simp;omega) (by have:=HLT.out;simp;omega)
   have hdf:=hJ3.loop.df
   obtain⟨rv,k6,hrow⟩:=hJ3.row
   have hbel3:=hJ3.bel
   have HJ3:=hid (⟨hJ3.only',hL3,k6,hrow,hC,hdf⟩:_∧_∧_∧_∧_∧_)
   clear hJ hJ3 hL3 hL2 hC hW3 hO3 hdf hbel3
   refine wpF_of (n:=6) (wpIn_wide.2 ?_)
   obtain⟨ra,rc,rfl⟩:=row_form1 hrow
   obtain⟨k,hk⟩: ∃k,k=row.length:=⟨_,rfl⟩
   have c6:W3.cell? ⟨B6,0,none⟩=some (.slice ra row.length rc):=k6.cell 0
   rw[←hk] at c6
   have HK:=hid hk
   have hk6:k≤9223372036854775807:=by
    rcases Nat.eq_zero_or_pos k with h | h
    ·omega
    ·obtain⟨g,cap,cur,_,_,h1,h2,_⟩:=own_links hrow (by omega)
     unfold maxLen at h2
     omega
   clear hrow k6 hk hW1 hLp
   have MY:=hid Must_yes
   have MN:=hid Must_no
   have hDs:w1.heap.size=w.heap.size+4:=HW1.out.1
   have PANB: ∀W t,Below W3.heap.size W3 W→Hid ((¬mayRow row)→bodyPostM Fence.wide 6 Tryz.prog Tryz.f152 (LvPost w N B bs root pr R0 rows lev a0) (Exit.panic errC) { tmps:=t,defers:=[{ target:= .collected w1.heap.size,args:= #[] }] } W):=fun W t hb hn=>by
    have hdW:W.heap[w1.heap.size]?=some (.deferred (some [])):=(hb.block _ (Array.getElem?_eq_some_iff.1 HJ3.out.2.2.2.2.2).1).trans HJ3.out.2.2.2.2.2
    have hNb:Below N w W:=(HJ3.out.1.below (fun x hx=>by rw[List.mem_singleton.1 hx];exact HL1.out.ge.2.2.2) hNw).trans (hb.mono (Nat.le_trans hNw HJ3.out.1.size))
    refine postM_pan hdW ⟨hNb.trans ((Only.refl [w1.heap.size] W).putObj (Or.inl (by simp)) _ |>.below (fun x hx=>by rw[List.mem_singleton.1 hx];omega) (Nat.le_trans hNw hNb.size)),Or.inr ⟨fun row' h=>hn ?_,rfl⟩⟩
    rw[HJ3.out.2.2.2.2.1.det h.1];exact h.2
   have HPANB:=hid PANB
   clear PANB
   rw[hDs] at HPANB
   have HDS:=hid hDs
   clear hDs
   go_wp2_with fail
   go_loopw [11,71] (fun s11 iv wr=> ∃i:Nat,i≤k∧iv= .int .i64 i∧Hid (Below W3.heap.size W3 wr)∧Hid (∀j x,j<i→row[j]?=some x→mayN x.2 (highI row j) (hasI row j)=true)) (fun _ iv _=>k- (intOf iv).toNat)
   case atStart=>exact⟨0,Nat.zero_le _,rfl,Below.refl _ _,fun j x hj=>absurd hj (Nat.not_lt_zero _)⟩
   case round=>
    obtain⟨i,hik,rfl,hB,hM⟩:=hrel
    by_cases hlt:i<k
    ·have i0:(0:Int)≤(i:Int):=by omega
     have i1:(i:Int)< (k:Int):=by omega
     obtain⟨x,hx⟩: ∃x,row[i]?=some x:=⟨_,List.getElem?_eq_getElem (by have:=HK.out;omega)⟩
     have hrow:=HJ3.out.2.2.2.1
     obtain⟨g,cap,cur,hsl,hg1,hg2,hg3,hg4,hg5,hg6⟩:=own_links hrow (by have:=HK.out;omega)
     injection hsl with hs1' _ hs2'
     subst hs1' hs2'
     have ld1:=link_ld (i:=i*24) (n:=x.2) (a:=x.1) (h:=highI row i) (f:=hasI row i) (hg4.bel hB.out) (fun j v hv=>take_at hg6 (by rw[linksC_at hx (by have:=(List.getElem?_eq_some_iff.1 hv).1;rw[linkL_len] at this;exact this)];exact hv))
     obtain⟨W5,st5,k5,hb5⟩:=link_new wr x.2 x.1 (highI row i) (hasI row i)
     have ld5:=link_node k5
     have d22:W5.cell? ⟨wr.heap.size,22,none⟩=some (.int .u64 (highI row i)):=k5.cell 22
     have d23:W5.cell? ⟨wr.heap.size,23,none⟩=some (.bool (hasI row i)):=k5.cell 23
     have MA:=hid (NMay_z x.2 (highI row i) (hasI row i) W5)
     obtain⟨mm,hmm⟩: ∃mm,mm=mayN x.2 (highI row i) (hasI row i):=⟨_,rfl⟩
     have MA':=MA.out
     rw[←hmm] at MA'
     have MA:=hid MA'
     have HMM:=hid (⟨hmm,hx⟩:_∧_)
     have HB5:=hid (bx hB.out hb5)
     have HLT2:=hid hlt
     clear hmm hx hrow hg1 hg2 hg3 hg4 hg5 hg6 hb5 k5 MA' hlt hik
     go_wp2_with fail
     refine MA.out.mono ?_
     rintro e w6 ⟨rfl,hb6⟩
     have HB6:=hid (bx HB5.out hb6)
     clear hb6 ld5 ld1 st5 d22 d23
     cases mm
     ·go_wp2_with fail
      refine(MN.out w6).mono ?_
      rintro e w7 ⟨rfl,rfl⟩
      exact(HPANB.out w6 _ HB6.out).out (fun h=>by have:=h i x HMM.out.2;rw[←HMM.out.1] at this;cases this)
     ·have HM2:Hid (∀j x,j<i+1→row[j]?=some x→mayN x.2 (highI row j) (hasI row j)=true):=by
       intro j y hj hy
       by_cases hji:j=i
       ·subst hji
        rw[HMM.out.2] at hy
        injection hy with hy
        subst hy
        exact HMM.out.1.symm
       ·exact hM.out j y (by omega) hy
      go_wp2_with fail
      refine(MY.out w6).mono ?_
      rintro e w7 ⟨rfl,rfl⟩
      go_wp2
      go_roundw
      case rel=>exact⟨i+1,HLT2.out,by go_num,HB6,HM2⟩
      case measure=>simp[intOf];have:=HLT2.out;omega
    ·obtain rfl:i=k:=by omega
     have i1: ¬(i:Int)< (i:Int):=by omega
     have hMR:mayRow row:=fun j x hx=>hM.out j x (by have:=(List.getElem?_eq_some_iff.1 hx).1;have:=HK.out;omega) hx
     have hLw:=HJ3.out.2.1.bel hB.out
     have hVw:LvlsAt wr N B lv rows:=by
      have h3:LvlsAt W3 N B lv rows:=hLv.only HJ3.out.1 (fun k hk=>Or.inr (fun cs fr=>by
       rw[List.mem_singleton.1 hk]
       obtain⟨es,cl,q1,_⟩:=HSET.out
       rw[q1]
       exact⟨fun e=>(by cases e),fun e=>(by cases e)⟩))
      exact h3.only (Only.of_below hB.out []) (fun k hk=>by cases hk)
     have hrw:RowAt wr N (.slice ra i rc) row:=by
      have h1:=(Only.of_below hB.out []).own HJ3.out.2.2.2.1 (by simp)
      have e:(Value.slice ra i rc)= .slice ra row.length rc:=by rw[HK.out]
      rw[e]
      exact own_base2 h1 (by omega)
     have hNr:N≤wr.heap.size:=Nat.le_trans hNw (Nat.le_trans HJ3.out.1.size hB.out.size)
     obtain⟨va,vc,w9,hrun,z4,zf4,hL9,hV9,hb9,hO9⟩:=lvls_push hLw hVw hrw hNr hrl rfl
     have d4:wr.cell? ⟨B.lb,4,none⟩=some lv:=hLw.cells.cell 4
     have b6:wr.cell? ⟨B6,0,none⟩=some (.slice ra i rc):=(hB.out.cell (p:=⟨B6,0,none⟩) (World.block_lt_of_cell? W3 _ c6)).trans c6
     have d4d:wr.drew.cell? ⟨B.lb,4,none⟩=some lv:=d4
     have b6d:wr.drew.cell? ⟨B6,0,none⟩=some (.slice ra i rc):=b6
     have d4a:(wr.alloc (.cells #[.slice ra i rc] 148)).drew.cell? ⟨B.lb,4,none⟩=some lv:=(hLw.cells.alloc _).cell 4
     have HRUN:=hid hrun
     have hdr:wr.heap[w.heap.size+4]?=some (.deferred (some [])):=by
      have h1:=HJ3.out.2.2.2.2.2
      rw[HDS.out] at h1
      exact(hB.out.block _ (Array.getElem?_eq_some_iff.1 h1).1).trans h1
     have hdW:=(hO9.block _ (Array.getElem?_eq_some_iff.1 hdr).1 (fun hm=>by
      rcases List.mem_cons.1 hm with e | e
      ·have:=HLT.out;omega
      ·obtain⟨vs,_,q2,_⟩:=hVw.own
       obtain⟨_,cs,hc⟩:=own_typed q2 _ (by simpa[Option.mem_toList] using e)
       rw[hc] at hdr
       cases hdr)).trans hdr
     have HEND:=hid (⟨hMR,hL9,hV9,hb9,hNr,hdW⟩:_∧_∧_∧_∧_∧_)
     clear hdr hdW hO9
     clear hMR hLw hVw hrw hNr hL9 hV9 hb9 hrun c6 hik hlt
     go_wp2_with fail
     refine Code.wp_mono (Q:=CalmL _) CalmL.imp ?_
     refine share (X:= ?X) (fun key=> ?_) ?_
     rotate_left
     ·go_region_law (refine step_append_runI rfl (.tmp 88) (.tmp 90) 140 140 rfl _ _ (by simp[Act.eval,Act.put]) (by simp[Act.eval,Act.put]) HRUN.out ?_)
      all_goals
       try go_simp
       try simp only[Act.put,List.setIfInBounds_toArray,List.set_cons_zero,List.set_cons_succ]
       exact key.out
     refine CalmL.normal ?_
     obtain⟨W9,hW9⟩: ∃W9,W9=w9.setCell ⟨B.lb,4,none⟩ (.slice va (rows.length+1) vc):=⟨_,rfl⟩
     rw[←hW9]
     have HE:=HEND.out
     rw[←hW9] at HE
     obtain⟨hMR,hL9,hV9,hb9,hNr,hdW⟩:=HE
     have oD:Only [w.heap.size+4] W9 (W9.putObj (w.heap.size+4) (.deferred none)):=(Only.refl _ _).putObj (Or.inl (by simp)) _
     have hNw3:Below N w wr:=(HJ3.out.1.below (fun x hx=>by rw[List.mem_singleton.1 hx];exact HL1.out.ge.2.2.2) hNw).trans (hB.out.mono (Nat.le_trans hNw HJ3.out.1.size))
     refine postM_end (v:= .tuple #[]) hdW (by simp[results,Tryz.results152,go_sem]) ⟨(hNw3.trans hb9).trans (oD.below (fun x hx=>by rw[List.mem_singleton.1 hx];omega) (Nat.le_trans hNr hb9.size)),Or.inl ⟨row,_,HJ3.out.2.2.2.2.1,hMR,rfl,hL9.only oD (by have:=HLT.out;simp;omega) (by have:=HLT.out;simp;omega) (by have:=HLT.out;simp;omega) (by have:=HLT.out;simp;omega),hV9.only oD (fun k hk=>Or.inr fun cs fr=> ?_)⟩⟩
     rw[List.mem_singleton.1 hk,hdW]
     exact⟨fun e=>(by cases e),fun e=>(by cases e)⟩
  ·refine Or.inr ⟨errC,rfl,?_⟩
   exact postM_pan hdf ⟨hb2.trans ((Only.refl [w1.heap.size] W2).putObj (Or.inl (by simp)) _ |>.below (fun x hx=>by rw[List.mem_singleton.1 hx];omega) (Nat.le_trans hNw hb2.size)),Or.inr ⟨fun row h=>hno row h.1,rfl⟩⟩
end
section
attribute [local go_sem ↓ high] nodeLoadAt nodeLoadVar nodeStoreAt append_shut2 linkBuild linkBuildS linkLoadAt linkStoreAt
attribute [local go_sem] ldM_run lvM_run stM_run Oper.semAt_some appM2_run bldM_run bslM_run
theorem node_f0 (n:NodeA) (W:World):Sem.run Tryz.prog (Instr.field 55 (.agg (nodeC n)) 0) W= .ok (.int .i64 n.lv) W:=by kernel_rfl
def WhPost (bs:List Int) (w:World) (e:Ending) (w':World):Prop:=
 Below w.heap.size w w'∧((∃rs ps B lv pr,WholeOK bs rs ps∧e= .returned (.pointer (some ⟨B.lb,0,none⟩))∧(∃leaves,rs.getLast?=some leaves∧LookIs w' w.heap.size B bs (wAt bs 2) lv pr (allA rs++(allE leaves).map (·.2)))∧LvlsAt w' w.heap.size B lv rs∧PrsAt w' w.heap.size B pr ps)∨((∀rs ps,¬WholeOK bs rs ps)∧e= .panicked errC))
theorem chain_pos {bs:List Int} (hb: ∀x∈bs,0≤x∧x<256) {lev:Int}: ∀{row:List (Int×NodeA)} {prev:Option Int} {a:Int},ChainAt (nodeI bs) lev prev a row→0≤a→ ∀x∈row,0≤x.1
 | [],_,_,_,_=>fun x hx=>by cases hx
 | y::r,_,_,h,ha=>by
  obtain⟨_,h1,h2,_,_,_,h3⟩:=h
  have hnx:0≤y.2.nx:=by
   rw[(node_in h2).2]
   exact(nodeF_U64 hb _ 2).1
  intro x hx
  rcases List.mem_cons.1 hx with e | e
  ·rw[e,h1];exact ha
  ·exact chain_pos hb h3 hnx x e
theorem RowAt.fi {W:World} {N n:Nat} {ra:Option Addr} {rc:Nat} {row:List (Int×NodeA)} {x:Int×NodeA} (h:RowAt W N (.slice ra n rc) row) (hx:row[0]?=some x): ∃g,ra=some ⟨g,0,none⟩∧W.cell? ⟨g,4,none⟩=some (.int .u64 x.2.fi):=by
 have hi:=(List.getElem?_eq_some_iff.1 hx).1
 obtain⟨g,cap,cur,hsl,hg1,hg2,hg3,hg4,hg5,hg6⟩:=own_links h (by omega)
 injection hsl with hs1' _ hs2'
 refine⟨g,hs1',?_⟩
 rw[hg4.cell 4]
 have:=take_at hg6 (show(linksC row)[0*24+4]?=some (.int .u64 x.2.fi) by rw[linksC_at hx (by omega)];rfl)
 simpa using this
theorem Whole_no0 (p:Option Addr) (n cap:Nat) (bs:List Int) (hn:n=bs.length) (h6:n≤1000000) (hs: ¬0<slabsZ bs.length) (w:World):
  Calls Tryz.prog 66 #[.slice p n cap] w (WhPost bs w):=by
 have SL:=hid (LSlabs_no0 p n cap h6 (by rw[hn];exact hs) w)
 have HS:Hid (¬0<slabsZ bs.length):=hid hs
 clear hs hn
 go_enter Tryz.func66,Tryz.ntmps66
 go_wp2
 go_step3
 go_wp2_with fail
 refine SL.out.mono ?_
 rintro e w1 ⟨rfl,hb⟩
 exact⟨rfl,hb,Or.inr ⟨fun rs ps h=>(by have h1:=h.slabs.1;have h2:=HS.out;omega),rfl⟩⟩
theorem Whole_z (b off cap:Nat) (bs:List Int) (n:Nat) (hn:n=bs.length) (hcap:cap≤9223372036854775807) (hs:0<slabsZ bs.length) (w:World) (h:BytesIn w (some ⟨b,off,none⟩) cap bs):
  Calls Tryz.prog 66 #[.slice (some ⟨b,off,none⟩) n cap] w (WhPost bs w):=by
 have SL:=hid (LSlabs_z b off cap bs n hn hcap hs w h)
 have hl:=slabs_len hs
 have HN:=hid hn
 have HBY:=hid h.2.1
 clear h hs hn
 go_enter Tryz.func66,Tryz.ntmps66
 go_wp2
 go_step3
 go_wp2_with fail
 refine SL.out.mono ?_
 rintro e w1 (⟨hok,B,rfl,hL,hb1⟩ | ⟨hno,rfl,hb1⟩)
 rotate_left
 ·exact⟨rfl,hb1,Or.inr ⟨fun rs ps h=>hno h.slabs,rfl⟩⟩
 have HOK:=hid hok
 have SU:=hid (LSuper_z w.heap.size B bs n HN.out w1 hL)
 have HB1:=hid hb1
 have HLT:=hid (⟨hL.cells.lt,hL.ge,hL.ne⟩:_∧_∧_)
 clear hok hL hb1
 go_wp2_with fail
 refine SU.out.mono ?_
 rintro e w2 (⟨hsu,rfl,hL2,ho2⟩ | ⟨hno,rfl,hb2⟩)
 rotate_left
 ·exact⟨rfl,bx HB1.out hb2,Or.inr ⟨fun rs ps h=>hno h.sup,rfl⟩⟩
 have hB2:Below w.heap.size w w2:=HB1.out.trans (ho2.below (fun x hx=>by rw[List.mem_singleton.1 hx];exact HLT.out.2.1.1) HB1.out.size)
 obtain⟨root,hroot⟩: ∃root,root=wAt bs 2:=⟨_,rfl⟩
 rw[←hroot] at hL2
 have hrU:=wAt_in HBY.out (show 2<bs.length/8 by omega)
 rw[←hroot] at hrU
 have c2:w2.cell? ⟨B.lb,2,none⟩=some (.int .u64 root):=hL2.cells.cell 2
 have HSU:=hid (⟨hsu,hB2,hroot,hrU⟩:_∧_∧_∧_)
 have HL2:=hid hL2
 clear hsu ho2 hB2 hroot hL2
 cases hnd:nodeI bs root with
 | none=>
  have ND:=hid (LNode_no w.heap.size B bs root _ _ [] root HSU.out.2.2.2 hnd w2 HL2.out)
  have HND:=hid hnd
  clear hnd hrU
  go_wp2_with fail
  refine ND.out.mono ?_
  rintro e w3 ⟨rfl,hb3⟩
  refine⟨rfl,bx HSU.out.2.1 hb3,Or.inr ⟨fun rs ps h=> ?_,rfl⟩⟩
  obtain⟨n',h1,_⟩:=h.rows
  rw[←HSU.out.2.2.1,HND.out] at h1
  cases h1
 | some nn=>
  have ND:=hid (LNode_yes w.heap.size B bs root _ _ [] root HSU.out.2.2.2 nn hnd w2 HL2.out)
  have HND:=hid hnd
  have hlv:=nodeI_lv hnd
  have hr0:root≠0:=fun e=>by rw[e,node_zero] at hnd;cases hnd
  have HR0:=hid hr0
  clear hnd hrU hr0
  go_wp2_with fail
  refine ND.out.mono ?_
  rintro e w3 ⟨rfl,hb3⟩
  have HL3:=hid (HL2.out.bel hb3)
  have HB3:=hid (bx HSU.out.2.1 hb3)
  clear hb3 c2
  have nf:=node_f0 nn w3
  go_wp2
  go_step3
  go_wp2
  go_loopw [4,5,6,7] (fun fv lvv rv kv wr=> ∃(rows:List (List (Int×NodeA))) (lev a0:Int) (lv:Value),fv= .int .u64 a0∧lvv= .int .i64 lev∧Hid (RTo (nodeI bs) nn.lv root rows lev a0∧0≤lev∧(rows.length:Int)+lev=nn.lv∧0≤a0∧a0≤18446744073709551615∧(rows=[]→a0≠0)∧LookIs wr w.heap.size B bs root lv (.slice none 0 0) (allA rows)∧LvlsAt wr w.heap.size B lv rows∧Below w.heap.size w wr)) (fun _ lvv _ _ _=>(intOf lvv).toNat)
  case atStart=>exact⟨[],nn.lv,root,.slice none 0 0,rfl,rfl,RTo.start _ _ _,hlv.1,by simp,HSU.out.2.2.2.1,HSU.out.2.2.2.2,fun _=>HR0.out,HL3.out,⟨⟨[],rfl,World.ownsRow_nil _ _ _ _,fun i row h=>by simp at h⟩,fun k hk=>by simp[Value.ownBlock] at hk⟩,HB3.out⟩
  case round=>
   obtain⟨rows,lev,a0,lv,rfl,rfl,hI⟩:=hrel
   have hbz:bs.length≤1000000:=by omega
   have LV:=hid (callsIn_wide.1 (Level_in w.heap.size B bs root lv (.slice none 0 0) (allA rows) lev a0 ⟨hI.out.2.2.2.1,hI.out.2.2.2.2.1⟩ wr hI.out.2.2.2.2.2.2.1 hI.out.2.2.2.2.2.2.2.2.size hbz hI.out.1.ne hI.out.2.1 rows (by have:=hI.out.2.2.1;have:=hI.out.2.1;omega) hI.out.2.2.2.2.2.2.2.1))
   go_wp2_with fail
   refine LV.out.mono ?_
   rintro e w4 ⟨hb4,(⟨row,lv',hC,hM,rfl,hL4,hV4⟩ | ⟨hno,rfl⟩)⟩
   rotate_left
   ·refine⟨rfl,hI.out.2.2.2.2.2.2.2.2.trans hb4,Or.inr ⟨fun rs ps h=> ?_,rfl⟩⟩
    obtain⟨n',h1,h2⟩:=h.rows
    rw[←HSU.out.2.2.1,HND.out] at h1
    injection h1 with h1
    rw[←HSU.out.2.2.1,←h1] at h2
    exact hI.out.1.no (fun row hr=>hno row ⟨hr.1,hr.2.1⟩) rs h2
   ·obtain⟨g,cp,rfl,hcp,hgl,hrd⟩:=hV4.ld (by simp)
    obtain⟨m,hm⟩: ∃m,m=rows.length:=⟨_,rfl⟩
    obtain⟨kk,hkk⟩: ∃kk,kk=(rows++[row]).length:=⟨_,rfl⟩
    have hkm:kk=m+1:=by rw[hkk,hm];simp
    have hm15:m≤15:=by have:=hI.out.2.2.1;have:=hI.out.2.1;omega
    obtain⟨ra,rc,hrc,hrow⟩:=hrd m row (by rw[hm];simp)
    rw[←hkk] at hcp hV4 hL4
    have c4:w4.cell? ⟨B.lb,4,none⟩=some (.slice (some ⟨g,0,none⟩) kk cp):=hL4.cells.cell 4
    have dk:IntKind.i64.wrap ((kk:Int)-1)=(m:Int):=by rw[IntWalk.i64_in _ (by omega)];omega
    have j0:(0:Int)≤(m:Int):=by omega
    have j1:(m:Int)< (kk:Int):=by omega
    obtain⟨rl,hrl⟩: ∃rl,rl=row.length:=⟨_,rfl⟩
    have hrow':=hrow
    rw[←hrl] at hrc hrow'
    have HB4:=hid (hI.out.2.2.2.2.2.2.2.2.trans hb4)
    have HC:=hid (⟨hC,hM,hL4,hV4,hrd,hm,hkm,hrl⟩:_∧_∧_∧_∧_∧_∧_∧_)
    have HROW:=hid hrow'
    have HRC:=hid hrc
    have NOROWS: ∀w':World,Below w4.heap.size w4 w'→(∀tot,¬RowsAt (nodeI bs) nn.lv root none tot)→WhPost bs w (.panicked errC) w':=fun w' hb hn=>by
     refine⟨bx HB4.out hb,Or.inr ⟨fun rs ps h=> ?_,rfl⟩⟩
     obtain⟨n',h1,h2⟩:=h.rows
     rw[←HSU.out.2.2.1,HND.out] at h1
     injection h1 with h1
     rw[←HSU.out.2.2.1,←h1] at h2
     exact hn rs h2
    have HNR:=hid NOROWS
    clear hC hM hL4 hV4 hrd hm hkk hkm hrow hrow' hb4 hrl hcp NOROWS
    go_wp2_with fail
    go_quiet (fail)
    obtain⟨W5,hW5⟩: ∃W5,W5=w4.drewN nq:=⟨_,rfl⟩
    have hb5:Below w4.heap.size w4 W5:=by rw[hW5];exact⟨rfl,rfl,rfl,Nat.le_refl _,fun _ _=>rfl⟩
    rw[←hW5]
    have c5:W5.cell? ⟨B.lb,4,none⟩=some (.slice (some ⟨g,0,none⟩) kk cp):=by rw[hW5];exact c4
    have HB5:=hid hb5
    have t0:(lev==0)=true∨(lev==0)=false:=by cases(lev==0)<;>simp
    clear hb5 hW5 c4 hrc
    rcases t0 with t0 | t0
    ·
     by_cases hre:rows=[]
     case' pos=>
      have hk1: ¬(1< (kk:Int)):=by
       have h6:=HC.out.2.2.2.2.2.1
       have h7:=HC.out.2.2.2.2.2.2.1
       rw[hre] at h6;simp at h6;omega
      have HLD:Hid (∀u,rows.getLast?=some u→leadsI u row):=hid (by rw[hre];intro u hu;simp at hu)
      have HNE:Hid (row≠[]):=hid (chain_full HC.out.1 (hI.out.2.2.2.2.2.1 hre))
      obtain⟨W6,rfl⟩: ∃x,x=W5:=⟨_,rfl⟩
      have HB6:=hid HB5.out
      clear hre
      go_wp2
     case' neg=>
      have hre':=List.length_pos_iff.2 hre
      have h6:=HC.out.2.2.2.2.2.1
      have h7:=HC.out.2.2.2.2.2.2.1
      have hk1:1< (kk:Int):=by omega
      obtain⟨u,hu⟩: ∃u,rows.getLast?=some u:=by
       cases h:rows.getLast? with
       | none=>exact absurd (List.getLast?_eq_none_iff.1 h) hre
       | some u=>exact⟨u,rfl⟩
      obtain⟨q,hq⟩: ∃q,m=q+1:=⟨m-1,by omega⟩
      have hgu:(rows++[row])[q]?=some u:=by
       rw[List.getElem?_append_left (by omega),←hu,List.getLast?_eq_getElem?]
       congr 1;omega
      obtain⟨ua,uc,huc,hur⟩:=HC.out.2.2.2.2.1 q u hgu
      obtain⟨ul,hul⟩: ∃ul,ul=u.length:=⟨_,rfl⟩
      rw[←hul] at huc hur
      have cu:W5.cell? ⟨g,q,none⟩=some (.slice ua ul uc):=((Only.of_below HB5.out []).cell (p:=⟨g,q,none⟩) hgl (by simp)).trans huc
      have d2:IntKind.i64.wrap ((kk:Int)-2)=(q:Int):=by rw[IntWalk.i64_in _ (by omega)];omega
      have q0:(0:Int)≤(q:Int):=by omega
      have q1:(q:Int)< (kk:Int):=by omega
      have CH:=hid (LChildren_z w.heap.size B.lb u row ua ra ul rl uc rc hul HC.out.2.2.2.2.2.2.2 (chain_lows HC.out.1) W5 (hur.only (Only.of_below HB5.out []) (by simp)) (HROW.out.only (Only.of_below HB5.out []) (by simp)))
      have HU:=hid hu
      have HQ:=hid hq
      clear hre hre' h6 h7 hu hq hgu huc hur hul
      go_wp2_with fail
      refine CH.out.mono ?_
      rintro e W6 ⟨hb6,(⟨hld,rfl⟩ | ⟨hnl,rfl⟩)⟩
      rotate_left
      ·exact⟨rfl,HNR.out W6 (bx HB5.out hb6) (hI.out.1.no (fun row' hr=>hnl (by
        have e:=hr.1.det HC.out.1
        rw[←e]
        exact hr.2.2 u HU.out)))⟩
      have HLD:Hid (∀u,rows.getLast?=some u→leadsI u row):=hid (by
       intro u' hu'
       rw[HU.out] at hu'
       injection hu' with hu'
       rw[←hu'];exact hld)
      have HNE:Hid (row≠[]):=hid (leads_full hld (hI.out.1.full u (List.mem_of_getLast? HU.out)))
      have HB6:=hid (bx HB5.out hb6)
      clear hb6 hld CH cu d2
      go_wp2
     all_goals
      have hL6:=HC.out.2.2.1.bel (HB6.out)
      have c6:W6.cell? ⟨B.lb,4,none⟩=some (.slice (some ⟨g,0,none⟩) kk cp):=hL6.cells.cell 4
      have r6:W6.cell? ⟨g,m,none⟩=some (.slice ra rl rc):=((Only.of_below HB6.out []).cell (p:=⟨g,m,none⟩) hgl (by simp)).trans HRC.out
      have hls:=slabs_len HL3.out.fix.some'
      have hfew:=chain_few HC.out.1.whole.choose_spec HL3.out.fix.some' (chain_pos HBY.out HC.out.1 hI.out.2.2.2.1)
      have VAL:=hid (fun(W:World) (hb:Below w4.heap.size w4 W)=>LValues_z w.heap.size B bs root (.slice (some ⟨g,0,none⟩) kk cp) (allA rows++row.map (·.1)) row ra rl rc HC.out.2.2.2.2.2.2.2 (by rw[HC.out.2.2.2.2.2.2.2];omega) W (HC.out.2.2.1.bel hb) (HROW.out.only (Only.of_below hb []) (by simp)) (fun x hx=>(HC.out.1.whole.choose_spec.at' x hx).2.1) (Nat.le_trans HB4.out.size hb.size))
      clear hL6 hls hfew
      refine wp_region_still_tail 13 (by kernel_rfl) (by kernel_rfl) ?_
      simp only[List.take_succ_cons,List.take_zero,List.drop_succ_cons,List.drop_zero]
      iterate 13 (with_reducible refine wpStill_want ?_ (fun K hK=> ?_);(· kernel_rfl);go_simp;with_reducible refine hK _ ?_;clear hK K)
      with_reducible refine wpStill_nil ?_
      change wpList _ _ _ _ _ W6.drew
      have hbd:Below W6.heap.size W6 W6.drew:=⟨rfl,rfl,rfl,Nat.le_refl _,fun _ _=>rfl⟩
      generalize W6.drew=W7 at hbd ⊢
      have HB7:=hid (bx HB6.out hbd)
      clear hbd c6 r6
      have e0:lev=0:=by simpa using t0
      have HDN:=hid (RTo.done (by rw[←e0];exact hI.out.1) (by rw[←e0];exact HC.out.1) HC.out.2.1 HLD.out)
      clear e0
      go_wp2_with fail
      refine(VAL.out W7 HB7.out).mono ?_
      rintro e W8 (⟨ps,pr,hva,rfl,hL8,hP8,hO8⟩ | ⟨hno,rfl,hO8⟩)
      rotate_left
      ·refine⟨rfl,(bx HB4.out HB7.out).trans (hO8.below (fun x hx=>by
        have:=HLT.out.2.1
        simp at hx
        rcases hx with e | e<;>rw[e]<;>omega) (Nat.le_trans HB4.out.size HB7.out.size)),Or.inr ⟨fun rs ps h=> ?_,rfl⟩⟩
       obtain⟨n',h1,h2⟩:=h.rows
       rw[←HSU.out.2.2.1,HND.out] at h1
       injection h1 with h1
       rw[←HSU.out.2.2.1,←h1] at h2
       have e:=h2.det HDN.out
       obtain⟨lv,h3,h4⟩:=h.vals
       rw[e,List.getLast?_append] at h3
       simp at h3
       rw[←h3,e,allA_snoc] at h4
       exact hno ps h4
      ·have hmb: ∀k∈[B.mb,B.lb],W7.heap.size≤k∨(∀cs fr,W7.heap[k]?≠some (.cells cs 196 fr)∧W7.heap[k]?≠some (.cells cs 148 fr)):=by
        have hL7:=HC.out.2.2.1.bel HB7.out
        intro k hk
        right
        intro cs fr
        simp at hk
        rcases hk with e | e
        ·obtain⟨es,cl,q1,_⟩:=hL7.set
         rw[e,q1]
         exact⟨(fun h=>by cases h),(fun h=>by cases h)⟩
        ·have hb:W7.heap[B.lb]?=_:=hL7.cells
         rw[e,hb]
         exact⟨(fun h=>by injection h with h;injection h with _ h;cases h),(fun h=>by injection h with h;injection h with _ h;cases h)⟩
       have HFIN:=hid (show WhPost bs w (.returned (.pointer (some ⟨B.lb,0,none⟩))) W8 from⟨(bx HB4.out HB7.out).trans (hO8.below (fun x hx=>by
        have:=HLT.out.2.1
        simp at hx
        rcases hx with e | e<;>rw[e]<;>omega) (Nat.le_trans HB4.out.size HB7.out.size)),Or.inl ⟨rows++[row],ps,B,_,pr,⟨HOK.out,HSU.out.1,⟨nn,by rw[←HSU.out.2.2.1];exact HND.out,by rw[←HSU.out.2.2.1];exact HDN.out⟩,⟨row,by rw[List.getLast?_append];simp,by rw[allA_snoc];exact hva⟩⟩,rfl,⟨row,by rw[List.getLast?_append];simp,by rw[allA_snoc,←HSU.out.2.2.1];exact hL8⟩,(HC.out.2.2.2.1.only (Only.of_below HB7.out []) (by simp)).only hO8 hmb,hP8⟩⟩)
       clear hva hL8 hP8 hO8 hmb
       go_wp2
       try rw[Exit.noGoto_ret]
       go_ret
       exact HFIN.out
    ·
     by_cases hre:rows=[]
     case' pos=>
      have hk1: ¬(1< (kk:Int)):=by
       have h6:=HC.out.2.2.2.2.2.1
       have h7:=HC.out.2.2.2.2.2.2.1
       rw[hre] at h6;simp at h6;omega
      have HLD:Hid (∀u,rows.getLast?=some u→leadsI u row):=hid (by rw[hre];intro u hu;simp at hu)
      have HNE:Hid (row≠[]):=hid (chain_full HC.out.1 (hI.out.2.2.2.2.2.1 hre))
      obtain⟨W6,rfl⟩: ∃x,x=W5:=⟨_,rfl⟩
      have HB6:=hid HB5.out
      obtain⟨x,r,hxr⟩:=List.exists_cons_of_ne_nil HNE.out
      obtain⟨g2,rfl,f4⟩:=(HROW.out.only (Only.of_below HB6.out []) (by simp)).fi (x:=x) (by rw[hxr];rfl)
      have hr0:(0:Int)< (rl:Int):=by rw[HC.out.2.2.2.2.2.2.2,hxr];simp
      have dl:IntKind.i64.wrap (lev-1)=lev-1:=by
       have:=hI.out.2.2.1
       rw[IntWalk.i64_in _ (by have:=hI.out.2.1;omega)]
      have HXR:=hid hxr
      clear hxr
      clear hre
      go_wp2
     case' neg=>
      have hre':=List.length_pos_iff.2 hre
      have h6:=HC.out.2.2.2.2.2.1
      have h7:=HC.out.2.2.2.2.2.2.1
      have hk1:1< (kk:Int):=by omega
      obtain⟨u,hu⟩: ∃u,rows.getLast?=some u:=by
       cases h:rows.getLast? with
       | none=>exact absurd (List.getLast?_eq_none_iff.1 h) hre
       | some u=>exact⟨u,rfl⟩
      obtain⟨q,hq⟩: ∃q,m=q+1:=⟨m-1,by omega⟩
      have hgu:(rows++[row])[q]?=some u:=by
       rw[List.getElem?_append_left (by omega),←hu,List.getLast?_eq_getElem?]
       congr 1;omega
      obtain⟨ua,uc,huc,hur⟩:=HC.out.2.2.2.2.1 q u hgu
      obtain⟨ul,hul⟩: ∃ul,ul=u.length:=⟨_,rfl⟩
      rw[←hul] at huc hur
      have cu:W5.cell? ⟨g,q,none⟩=some (.slice ua ul uc):=((Only.of_below HB5.out []).cell (p:=⟨g,q,none⟩) hgl (by simp)).trans huc
      have d2:IntKind.i64.wrap ((kk:Int)-2)=(q:Int):=by rw[IntWalk.i64_in _ (by omega)];omega
      have q0:(0:Int)≤(q:Int):=by omega
      have q1:(q:Int)< (kk:Int):=by omega
      have CH:=hid (LChildren_z w.heap.size B.lb u row ua ra ul rl uc rc hul HC.out.2.2.2.2.2.2.2 (chain_lows HC.out.1) W5 (hur.only (Only.of_below HB5.out []) (by simp)) (HROW.out.only (Only.of_below HB5.out []) (by simp)))
      have HU:=hid hu
      have HQ:=hid hq
      clear hre hre' h6 h7 hu hq hgu huc hur hul
      go_wp2_with fail
      refine CH.out.mono ?_
      rintro e W6 ⟨hb6,(⟨hld,rfl⟩ | ⟨hnl,rfl⟩)⟩
      rotate_left
      ·exact⟨rfl,HNR.out W6 (bx HB5.out hb6) (hI.out.1.no (fun row' hr=>hnl (by
        have e:=hr.1.det HC.out.1
        rw[←e]
        exact hr.2.2 u HU.out)))⟩
      have HLD:Hid (∀u,rows.getLast?=some u→leadsI u row):=hid (by
       intro u' hu'
       rw[HU.out] at hu'
       injection hu' with hu'
       rw[←hu'];exact hld)
      have HNE:Hid (row≠[]):=hid (leads_full hld (hI.out.1.full u (List.mem_of_getLast? HU.out)))
      have HB6:=hid (bx HB5.out hb6)
      obtain⟨x,r,hxr⟩:=List.exists_cons_of_ne_nil HNE.out
      obtain⟨g2,rfl,f4⟩:=(HROW.out.only (Only.of_below HB6.out []) (by simp)).fi (x:=x) (by rw[hxr];rfl)
      have hr0:(0:Int)< (rl:Int):=by rw[HC.out.2.2.2.2.2.2.2,hxr];simp
      have dl:IntKind.i64.wrap (lev-1)=lev-1:=by
       have:=hI.out.2.2.1
       rw[IntWalk.i64_in _ (by have:=hI.out.2.1;omega)]
      have HXR:=hid hxr
      clear hxr
      clear hb6 hld CH cu d2
      go_wp2
     all_goals
      have e0:lev≠0:=by simpa using t0
      have hfi:=node_U HBY.out (HC.out.1.whole.choose_spec.at' x (by rw[HXR.out];exact List.mem_cons_self ..)).2.1
      have hlv0:0≤lev-1:=by have:=hI.out.2.1;omega
      go_roundw
      case rel=>exact⟨rows++[row],lev-1,x.2.fi,_,rfl,rfl,hI.out.1.next HC.out.1 HC.out.2.1 HLD.out e0 HXR.out,hlv0,by have:=hI.out.2.2.1;simp;omega,hfi.1,hfi.2,(fun h=>by simp at h),by rw[allA_snoc];exact HC.out.2.2.1.bel HB6.out,HC.out.2.2.2.1.only (Only.of_below HB6.out []) (by simp),bx HB4.out HB6.out⟩
      case measure=>simp[intOf];omega
end
end Go.Proofs.YtibiekfjbibpbaaGreat
