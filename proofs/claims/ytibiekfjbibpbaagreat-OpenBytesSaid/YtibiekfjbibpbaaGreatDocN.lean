/- The document's chain, walked. -/
import Derived.Test.YtibiekfjbibpbaaGreatDocM
set_option maxRecDepth 100000
set_option maxHeartbeats 1000000
set_option linter.unusedVariables false
set_option linter.unusedSimpArgs false
namespace Go.Proofs.YtibiekfjbibpbaaGreat
open Go.RowKit
section
attribute [local go_sem ↓ high] nodeLoadAt nodeLoadVar nodeStoreAt nodeBuild nodeBuildS drowLoadAt drowLoadVar drowStoreAt append_shut2
attribute [local go_sem] ldM_run lvM_run stM_run bldM_run bslM_run Oper.semAt_some appM2_run
theorem own_someN {w:World} {base:Nat} {e:TypeId} {size:Nat} {v:Value} {n:Nat} {xs:List Value} (h:w.ownsRow base e size v n xs) (h0:0<n): ∃g cap,v= .slice (some ⟨g,0,none⟩) n cap∧base≤g∧n≤cap∧g<w.heap.size∧ ∀i x,xs[i]?=some x→w.cell? ⟨g,0+i,none⟩=some x:=by
 have hl:=h.1
 rcases h.2 with⟨_,h2⟩ | ⟨g,cap,cur,rfl,h2,h3,h4,h5,h6,h7⟩
 ·omega
 ·refine⟨g,cap,rfl,h2,h4,(Array.getElem?_eq_some_iff.1 h3).1,fun i x hi=> ?_⟩
  have hc:Blk w g e cur:=h3
  have hil:i<n*size:=by have:=(List.getElem?_eq_some_iff.1 hi).1;omega
  rw[hc.cell,Nat.zero_add,←Array.getElem?_toList]
  have:(cur.toList.take (n*size))[i]?=some x:=by rw[h7];exact hi
  rwa[List.getElem?_take,if_pos hil] at this
def lenAt1 (W:World) (b:Nat):Nat:=match W.cell? ⟨b,1,none⟩ with | some (.slice _ n _)=>n | _=>0
structure ChI (bs:List Int) (lv a0:Int) (w:World) (a:Int) (a1 a2:Option Addr) (k c1 c2:Nat) (pre:List (Int×NodeA)) (prev:Option Int) (W:World):Prop where
 ch:ChainTo (nodeI bs) lv a0 pre prev a
 kl:k=pre.length
 few:k≤bs.length/8
 au:0≤a∧a≤18446744073709551615
 pos: ∀x∈pre,0≤x.1
 row:RowD W (w.heap.size+2) (.slice a1 k c1) (.slice a2 k c2) pre
 b6:Blk W w.heap.size 79 #[.slice none 0 0,.slice none 0 0]
 b8:Blk W (w.heap.size+1) 79 #[.slice a1 k c1,.slice a2 k c2]
 bel:Below w.heap.size w W
def DChPost (bs:List Int) (lv a0:Int) (w:World) (e:Ending) (w':World):Prop:=
 Below w.heap.size w w'∧((∃row a1 a2 c1 c2,ChainAt (nodeI bs) lv none a0 row∧e= .returned (.tuple #[.agg #[.slice a1 row.length c1,.slice a2 row.length c2],.bool true])∧RowD w' w.heap.size (.slice a1 row.length c1) (.slice a2 row.length c2) row∧row.length≤bs.length/8)∨
  ((∀row,¬ChainAt (nodeI bs) lv none a0 row)∧ ∃a1 n1 c1 a2 n2 c2,e= .returned (.tuple #[.agg #[.slice a1 n1 c1,.slice a2 n2 c2],.bool false])))
theorem ChI.bel2 {bs:List Int} {lv a0:Int} {w:World} {a:Int} {a1 a2:Option Addr} {k c1 c2:Nat} {pre:List (Int×NodeA)} {prev:Option Int} {W W':World} (h:ChI bs lv a0 w a a1 a2 k c1 c2 pre prev W) (hb:Below W.heap.size W W'):ChI bs lv a0 w a a1 a2 k c1 c2 pre prev W':=
 ⟨h.ch,h.kl,h.few,h.au,h.pos,h.row.bel hb,h.b6.bel hb,h.b8.bel hb,bx h.bel hb⟩
theorem ChI.fin {bs:List Int} {lv a0:Int} {w:World} {a:Int} {a1 a2:Option Addr} {k c1 c2:Nat} {pre:List (Int×NodeA)} {prev:Option Int} {W:World} (h:ChI bs lv a0 w a a1 a2 k c1 c2 pre prev W):
  ldR Tryz.prog 79 (.pointer (some ⟨w.heap.size+1,0,none⟩)) W= .ok (.agg #[.slice a1 k c1,.slice a2 k c2]) W∧ ∃W9,stR Tryz.prog 79 (.pointer (some ⟨w.heap.size,0,none⟩)) (.agg #[.slice a1 k c1,.slice a2 k c2]) W= .ok () W9∧lvR Tryz.prog 79 ⟨w.heap.size,0,none⟩ W9= .ok (.agg #[.slice a1 k c1,.slice a2 k c2]) W9∧Below w.heap.size w W9∧RowD W9 w.heap.size (.slice a1 k c1) (.slice a2 k c2) pre:=by
 refine⟨drow_ld h.b8,?_⟩
 obtain⟨W9,h1,h2,h3⟩:=drow_st h.b6 rfl a1 a2 k c1 k c2
 have h4:=h.row.only h3 (fun x hx=>by simp at hx;omega)
 exact⟨W9,h1,drow_lv h2,h.bel.trans (h3.below (fun x hx=>by simp at hx;omega) h.bel.size),⟨h4.at'.mono (by omega),h4.nd.mono (by omega)⟩⟩
theorem ChI.last {bs:List Int} {lv a0:Int} {w:World} {a:Int} {a1 a2:Option Addr} {k c1 c2:Nat} {pre:List (Int×NodeA)} {prev:Option Int} {W:World} (h:ChI bs lv a0 w a a1 a2 k c1 c2 pre prev W) (hk:0<k):
  ∃g lo,a2=some ⟨g,0,none⟩∧k≤c2∧prev=some lo∧W.cell? ⟨g,(k-1)*21+1,none⟩=some (.int .u64 lo):=by
 obtain⟨x,hx⟩: ∃x,pre[k-1]?=some x:=⟨_,List.getElem?_eq_getElem (by have:=h.kl;omega)⟩
 have hr:=h.row.nd
 unfold rowN at hr
 have hr':=hr
 rw[←h.kl] at hr'
 obtain⟨g,cap,e,hg1,hg2,hg3,hg4⟩:=own_someN hr' hk
 injection e with e1 _ e3
 refine⟨g,x.2.low,e1,by omega,?_,?_⟩
 ·rw[h.ch.last,List.getLast?_eq_getElem?,←h.kl,hx];rfl
 ·have:=hg4 ((k-1)*21+1) (.int .u64 x.2.low) (by rw[nodesV_at hx 1 (by omega)];rfl)
  rwa[Nat.zero_add] at this
theorem ChI.nolow {bs:List Int} {lv a0:Int} {w:World} {a:Int} {a1 a2:Option Addr} {k c1 c2:Nat} {pre:List (Int×NodeA)} {prev:Option Int} {W:World} (h:ChI bs lv a0 w a a1 a2 k c1 c2 pre prev W) (hk: ¬0<k):prev=none:=by
 have:pre=[]:=List.length_eq_zero_iff.1 (by have:=h.kl;omega)
 rw[h.ch.last,this];rfl
theorem DChain_r (p:Option Addr) (cap:Nat) (bs:List Int) (n:Nat) (hn:n=bs.length) (hl:n≤1000000) (hs:0<slabsZ bs.length) (a0 lv:Int) (ha:0≤a0∧a0≤18446744073709551615) (w:World) (h:BytesIn w p cap bs):
  Calls Tryz.prog 95 #[.slice p n cap,.int .u64 a0,.int .i64 lv] w (DChPost bs lv a0 w):=by
 obtain⟨W1,hW1⟩: ∃W1,W1=(w.alloc (.cells #[.slice none 0 0,.slice none 0 0] 79)).alloc (.cells #[.slice none 0 0,.slice none 0 0] 79):=⟨_,rfl⟩
 have hb1:Below w.heap.size w W1:=by rw[hW1];exact ba (ba (Below.refl _ _) _) _
 have k6:Blk W1 w.heap.size 79 #[.slice none 0 0,.slice none 0 0]:=by rw[hW1];exact(Blk.new _ _ _).alloc _
 have k8:Blk W1 (w.heap.size+1) 79 #[.slice none 0 0,.slice none 0 0]:=by
  rw[hW1]
  have:=Blk.new (w.alloc (.cells #[.slice none 0 0,.slice none 0 0] 79)) 79 #[.slice none 0 0,.slice none 0 0]
  rw[World.size_alloc] at this
  exact this
 have HI0:Hid (ChI bs lv a0 w a0 none none 0 0 0 [] none W1):=hid ⟨ChainTo.start _ _ _,rfl,Nat.zero_le _,ha,(fun x hx=>by cases hx),⟨World.ownsRow_nil _ _ _ _,World.ownsRow_nil _ _ _ _⟩,k6,k8,hb1⟩
 have HN:=hid hn
 have H:=hid h
 have HS:=hid hs
 clear k6 k8 hb1 hn h hs ha
 go_enter Tryz.func95,Tryz.ntmps95
 go_wp2
 rw[←hW1]
 clear hW1
 go_loopw [1] (fun av wr=> ∃(a:Int) (a1 a2:Option Addr) (k c1 c2:Nat) (pre:List (Int×NodeA)) (prev:Option Int),av= .int .u64 a∧Hid (ChI bs lv a0 w a a1 a2 k c1 c2 pre prev wr)) (fun _ wr=>bs.length/8+1-lenAt1 wr (w.heap.size+1))
 case atStart=>exact⟨a0,none,none,0,0,0,[],none,rfl,HI0⟩
 case round=>
  obtain⟨a,a1,a2,k,c1,c2,pre,prev,rfl,hI⟩:=hrel
  obtain⟨wA,rfl⟩: ∃x,x=wr:=⟨_,rfl⟩
  by_cases h0:a=0
  ·have e0:(a !=0)=false:=by simp[h0]
   obtain⟨hld,W9,hst,hlv,hb9,hrow⟩:=hI.out.fin
   have HF:Hid (DChPost bs lv a0 w (.returned (.tuple #[.agg #[.slice a1 k c1,.slice a2 k c2],.bool true])) W9):=by
    have ek:=hI.out.kl
    have ht:=hI.out.ch
    rw[h0] at ht
    have hf:=hI.out.few
    subst ek
    exact hid ⟨hb9,Or.inl ⟨pre,a1,a2,c1,c2,ht.done,rfl,hrow,hf⟩⟩
   clear h0 hb9 hrow
   go_wp2
   refine bodyPost_ret (v:= .tuple #[.agg #[.slice a1 k c1,.slice a2 k c2],.bool true]) (results_cellv_tmp rfl _ _ _ _ _ rfl rfl hlv) rfl ?_
   exact HF.out
  ·have e0:(a !=0)=true:=by simpa using h0
   have ND:=hid (RNode_r p cap bs n HN.out hl a hI.out.au wA (bytesBel H.out hI.out.bel))
   cases hnd:nodeI bs a with
   | none=>
    have er:nodeR bs a= .tuple #[.agg (nodeC zeroN),.int .i64 6]:=by unfold nodeR;rw[hnd]
    rw[er] at ND
    have HNO:Hid (∀row,¬ChainAt (nodeI bs) lv none a0 row):=hid (hI.out.ch.no h0 fun m hm=>by rw[hnd] at hm;cases hm)
    clear hnd er h0
    go_wp2_with fail
    refine ND.out.mono ?_
    rintro e w2 ⟨rfl,hb2⟩
    obtain⟨W7,hst7,k9,hb7⟩:=node_new w2 zeroN
    have hI2:=(hI.out.bel2 hb2).bel2 hb7
    obtain⟨hld,W9,hst,hlv,hb9,hrow⟩:=hI2.fin
    have HF:Hid (DChPost bs lv a0 w (.returned (.tuple #[.agg #[.slice a1 k c1,.slice a2 k c2],.bool false])) W9):=hid ⟨hb9,Or.inr ⟨HNO.out,_,_,_,_,_,_,rfl⟩⟩
    clear k9 hb7 hb2 hI2 hb9 hrow
    go_wp2
    refine bodyPost_ret (v:= .tuple #[.agg #[.slice a1 k c1,.slice a2 k c2],.bool false]) (results_cellv_tmp rfl _ _ _ _ _ rfl rfl hlv) rfl ?_
    exact HF.out
   | some nd=>
    have HLEN:=hid (show lenAt1 wA (w.heap.size+1)=k by
     unfold lenAt1
     rw[hI.out.b8.cell 1];rfl)
    have er:nodeR bs a= .tuple #[.agg (nodeC nd),.int .i64 0]:=by unfold nodeR;rw[hnd]
    rw[er] at ND
    have HND:=hid hnd
    have HH0:=hid h0
    clear hnd er h0
    go_wp2_with fail
    refine ND.out.mono ?_
    rintro e w2 ⟨rfl,hb2⟩
    obtain⟨W7,hst7,k9,hb7⟩:=node_new w2 nd
    have HI2:=hid ((hI.out.bel2 hb2).bel2 hb7)
    have HOL:=hid (fun q (hq:(Value.slice a2 k c2).ownBlock=some q)=>show q<w2.heap.size by have:=(hI.out.row.nd.lt q hq).2;have:=hb2.size;omega)
    have HK9:=hid k9
    have y0:W7.cell? ⟨w2.heap.size,0,none⟩=some (.int .i64 nd.lv):=HK9.out.cell 0
    have y1:W7.cell? ⟨w2.heap.size,1,none⟩=some (.int .u64 nd.low):=HK9.out.cell 1
    have y4:W7.cell? ⟨w2.heap.size,4,none⟩=some (.int .u64 nd.fi):=HK9.out.cell 4
    clear k9 hb7 hb2 hI
    go_upto_region 4 with fail
    go_cut [37] from 20 to 37 (fun s37 wc=>s37= .bool (decide (nd.lv≠lv∨(lv=0∧nd.fi≠a)))∧Hid (wc=W7))
    case first=>
     by_cases q1:nd.lv=lv
     ·have b1:(nd.lv !=lv)=false:=by simp[q1]
      by_cases q2:lv=0
      ·have b2:(lv==0)=true:=by simp[q2]
       by_cases q3:nd.fi=a
       ·have b3:(nd.fi !=a)=false:=by simp[q3]
        have HD:=hid (show decide (nd.lv≠lv∨(lv=0∧nd.fi≠a))=false by simp[q1,q3])
        clear q1 q2 q3
        go_wp2_with fail
        go_meet
        exact⟨by rw[HD.out],rfl⟩
       ·have b3:(nd.fi !=a)=true:=by simpa using q3
        have HD:=hid (show decide (nd.lv≠lv∨(lv=0∧nd.fi≠a))=true by simp[q2,q3])
        clear q1 q2 q3
        go_wp2_with fail
        go_meet
        exact⟨by rw[HD.out],rfl⟩
      ·have b2:(lv==0)=false:=by simpa using q2
       have HD:=hid (show decide (nd.lv≠lv∨(lv=0∧nd.fi≠a))=false by simp[q1,q2])
       clear q1 q2
       go_wp2_with fail
       go_meet
       exact⟨by rw[HD.out],rfl⟩
     ·have b1:(nd.lv !=lv)=true:=by simpa using q1
      have HD:=hid (show decide (nd.lv≠lv∨(lv=0∧nd.fi≠a))=true by simp[q1])
      clear q1
      go_wp2_with fail
      go_meet
      exact⟨by rw[HD.out],rfl⟩
    case rest=>
     obtain⟨rfl,hwc⟩:=hcut
     obtain rfl:=hwc.out
     clear hwc
     by_cases q:nd.lv≠lv∨(lv=0∧nd.fi≠a)
     ·have bq:decide (nd.lv≠lv∨(lv=0∧nd.fi≠a))=true:=decide_eq_true q
      rw[bq]
      have HNO:Hid (∀row,¬ChainAt (nodeI bs) lv none a0 row):=hid (HI2.out.ch.no HH0.out fun m hm hm1 hm2=>by
       rw[HND.out] at hm
       injection hm with hm
       subst hm
       rcases q with q | q
       ·exact absurd hm1 q
       ·exact absurd (hm2 q.1) q.2)
      obtain⟨hld,W9,hst,hlv,hb9,hrow⟩:=HI2.out.fin
      have HF:Hid (DChPost bs lv a0 w (.returned (.tuple #[.agg #[.slice a1 k c1,.slice a2 k c2],.bool false])) W9):=hid ⟨hb9,Or.inr ⟨HNO.out,_,_,_,_,_,_,rfl⟩⟩
      clear hb9 hrow q bq y0 y1 y4
      go_wp2
      refine bodyPost_ret (v:= .tuple #[.agg #[.slice a1 k c1,.slice a2 k c2],.bool false]) (results_cellv_tmp rfl _ _ _ _ _ rfl rfl hlv) rfl ?_
      exact HF.out
     ·have bq:decide (nd.lv≠lv∨(lv=0∧nd.fi≠a))=false:=decide_eq_false q
      rw[bq]
      have HQ:=hid (show nd.lv=lv∧(lv=0→nd.fi=a) by
       constructor
       ·by_cases h:nd.lv=lv
        ·exact h
        ·exact absurd (Or.inl h) q
       ·intro h
        by_cases h2:nd.fi=a
        ·exact h2
        ·exact absurd (Or.inr ⟨h,h2⟩) q)
      clear q bq
      have x1:wc.cell? ⟨w.heap.size+1,1,none⟩=some (.slice a2 k c2):=HI2.out.b8.cell 1
      go_upto_region 7 with fail
      go_cut [64] from 42 to 64 (fun s64 wd=> ∃bad:Bool,s64= .bool bad∧Hid ((bad=false↔lowOK prev nd.low)∧Below wc.heap.size wc wd))
      case first=>
       by_cases k0:0<k
       ·obtain⟨g,lo,e2,hc2,hpr,hcell⟩:=HI2.out.last k0
        subst e2
        obtain⟨m,hm⟩: ∃m,k-1=m:=⟨_,rfl⟩
        rw[hm] at hcell
        have i0:(0:Int)< (k:Int):=by omega
        have ie:((k:Int)==0)=false:=by simp;omega
        have wm:IntKind.i64.wrap ((k:Int)-1)=(m:Int):=by
         rw[IntWalk.i64_in _ (by have:=HI2.out.few;have:=HN.out;constructor<;>omega)];omega
        have m0:(0:Int)≤(m:Int):=by omega
        have m1:(m:Int)< (k:Int):=by omega
        have j0:0<k:=k0
        have j1:decide (0<k)=true:=decide_eq_true j0
        have j2:decide ((0:Int)< (k:Int))=true:=decide_eq_true i0
        have HPR:=hid hpr
        clear hpr k0 hc2 hm
        by_cases q:nd.low≤lo
        ·go_quiet (fail)
         go_wp2
         go_meet
         exact⟨true,rfl,⟨fun h=>by simp at h,fun h=>by rw[HPR.out] at h;have:lo<nd.low:=h;omega⟩,by(repeat(first | exact Below.refl _ _ | (refine ba ?_ _) | (refine Below.drew ?_) | (refine below_drewN ?_ _) | (refine Below.alloc ?_ (by first | omega | (simp;done) | (simp;omega)) _) | (refine Below.setCell ?_ (by first | omega | (simp;done) | (simp;omega)) _) | (refine bx ?_ (by assumption)) | (refine Below.trans ?_ (Below.mono (by assumption) (by first | omega | (simp;done) | (simp;omega))))))⟩
        ·go_quiet (fail)
         go_wp2
         go_meet
         exact⟨false,rfl,⟨fun _=>by rw[HPR.out];show lo<nd.low;omega,fun _=>rfl⟩,by(repeat(first | exact Below.refl _ _ | (refine ba ?_ _) | (refine Below.drew ?_) | (refine below_drewN ?_ _) | (refine Below.alloc ?_ (by first | omega | (simp;done) | (simp;omega)) _) | (refine Below.setCell ?_ (by first | omega | (simp;done) | (simp;omega)) _) | (refine bx ?_ (by assumption)) | (refine Below.trans ?_ (Below.mono (by assumption) (by first | omega | (simp;done) | (simp;omega))))))⟩
       ·have hpr:=HI2.out.nolow k0
        have HPR:=hid hpr
        obtain rfl:k=0:=by omega
        clear hpr k0
        by_cases q:nd.low=0
        ·have bq:(nd.low !=0)=false:=by simp[q]
         have HQ2:=hid q
         clear q
         go_quiet (fail)
         go_wp2
         go_meet
         exact⟨false,rfl,⟨fun _=>by rw[HPR.out];exact HQ2.out,fun _=>rfl⟩,by(repeat(first | exact Below.refl _ _ | (refine ba ?_ _) | (refine Below.drew ?_) | (refine below_drewN ?_ _) | (refine Below.alloc ?_ (by first | omega | (simp;done) | (simp;omega)) _) | (refine Below.setCell ?_ (by first | omega | (simp;done) | (simp;omega)) _) | (refine bx ?_ (by assumption)) | (refine Below.trans ?_ (Below.mono (by assumption) (by first | omega | (simp;done) | (simp;omega))))))⟩
        ·have bq:(nd.low !=0)=true:=by simpa using q
         have HQ2:=hid q
         clear q
         go_quiet (fail)
         go_wp2
         go_meet
         exact⟨true,rfl,⟨fun h=>by simp at h,fun h=>by rw[HPR.out] at h;exact absurd h HQ2.out⟩,by(repeat(first | exact Below.refl _ _ | (refine ba ?_ _) | (refine Below.drew ?_) | (refine below_drewN ?_ _) | (refine Below.alloc ?_ (by first | omega | (simp;done) | (simp;omega)) _) | (refine Below.setCell ?_ (by first | omega | (simp;done) | (simp;omega)) _) | (refine bx ?_ (by assumption)) | (refine Below.trans ?_ (Below.mono (by assumption) (by first | omega | (simp;done) | (simp;omega))))))⟩
      case rest=>
       obtain⟨bad,rfl,hwd⟩:=hcut
       have HI3:=hid (HI2.out.bel2 hwd.out.2)
       have HK3:=hid (HK9.out.bel hwd.out.2)
       cases bad
       ·have HLO:=hid (hwd.out.1.1 rfl)
        clear hwd y0 y1 y4 x1
        obtain⟨b1,d1,b2,d2,wa,wb,r1,r2,r3,r4,r5,r6,r7,r8,r9,r10,r11⟩:=HI3.out.row.push HI3.out.b8 (by omega) (by have:=HI3.out.bel.size;have:=HI3.out.b8.lt;omega) (a,nd) (by have:=HI3.out.few;have:=HN.out;rw[←HI3.out.kl];omega)
        rw[←HI3.out.kl] at r1 r4 r5 r6 r9 r10 r11
        have nm:w2.heap.size∉ (w.heap.size+1)::((Value.slice a1 k c1).ownBlock.toList++(Value.slice a2 k c2).ownBlock.toList):=by
         intro hm
         have hkk:wc.heap[w2.heap.size]?=some (.cells (nodeC nd) 55 (0,0)):=HK3.out
         rcases List.mem_cons.1 hm with e | hm
         ·have h8:wc.heap[w.heap.size+1]?=some (.cells _ 79 (0,0)):=HI3.out.b8
          rw[←e,hkk] at h8
          injection h8 with h8
          injection h8 with _ h8 _
          cases h8
         ·rcases List.mem_append.1 hm with hm | hm
          ·obtain⟨_,cs',hc'⟩:=own_typed HI3.out.row.at' _ (by simpa[Option.mem_toList] using hm)
           rw[hkk] at hc'
           injection hc' with hc'
           injection hc' with _ hc' _
           cases hc'
          ·have:=HOL.out _ (by simpa[Option.mem_toList] using hm)
           omega
        have x0:wc.cell? ⟨w.heap.size+1,0,none⟩=some (.slice a1 k c1):=HI3.out.b8.cell 0
        have hld:=node_ld (r5.blk HK3.out (fun hm=>nm (by
         rcases List.mem_cons.1 hm with e | e
         ·rw[e];exact List.mem_cons_self ..
         ·exact List.mem_cons_of_mem _ (List.mem_append_left _ e))))
        have hbs:=node_row nd (wa.setCell ⟨w.heap.size+1,0,none⟩ (.slice b1 (k+1) d1))
        have ez:(wa.setCell ⟨w.heap.size+1,0,none⟩ (.slice b1 (k+1) d1)).heap.size=wa.heap.size:=by simp[World.setCell]
        rw[ez] at r6 hbs
        have y2:(wb.setCell ⟨w.heap.size+1,1,none⟩ (.slice b2 (k+1) d2)).cell? ⟨w2.heap.size,2,none⟩=some (.int .u64 nd.nx):=(r11.blk HK3.out nm).cell 2
        have hnx:0≤nd.nx∧nd.nx≤18446744073709551615:=by
         rw[(node_in HND.out).2]
         exact nodeF_U64 H.out.2.1 _ 2
        have hch:=HI3.out.ch.next HH0.out HND.out HQ.out.1 HQ.out.2 HLO.out
        have hpos: ∀x∈pre++[(a,nd)],0≤x.1:=fun x hx=>by
         rcases List.mem_append.1 hx with h | h
         ·exact HI3.out.pos x h
         ·rw[List.mem_singleton.1 h];exact HI3.out.au.1
        have hfew:=chain_few8 hch HS.out hpos
        have HN2:Hid (ChI bs lv a0 w nd.nx b1 b2 (k+1) d1 d2 (pre++[(a,nd)]) (some nd.low) (wb.setCell ⟨w.heap.size+1,1,none⟩ (.slice b2 (k+1) d2))):=by
         refine hid ⟨hch,by rw[List.length_append,←HI3.out.kl];rfl,by rw[List.length_append,←HI3.out.kl] at hfew;exact hfew,hnx,hpos,r9,?_,r10,?_⟩
         ·exact r11.blk HI3.out.b6 (fun hm=>by
           rcases List.mem_cons.1 hm with e | hm
           ·omega
           ·rcases List.mem_append.1 hm with hm | hm
            ·have:=HI3.out.row.at'.lt _ (by simpa[Option.mem_toList] using hm);omega
            ·have:=HI3.out.row.nd.lt _ (by simpa[Option.mem_toList] using hm);omega)
         ·exact HI3.out.bel.trans (r11.below (fun x hx=>by
           rcases List.mem_cons.1 hx with e | hm
           ·omega
           ·rcases List.mem_append.1 hm with hm | hm
            ·have:=HI3.out.row.at'.lt _ (by simpa[Option.mem_toList] using hm);omega
            ·have:=HI3.out.row.nd.lt _ (by simpa[Option.mem_toList] using hm);omega) HI3.out.bel.size)
        have HME:Hid (bs.length/8+1-lenAt1 (wb.setCell ⟨w.heap.size+1,1,none⟩ (.slice b2 (k+1) d2)) (w.heap.size+1)<bs.length/8+1-lenAt1 wA (w.heap.size+1)):=by
         have e1:lenAt1 (wb.setCell ⟨w.heap.size+1,1,none⟩ (.slice b2 (k+1) d2)) (w.heap.size+1)=k+1:=by
          unfold lenAt1
          rw[r10.cell 1];rfl
         have e2:=HLEN.out
         have:=HI3.out.few
         refine hid ?_
         rw[e1,e2]
         omega
        clear ez r5 r9 r10 r11 nm hnx hch hpos hfew
        go_wp2
        go_roundw
        case rel=>exact⟨nd.nx,b1,b2,k+1,d1,d2,pre++[(a,nd)],some nd.low,rfl,HN2⟩
        case measure=>exact HME.out
       ·have HNO:Hid (∀row,¬ChainAt (nodeI bs) lv none a0 row):=hid (HI2.out.ch.no HH0.out fun m hm _ _ hlo=>by
         rw[HND.out] at hm
         injection hm with hm
         subst hm
         have:=hwd.out.1.2 hlo
         simp at this)
        obtain⟨hld,W9,hst,hlv,hb9,hrow⟩:=HI3.out.fin
        have HF:Hid (DChPost bs lv a0 w (.returned (.tuple #[.agg #[.slice a1 k c1,.slice a2 k c2],.bool false])) W9):=hid ⟨hb9,Or.inr ⟨HNO.out,_,_,_,_,_,_,rfl⟩⟩
        clear hb9 hrow hwd y0 y1 y4 x1
        go_wp2
        refine bodyPost_ret (v:= .tuple #[.agg #[.slice a1 k c1,.slice a2 k c2],.bool false]) (results_cellv_tmp rfl _ _ _ _ _ rfl rfl hlv) rfl ?_
        exact HF.out
end
theorem RowD.addr {W:World} {N:Nat} {a1 a2:Option Addr} {k c1 c2:Nat} {row:List (Int×NodeA)} (h:RowD W N (.slice a1 k c1) (.slice a2 k c2) row) (hk:k=row.length) {i:Nat} {x:Int×NodeA} (hx:row[i]?=some x):
  ∃g,a1=some ⟨g,0,none⟩∧k≤c1∧W.cell? ⟨g,i,none⟩=some (.int .u64 x.1):=by
 have hi:=(List.getElem?_eq_some_iff.1 hx).1
 have hr:=h.at'
 rw[←hk] at hr
 obtain⟨g,cap,e,hg1,hg2,hg3,hg4⟩:=own_some hr (by omega)
 injection e with e1 _ e3
 refine⟨g,e1,by omega,?_⟩
 have:=hg4 i (.int .u64 x.1) (by rw[List.getElem?_map,hx];rfl)
 rwa[Nat.zero_add] at this
theorem RowD.node {W:World} {N:Nat} {a1 a2:Option Addr} {k c1 c2:Nat} {row:List (Int×NodeA)} (h:RowD W N (.slice a1 k c1) (.slice a2 k c2) row) (hk:k=row.length) {i:Nat} {x:Int×NodeA} (hx:row[i]?=some x):
  ∃g,a2=some ⟨g,0,none⟩∧k≤c2∧ ∀j,j<21→W.cell? ⟨g,i*21+j,none⟩=(nodeC x.2)[j]?:=by
 have hi:=(List.getElem?_eq_some_iff.1 hx).1
 have hr:=h.nd
 unfold rowN at hr
 rw[←hk] at hr
 obtain⟨g,cap,e,hg1,hg2,hg3,hg4⟩:=own_someN hr (by omega)
 injection e with e1 _ e3
 refine⟨g,e1,by omega,fun j hj=> ?_⟩
 obtain⟨v,hv⟩: ∃v,(nodeC x.2)[j]?=some v:=⟨_,Array.getElem?_eq_getElem (by rw[nodeC_size];exact hj)⟩
 have:=hg4 (i*21+j) v (by rw[nodesV_at hx j hj];exact hv)
 rw[Nat.zero_add] at this
 rw[this,hv]
theorem RowD.nodeL {W:World} {N:Nat} {a1 a2:Option Addr} {k c1 c2:Nat} {row:List (Int×NodeA)} (h:RowD W N (.slice a1 k c1) (.slice a2 k c2) row) (hk:k=row.length) {i:Nat} {x:Int×NodeA} (hx:row[i]?=some x):
  ∃g,a2=some ⟨g,0,none⟩∧k≤c2∧ ∀X,Below W.heap.size W X→(∀j,j<21→X.cell? ⟨g,i*21+j,none⟩=(nodeC x.2)[j]?)∧ldR Tryz.prog 55 (.pointer (some ⟨g,i*21,none⟩)) X= .ok (.agg (nodeC x.2)) X:=by
 have hi:=(List.getElem?_eq_some_iff.1 hx).1
 have hr:=h.nd
 unfold rowN at hr
 rw[←hk] at hr
 rcases hr.2 with⟨_,h0⟩ | ⟨g,cap,cur,e,e2,e3,e4,e5,e6,e7⟩
 ·omega
 ·injection e with e1 _ ec
  have hat: ∀j,j<21→cur[i*21+j]?=(nodeC x.2)[j]?:=fun j hj=>by
   have hjl:i*21+j<k*21:=by omega
   rw[←Array.getElem?_toList]
   have:(cur.toList.take (k*21))[i*21+j]?=(nodesV row)[i*21+j]?:=by rw[e7]
   rw[List.getElem?_take,if_pos hjl] at this
   rw[this,nodesV_at hx j hj]
  refine⟨g,e1,by omega,fun X hX=> ?_⟩
  have hb:Blk X g 55 cur:=(show Blk W g 55 cur from e3).bel hX
  refine⟨fun j hj=>(hb.cell (i*21+j)).trans (hat j hj),?_⟩
  refine hb.ldAt (P:=Tryz.prog) (i*21) (fun j v hj=> ?_) Tryz.underlying55 rfl (by kernel_rfl)
  have hj2:j<21:=by have:=(Array.getElem?_eq_some_iff.1 hj).1;rw[nodeC_size] at this;exact this
  rw[hat j hj2];exact hj
def findI (row:List (Int×NodeA)) (a:Int):Int:=match row.findIdx? (fun x=>decide (x.1=a)) with
 | some i=>(i:Int)
 | none=> -1
theorem findI_at {row:List (Int×NodeA)} {a:Int} {i:Nat} {x:Int×NodeA} (hx:row[i]?=some x) (he:x.1=a) (hb: ∀y∈row.take i,y.1≠a):findI row a=i:=by
 unfold findI
 have:row.findIdx? (fun x=>decide (x.1=a))=some i:=by
  rw[List.findIdx?_eq_some_iff_getElem]
  obtain⟨hi,hxx⟩:=List.getElem?_eq_some_iff.1 hx
  refine⟨hi,by rw[hxx];simpa using he,fun j hj=> ?_⟩
  have:=hb row[j] (by
   rw[List.mem_take_iff_getElem]
   exact⟨j,by omega,rfl⟩)
  simpa using this
 rw[this]
theorem findI_no {row:List (Int×NodeA)} {a:Int} (hb: ∀y∈row,y.1≠a):findI row a= -1:=by
 unfold findI
 have:row.findIdx? (fun x=>decide (x.1=a))=none:=by
  rw[List.findIdx?_eq_none_iff]
  intro x hx
  simpa using hb x hx
 rw[this]
theorem DHigh_r (N k c1 c2:Nat) (a1 a2:Option Addr) (row:List (Int×NodeA)) (i:Nat) (w:World) (h:RowD w N (.slice a1 k c1) (.slice a2 k c2) row) (hk:k=row.length) (hl:k≤1000000) (hi:i<k):
  Calls Tryz.prog 73 #[.agg #[.slice a1 k c1,.slice a2 k c2],.int .i64 (i:Int)] w fun e w'=>e= .returned (.tuple #[.int .u64 (highI row i),.bool (hasI row i)])∧Below w.heap.size w w':=by
 obtain⟨W1,hW1⟩: ∃W1,W1=w.alloc (.cells #[.slice a1 k c1,.slice a2 k c2] 79):=⟨_,rfl⟩
 have hb1:Below w.heap.size w W1:=by rw[hW1];exact ba (Below.refl _ _) _
 have k2:Blk W1 w.heap.size 79 #[.slice a1 k c1,.slice a2 k c2]:=by rw[hW1];exact Blk.new _ _ _
 have y1:W1.cell? ⟨w.heap.size,1,none⟩=some (.slice a2 k c2):=k2.cell 1
 have hr1:=h.bel hb1
 have wk:IntKind.i64.wrap ((i:Int)+1)=((i+1:Nat):Int):=IntWalk.i64_in _ (by constructor<;>omega)
 have HB:=hid hb1
 have HW:=hid hW1
 clear hW1
 by_cases hlt:i+1<k
 ·obtain⟨x,hx⟩: ∃x,row[i+1]?=some x:=⟨_,List.getElem?_eq_getElem (by omega)⟩
  obtain⟨g,rfl,hc2,hcell⟩:=hr1.node hk hx
  have cl:W1.cell? ⟨g,(i+1)*21+1,none⟩=some (.int .u64 x.2.low):=hcell 1 (by omega)
  have HR:=hid (show highI row i=x.2.low∧hasI row i=true by
   unfold highI hasI
   rw[hx]
   exact⟨rfl,by simp;omega⟩)
  obtain⟨j,hj⟩: ∃j,j=i+1:=⟨_,rfl⟩
  rw[←hj] at wk cl hlt
  have j0:(0:Int)≤(j:Int):=by omega
  have j1:(j:Int)< (k:Int):=by omega
  clear hj hx hcell hr1 k2 hb1 h hk hi
  go_enter Tryz.func73,Tryz.ntmps73
  go_upto_region 1 with fail
  rw[←HW.out]
  go_wp2
  go_ret2
  exact⟨by rw[HR.out.1,HR.out.2];rfl,HB.out⟩
 ·have HR:=hid (show highI row i=0∧hasI row i=false by
   unfold highI hasI
   rw[List.getElem?_eq_none (by omega)]
   exact⟨rfl,by simp;omega⟩)
  obtain⟨j,hj⟩: ∃j,j=i+1:=⟨_,rfl⟩
  rw[←hj] at wk hlt
  have j1: ¬(j:Int)< (k:Int):=by omega
  clear hj hr1 k2 hb1 h hk hi hlt
  go_enter Tryz.func73,Tryz.ntmps73
  go_upto_region 1 with fail
  rw[←HW.out]
  go_wp2
  go_ret2
  exact⟨by rw[HR.out.1,HR.out.2];rfl,HB.out⟩
theorem DFind_r (N k c1 c2:Nat) (a1 a2:Option Addr) (row:List (Int×NodeA)) (a:Int) (w:World) (h:RowD w N (.slice a1 k c1) (.slice a2 k c2) row) (hk:k=row.length) (hl:k≤1000000):
  Calls Tryz.prog 97 #[.agg #[.slice a1 k c1,.slice a2 k c2],.int .u64 a] w fun e w'=>e= .returned (.int .i64 (findI row a))∧Below w.heap.size w w':=by
 obtain⟨W1,hW1⟩: ∃W1,W1=w.alloc (.cells #[.slice a1 k c1,.slice a2 k c2] 79):=⟨_,rfl⟩
 have hb1:Below w.heap.size w W1:=by rw[hW1];exact ba (Below.refl _ _) _
 have k2:Blk W1 w.heap.size 79 #[.slice a1 k c1,.slice a2 k c2]:=by rw[hW1];exact Blk.new _ _ _
 have y0:W1.cell? ⟨w.heap.size,0,none⟩=some (.slice a1 k c1):=k2.cell 0
 have HR:=hid (h.bel hb1)
 have HB:=hid hb1
 have HK:=hid hk
 clear hb1 k2 h hk
 go_enter Tryz.func97,Tryz.ntmps97
 go_wp2
 rw[←hW1]
 clear hW1
 go_loopw [5] (fun iv wr=> ∃i:Nat,i≤k∧iv= .int .i64 (i:Int)∧wr=W1∧Hid (∀y∈row.take i,y.1≠a)) (fun iv _=>k- (intOf iv).toNat)
 case atStart=>exact⟨0,Nat.zero_le _,rfl,rfl,(by simp: ∀y∈row.take 0,y.1≠a)⟩
 case round=>
  obtain⟨i,hi,rfl,rfl,hm⟩:=hrel
  obtain⟨wA,rfl⟩: ∃x,x=wr:=⟨_,rfl⟩
  by_cases hlt:i<k
  ·obtain⟨x,hx⟩: ∃x,row[i]?=some x:=⟨_,List.getElem?_eq_getElem (by have:=HK.out;omega)⟩
   obtain⟨g,rfl,hc1,cl⟩:=HR.out.addr HK.out hx
   have i0:(0:Int)≤(i:Int):=by omega
   have i1:(i:Int)< (k:Int):=by omega
   have HX:=hid hx
   have HLT:=hid hlt
   clear hx hi hlt
   by_cases he:x.1=a
   ·have e1:(x.1==a)=true:=by simp[he]
    have HF:=hid (findI_at HX.out he hm.out)
    clear he
    go_wp2
    go_ret
    exact⟨by rw[HF.out];rfl,HB.out⟩
   ·have e1:(x.1==a)=false:=by simp[he]
    have hm2:Hid (∀y∈row.take (i+1),y.1≠a):=by
     refine hid fun y hy=> ?_
     rw[List.take_add_one,HX.out,List.mem_append] at hy
     rcases hy with h1 | h1
     ·exact hm.out y h1
     ·simp at h1;rw[h1];exact he
    clear he
    go_wp2
    go_roundw
    case rel=>exact⟨i+1,HLT.out,by go_num,by first | rfl | trivial,hm2⟩
    case measure=>simp[intOf];have:=HLT.out;omega
  ·obtain rfl:i=k:=by omega
   have i1: ¬(i:Int)< (i:Int):=by omega
   have HF:Hid (findI row a= -1):=hid (findI_no (by
    have:=hm.out
    rw[HK.out,List.take_length] at this
    exact this))
   clear hi hlt
   go_wp2
   go_ret
   exact⟨by rw[HF.out];rfl,HB.out⟩
section
attribute [local go_sem ↓ high] nodeLoadAt nodeLoadVar nodeStoreAt nodeBuild nodeBuildS drowLoadAt drowLoadVar drowStoreAt append_shut2
attribute [local go_sem] ldM_run lvM_run stM_run bldM_run bslM_run Oper.semAt_some appM2_run
theorem NewsAt.of_own2 {X:World} {N n sz:Nat} {e:TypeId} {v:Value} {xs:List Value} (h:X.ownsRow N e sz v n xs) (hs:0<sz):NewsAt X v n xs:=by
 have hl:=h.1
 rcases Nat.eq_zero_or_pos n with h0 | h0
 ·rcases h.2 with⟨rfl,_⟩ | ⟨g,cap,cur,rfl,h2,h3,h4,h5,h6,h7⟩
  ·exact Or.inl ⟨rfl,h0,by rw[h0] at hl;exact List.length_eq_zero_iff.1 (by omega)⟩
  ·exact Or.inr ⟨g,0,cap,rfl,fun j u hj=>by
    have:=(List.getElem?_eq_some_iff.1 hj).1
    rw[hl,h0] at this
    omega⟩
 ·obtain⟨g,cap,e1,hg1,hg2,hg3,hg4⟩:=own_someN h h0
  exact Or.inr ⟨g,0,cap,e1,fun j u hj=>hg4 j u hj⟩
theorem app_ents {X:World} {N k:Nat} {x:Int×Int} {v:Value} {l:List (Int×Int)} (hk:Blk X k 166 #[.int .u64 x.1,.int .u64 x.2]) (hv:X.ownsRow N 166 2 v l.length (l.flatMap entC)) (hm:l.length≤1000):
  ∃a c w9,appRun2 Tryz.prog #[162,162] 162 #[.slice (some ⟨k,0,none⟩) 1 1,v] X= .ok (.slice a (1+l.length) c) w9∧EntsAt w9 (.slice a (1+l.length) c) (x::l)∧Only [k] X w9:=by
 obtain⟨i0,hi0,hz0,hz1,hz2⟩:=info_parts infoEnt
 have hown:X.ownsRow k 166 2 (.slice (some ⟨k,0,none⟩) 1 1) 1 [.int .u64 x.1,.int .u64 x.2]:=⟨by simp,Or.inr ⟨k,1,_,rfl,Nat.le_refl _,hk,Nat.le_refl _,by unfold maxLen;omega,rfl,rfl⟩⟩
 have hN:NewsAt X v l.length (l.flatMap entC):=NewsAt.of_own2 hv (by omega)
 obtain⟨v',w',h⟩:=run_app (P:=Tryz.prog) X k 162 162 166 i0 (.agg #[.int .u64 0,.int .u64 0]) 2 16 Tryz.underlying162 hi0 hz0 hz1 hz2 rfl (by decide) (.slice (some ⟨k,0,none⟩) 1 1) 1 _ hown v l.length _ hN (by rw[entL_len];omega) (fun u hu=>by
  obtain⟨y,_,hy⟩:=List.mem_flatMap.1 hu
  unfold entC at hy
  simp at hy
  rcases hy with rfl | rfl<;>rfl) (by unfold maxLen;omega) (by omega) (Nat.le_of_lt hk.lt)
 have h2:=h.own
 obtain⟨a,c,rfl⟩:=row_form1 h2
 refine⟨a,c,w',h.run,?_,Only.of_grown (f:=[k]) h.grown (fun y hy=>by simp[Value.ownBlock] at hy;simp[hy])⟩
 have e:[Value.int .u64 x.1,.int .u64 x.2]++l.flatMap entC=(x::l).flatMap entC:=by rw[List.flatMap_cons];rfl
 rw[e,show 1+l.length=(x::l).length by rw[List.length_cons];omega] at h2
 have h3:=EntsAt.of_own h2
 rw[show 1+l.length=(x::l).length by rw[List.length_cons];omega]
 exact h3
theorem findI_yes {row:List (Int×NodeA)} {a:Int} (h:0≤findI row a): ∃(i:Nat) (x:Int×NodeA),findI row a=(i:Int)∧row[i]?=some x∧x.1=a:=by
 unfold findI at h ⊢
 cases hf:row.findIdx? (fun x=>decide (x.1=a)) with
 | none=>rw[hf] at h;simp at h
 | some i=>
  obtain⟨hi,h1,_⟩:=List.findIdx?_eq_some_iff_getElem.1 hf
  exact⟨i,row[i],rfl,List.getElem?_eq_getElem hi,by simpa using h1⟩
theorem findI_neg {row:List (Int×NodeA)} {a:Int} (h: ¬0≤findI row a): ∀y∈row,y.1≠a:=by
 unfold findI at h
 cases hf:row.findIdx? (fun x=>decide (x.1=a)) with
 | none=>
  rw[List.findIdx?_eq_none_iff] at hf
  intro y hy
  simpa using hf y hy
 | some i=>rw[hf] at h;simp at h
theorem hit_at {down:List (Int×NodeA)} (hnd:(down.map (·.1)).Nodup) {i:Nat} {x:Int×NodeA} (hx:down[i]?=some x) {e:Int×Int} (he:x.1=e.2):hitI down e↔x.2.low=e.1:=by
 constructor
 ·rintro⟨y,hy,h1,h2⟩
  obtain⟨j,hj⟩:=List.getElem?_of_mem hy
  have hij:i=j:=by
   have h3:=(List.getElem?_eq_some_iff.1 hx)
   have h4:=(List.getElem?_eq_some_iff.1 hj)
   have hp:=List.pairwise_iff_getElem.1 hnd
   rcases Nat.lt_trichotomy i j with q | q | q
   ·exact absurd (by rw[List.getElem_map,List.getElem_map,h3.2,h4.2,he,h1]) (hp i j (by rw[List.length_map];exact h3.1) (by rw[List.length_map];exact h4.1) q)
   ·exact q
   ·exact absurd (by rw[List.getElem_map,List.getElem_map,h3.2,h4.2,he,h1]) (hp j i (by rw[List.length_map];exact h4.1) (by rw[List.length_map];exact h3.1) q)
  subst hij
  rw[hx] at hj
  injection hj with hj
  rw[hj];exact h2
 ·intro h
  exact⟨x,List.mem_of_getElem? hx,he,h⟩
structure LdI (w:World) (N M:Nat) (ua1 ua2 da1 da2:Option Addr) (un dn uc1 uc2 dc1 dc2:Nat) (up down:List (Int×NodeA)) (W:World):Prop where
 b2:Blk W w.heap.size 79 #[.slice ua1 un uc1,.slice ua2 un uc2]
 b3:Blk W (w.heap.size+1) 79 #[.slice da1 dn dc1,.slice da2 dn dc2]
 up:RowD W N (.slice ua1 un uc1) (.slice ua2 un uc2) up
 dn:RowD W M (.slice da1 dn dc1) (.slice da2 dn dc2) down
 bel:Below w.heap.size w W
theorem LdI.bel2 {w:World} {N M:Nat} {ua1 ua2 da1 da2:Option Addr} {un dn uc1 uc2 dc1 dc2:Nat} {up down:List (Int×NodeA)} {W W':World} (h:LdI w N M ua1 ua2 da1 da2 un dn uc1 uc2 dc1 dc2 up down W) (hb:Below W.heap.size W W'):LdI w N M ua1 ua2 da1 da2 un dn uc1 uc2 dc1 dc2 up down W':=
 ⟨h.b2.bel hb,h.b3.bel hb,h.up.bel hb,h.dn.bel hb,bx h.bel hb⟩
def DLdPost (up down:List (Int×NodeA)) (w:World) (e:Ending) (w':World):Prop:=Below w.heap.size w w'∧ ∃b,e= .returned (.bool b)∧(b=true↔leadsI up down)
theorem belS2 {A:Prop} {w X v:World} (hb:Below X.heap.size X v) (hS:A∧Below w.heap.size w X):Below w.heap.size w v:=bx hS.2 hb
def leadTo (up down:List (Int×NodeA)) (i:Nat):Prop:= ∀i',i'<i→ ∀e∈ptrsI up i',hitI down e
theorem DLeads_r (N M un dn uc1 uc2 dc1 dc2:Nat) (ua1 ua2 da1 da2:Option Addr) (up down:List (Int×NodeA)) (w:World) (hu:RowD w N (.slice ua1 un uc1) (.slice ua2 un uc2) up) (hd:RowD w M (.slice da1 dn dc1) (.slice da2 dn dc2) down) (hun:un=up.length) (hdn:dn=down.length) (hul:un≤1000000) (hdl:dn≤1000000) (hnd:(down.map (·.1)).Nodup):
  Calls Tryz.prog 98 #[.agg #[.slice ua1 un uc1,.slice ua2 un uc2],.agg #[.slice da1 dn dc1,.slice da2 dn dc2]] w (DLdPost up down w):=by
 obtain⟨W1,hW1⟩: ∃W1,W1=(w.alloc (.cells #[.slice ua1 un uc1,.slice ua2 un uc2] 79)).alloc (.cells #[.slice da1 dn dc1,.slice da2 dn dc2] 79):=⟨_,rfl⟩
 have hb1:Below w.heap.size w W1:=by rw[hW1];exact ba (ba (Below.refl _ _) _) _
 have HI0:Hid (LdI w N M ua1 ua2 da1 da2 un dn uc1 uc2 dc1 dc2 up down W1):=by
  refine hid ⟨?_,?_,hu.bel hb1,hd.bel hb1,hb1⟩
  ·rw[hW1];exact(Blk.new _ _ _).alloc _
  ·rw[hW1]
   have:=Blk.new (w.alloc (.cells #[.slice ua1 un uc1,.slice ua2 un uc2] 79)) 79 #[.slice da1 dn dc1,.slice da2 dn dc2]
   rwa[World.size_alloc] at this
 have HUN:=hid hun
 have HDN:=hid hdn
 have HND:=hid hnd
 clear hb1 hu hd hun hdn hnd
 go_enter Tryz.func98,Tryz.ntmps98
 go_wp2
 rw[←hW1]
 clear hW1
 go_loopw [5] (fun iv wr=> ∃i:Nat,i≤un∧iv= .int .i64 (i:Int)∧Hid (LdI w N M ua1 ua2 da1 da2 un dn uc1 uc2 dc1 dc2 up down wr∧leadTo up down i)) (fun iv _=>un- (intOf iv).toNat)
 case atStart=>exact⟨0,Nat.zero_le _,rfl,⟨HI0.out,fun i h=>absurd h (Nat.not_lt_zero _)⟩⟩
 case round=>
  obtain⟨i,hi,rfl,hI⟩:=hrel
  obtain⟨wA,rfl⟩: ∃x,x=wr:=⟨_,rfl⟩
  have y2:wA.cell? ⟨w.heap.size,1,none⟩=some (.slice ua2 un uc2):=hI.out.1.b2.cell 1
  by_cases hlt:i<un
  ·obtain⟨x,hx⟩: ∃x,up[i]?=some x:=⟨_,List.getElem?_eq_getElem (by have:=HUN.out;omega)⟩
   have i1:(i:Int)< (un:Int):=by omega
   have i0:(0:Int)≤(i:Int):=by omega
   have hld:=drow_ld hI.out.1.b2
   have HG:=hid (DHigh_r N un uc1 uc2 ua1 ua2 up i wA hI.out.1.up HUN.out hul hlt)
   have HX:=hid hx
   have HLT:=hid hlt
   clear hx hlt hi
   go_wp2_with fail
   refine HG.out.mono ?_
   rintro e w2 ⟨rfl,hb2⟩
   obtain⟨hh,hhe⟩: ∃hh,hh=highI up i:=⟨_,rfl⟩
   obtain⟨hs,hse⟩: ∃hs,hs=hasI up i:=⟨_,rfl⟩
   rw[←hhe,←hse]
   have HI2:=hid (hI.out.1.bel2 hb2)
   have HPT:=hid (show ptrsI up i=(x.2.low,x.2.fi)::activeN x.2 hh hs by rw[ptrsI_eq HX.out,hhe,hse])
   clear y2 hld hb2 hhe hse
   go_upto_region 5 with fail
   go_cut [8] from 24 to 46 (fun s8 wc=> ∃(a:Option Addr) (c:Nat),s8= .slice a (1+(activeN x.2 hh hs).length) c∧Hid (EntsAt wc (.slice a (1+(activeN x.2 hh hs).length) c) ((x.2.low,x.2.fi)::activeN x.2 hh hs)∧Below w2.heap.size w2 wc))
   case first=>
    obtain⟨g,e2,hc2,hcell⟩:=HI2.out.up.nodeL HUN.out HX.out
    subst e2
    have KS:=hid (fun X (hb:Below w2.heap.size w2 X)=>show(X.cell? ⟨w.heap.size,1,none⟩=some (.slice (some ⟨g,0,none⟩) un uc2)∧X.cell? ⟨g,i*21+1,none⟩=some (.int .u64 x.2.low)∧X.cell? ⟨g,i*21+4,none⟩=some (.int .u64 x.2.fi)∧ldR Tryz.prog 55 (.pointer (some ⟨g,i*21,none⟩)) X= .ok (.agg (nodeC x.2)) X)∧Below w2.heap.size w2 X from⟨⟨(HI2.out.bel2 hb).b2.cell 1,(hcell X hb).1 1 (by omega),(hcell X hb).1 4 (by omega),(hcell X hb).2⟩,hb⟩)
    have ACT:=hid (fun X=>RNActive_r x.2 hh hs X)
    have B0:Below w2.heap.size w2 w2.drew:=by(repeat(first | exact Below.refl _ _ | (refine ba ?_ _) | (refine Below.drew ?_) | (refine below_drewN ?_ _) | (refine Below.alloc ?_ (by first | omega | (simp;done) | (simp;omega)) _) | (refine Below.setCell ?_ (by first | omega | (simp;done) | (simp;omega)) _) | (refine bx ?_ (by assumption)) | (refine Below.trans ?_ (Below.mono (by assumption) (by first | omega | (simp;done) | (simp;omega))))))
    have B1:Below w2.heap.size w2 (w2.alloc (.cells #[.int .u64 x.2.low,.int .u64 x.2.fi] 166)).drew:=by(repeat(first | exact Below.refl _ _ | (refine ba ?_ _) | (refine Below.drew ?_) | (refine below_drewN ?_ _) | (refine Below.alloc ?_ (by first | omega | (simp;done) | (simp;omega)) _) | (refine Below.setCell ?_ (by first | omega | (simp;done) | (simp;omega)) _) | (refine bx ?_ (by assumption)) | (refine Below.trans ?_ (Below.mono (by assumption) (by first | omega | (simp;done) | (simp;omega))))))
    have HLA:=hid (show(activeN x.2 hh hs).length≤1000 by
     have h1:=List.length_filter_le (actE hh hs) (validN x.2)
     have:=valid_len x.2
     unfold activeN
     omega)
    clear hc2 hcell
    go_region_held3 (fun X=>(X.cell? ⟨w.heap.size,1,none⟩=some (.slice (some ⟨g,0,none⟩) un uc2)∧X.cell? ⟨g,i*21+1,none⟩=some (.int .u64 x.2.low)∧X.cell? ⟨g,i*21+4,none⟩=some (.int .u64 x.2.fi)∧ldR Tryz.prog 55 (.pointer (some ⟨g,i*21,none⟩)) X= .ok (.agg (nodeC x.2)) X)∧Below w2.heap.size w2 X) (first | (with_reducible exact KS.out _ B0) | (with_reducible exact KS.out _ B1) | (with_reducible exact KS.out _ B2) | (with_reducible exact KS.out _ (B3 _)) | (with_reducible exact KS.out _ (B4 _)) | (with_reducible exact KS.out _ B5) | (trace_state;fail))
     (first
     | (go_at_call 74;refine(ACT.out _).mono ?_;rintro e v1 ⟨v,rfl,hown,hb1⟩;obtain⟨va,vc,rfl⟩:=row_form1 hown;have B2:Below w2.heap.size w2 v1:=(by first | (with_reducible exact bx B1 hb1) | (with_reducible exact bx B0 hb1));have B3:=(fun o=>ba B2 o: ∀o,Below w2.heap.size w2 (v1.alloc o));have B4:=(fun o=>Below.drew (ba B2 o): ∀o,Below w2.heap.size w2 (v1.alloc o).drew);(try(have HA1:=hid (app_ents (x:=(x.2.low,x.2.fi)) (((Blk.new w2 166 #[.int .u64 x.2.low,.int .u64 x.2.fi]).drew).bel hb1) hown HLA.out)));have HA2:=hid (app_ents (x:=(x.2.low,x.2.fi)) (Blk.new v1 166 #[.int .u64 x.2.low,.int .u64 x.2.fi]) (((Only.refl [] v1).alloc _).own hown (by simp)) HLA.out);clear hown)
     | (obtain⟨a9,c9,w9,hrun,hen,ho⟩:=HA1.out;have B5:Below w2.heap.size w2 w9:=B2.trans (ho.below (fun x hx=>by simp at hx;omega) B2.size);have HEN:=hid hen;clear hen;refine step_append_runI rfl (.tmp 37) (.tmp 45) 162 162 rfl _ _ (by simp[Act.eval,Act.put]) (by simp[Act.eval,Act.put]) hrun ?_)
     | (obtain⟨a9,c9,w9,hrun,hen,ho⟩:=HA2.out;have B5:Below w2.heap.size w2 w9:=(B3 _).trans (ho.below (fun x hx=>by have:=B2.size;simp at hx;omega) (B3 _).size);have HEN:=hid hen;clear hen;refine step_append_runI rfl (.tmp 37) (.tmp 45) 162 162 rfl _ _ (by simp[Act.eval,Act.put]) (by simp[Act.eval,Act.put]) hrun ?_)
     | (trace_state;fail))
    all_goals
     try go_simp
     try simp only[Act.put,List.setIfInBounds_toArray,List.set_cons_zero,List.set_cons_succ]
     go_wp2_with fail
     go_meet
     exact⟨a9,c9,rfl,HEN.out,B5⟩
   case rest=>
    obtain⟨la,lc,rfl,hwc⟩:=hcut
    obtain⟨m,hm⟩: ∃m,m=1+(activeN x.2 hh hs).length:=⟨_,rfl⟩
    obtain⟨l,hl⟩: ∃l,l=(x.2.low,x.2.fi)::activeN x.2 hh hs:=⟨_,rfl⟩
    have HL:=hid (show ptrsI up i=l∧m=l.length∧m≤9 by
     refine⟨HPT.out.trans hl.symm,by rw[hm,hl,List.length_cons];omega,?_⟩
     have h1:=List.length_filter_le (actE hh hs) (validN x.2)
     have:=valid_len x.2
     rw[hm]
     unfold activeN
     omega)
    rw[←hl,←hm] at hwc
    rw[←hm]
    have HWC:=hid (show LdI w N M ua1 ua2 da1 da2 un dn uc1 uc2 dc1 dc2 up down wc∧EntsAt wc (.slice la m lc) l from⟨HI2.out.bel2 hwc.out.2,hwc.out.1⟩)
    have HLT2:=HLT
    clear hm hl hwc HPT
    go_wp2
    go_loopw [9] (fun jv W=> ∃j:Nat,j≤m∧jv= .int .i64 (j:Int)∧Hid (Below wc.heap.size wc W)∧Hid (∀e∈l.take j,hitI down e)) (fun jv _=>m- (intOf jv).toNat)
    case atStart=>exact⟨0,Nat.zero_le _,rfl,hid (Below.refl _ _),hid (by simp)⟩
    case round=>
     obtain⟨j,hj,rfl,hJ,hH⟩:=hrel
     obtain⟨wB,rfl⟩: ∃x,x=wr:=⟨_,rfl⟩
     by_cases hjm:j<m
     ·obtain⟨e,he⟩: ∃e,l[j]?=some e:=⟨_,List.getElem?_eq_getElem (by have:=HL.out;omega)⟩
      have j1:(j:Int)< (m:Int):=by omega
      have j0:(0:Int)≤(j:Int):=by omega
      obtain⟨b,off,e2,hbl,hc⟩: ∃b off,la=some ⟨b,off,none⟩∧b<wc.heap.size∧ ∀i x,l[i]?=some x→wc.cell? ⟨b,off+i*2,none⟩=some (.int .u64 x.1)∧wc.cell? ⟨b,off+i*2+1,none⟩=some (.int .u64 x.2):=by
       obtain⟨ao,cap,h1,h2⟩:=HWC.out.2
       injection h1 with h1
       subst h1
       rcases h2 with h2 | h2
       ·rw[h2] at he;simp at he
       ·exact h2
      subst e2
      have KS:=hid (fun X (hb:Below wB.heap.size wB X)=>show(ldR Tryz.prog 79 (.pointer (some ⟨w.heap.size+1,0,none⟩)) X= .ok (.agg #[.slice da1 dn dc1,.slice da2 dn dc2]) X∧X.cell? ⟨b,off+j*2,none⟩=some (.int .u64 e.1)∧X.cell? ⟨b,off+j*2+1,none⟩=some (.int .u64 e.2)∧X.cell? ⟨w.heap.size+1,1,none⟩=some (.slice da2 dn dc2))∧Below wB.heap.size wB X from⟨⟨drow_ld (HWC.out.1.bel2 (bx hJ.out hb)).b3,((bx hJ.out hb).cell (p:=⟨b,off+j*2,none⟩) hbl).trans (hc j e he).1,((bx hJ.out hb).cell (p:=⟨b,off+j*2+1,none⟩) hbl).trans (hc j e he).2,(HWC.out.1.bel2 (bx hJ.out hb)).b3.cell 1⟩,hb⟩)
      have FND:=hid (fun X (hb:Below wB.heap.size wB X)=>DFind_r M dn dc1 dc2 da1 da2 down e.2 X (HWC.out.1.bel2 (bx hJ.out hb)).dn HDN.out hdl)
      have B0:Below wB.heap.size wB wB.drew:=by(repeat(first | exact Below.refl _ _ | (refine ba ?_ _) | (refine Below.drew ?_) | (refine below_drewN ?_ _) | (refine Below.alloc ?_ (by first | omega | (simp;done) | (simp;omega)) _) | (refine Below.setCell ?_ (by first | omega | (simp;done) | (simp;omega)) _) | (refine bx ?_ (by assumption)) | (refine Below.trans ?_ (Below.mono (by assumption) (by first | omega | (simp;done) | (simp;omega))))))
      have HE:=hid he
      have HJM:=hid hjm
      clear hc hbl he hjm hj
      go_upto_region 9 with fail
      go_cut [10] from 53 to 59 (fun s10 W=>s10= .int .i64 (findI down e.2)∧Hid (Below wB.heap.size wB W))
      case first=>
       go_region_held3 (fun X=>(ldR Tryz.prog 79 (.pointer (some ⟨w.heap.size+1,0,none⟩)) X= .ok (.agg #[.slice da1 dn dc1,.slice da2 dn dc2]) X∧X.cell? ⟨b,off+j*2,none⟩=some (.int .u64 e.1)∧X.cell? ⟨b,off+j*2+1,none⟩=some (.int .u64 e.2)∧X.cell? ⟨w.heap.size+1,1,none⟩=some (.slice da2 dn dc2))∧Below wB.heap.size wB X) (first | (with_reducible exact KS.out _ B0) | (with_reducible exact KS.out _ B1))
        (first
        | (go_at_call 97;refine(FND.out _ B0).mono ?_;rintro e9 v1 ⟨rfl,hb1⟩;have B1:Below wB.heap.size wB v1:=bx B0 hb1))
       all_goals
        try go_simp
        try simp only[Act.put,List.setIfInBounds_toArray,List.set_cons_zero,List.set_cons_succ]
        go_wp2_with fail
        go_meet
        exact⟨rfl,B1⟩
      case rest=>
       obtain⟨rfl,hw2⟩:=hcut
       have HI5:=hid (HWC.out.1.bel2 (bx hJ.out hw2.out))
       have HBL:=hid (bx hJ.out hw2.out)
       obtain⟨⟨hld5,c51,c52,c53⟩,_⟩:=KS.out _ hw2.out
       have HNO: ¬hitI down e→Hid (∀W,Below wc.heap.size wc W→DLdPost up down w (.returned (.bool false)) W):=fun hn=>hid fun W hW=>⟨bx HI5.out.bel hW,false,rfl,(fun h=>by cases h),fun h=>absurd (h i (by have:=HLT2.out;have:=HUN.out;omega) e (by rw[HL.out.1];exact List.mem_of_getElem? HE.out)) hn⟩
       have hj9:j<9:=by have:=HJM.out;have:=HL.out.2.2;omega
       by_cases q0:0≤findI down e.2
       ·obtain⟨t,y,ht,hy,hye⟩:=findI_yes q0
        rw[ht]
        have hit:=hit_at HND.out hy hye
        have htd:t<dn:=by have:=(List.getElem?_eq_some_iff.1 hy).1;have:=HDN.out;omega
        obtain⟨gd,e3,hdc,hcell⟩:=HI5.out.dn.node HDN.out hy
        subst e3
        have cy:wc.cell? ⟨gd,t*21+1,none⟩=some (.int .u64 y.2.low):=hcell 1 (by omega)
        have t0:(0:Int)≤(t:Int):=by omega
        have t1:(t:Int)< (dn:Int):=by omega
        have t2:decide ((t:Int)<0)=false:=decide_eq_false (by omega)
        have t3: ¬(t:Int)<0:=by omega
        clear hcell hy hye ht q0 htd hdc hld5
        go_upto_region 10 with fail
        by_cases q1:y.2.low=e.1
        ·have HIT:=hid (hit.2 q1)
         have b1:(y.2.low !=e.1)=false:=by simp[q1]
         have HH2:Hid (∀e'∈l.take (j+1),hitI down e'):=by
          refine hid fun e' he'=> ?_
          rw[List.take_add_one,HE.out,List.mem_append] at he'
          rcases he' with h1 | h1
          ·exact hH.out e' h1
          ·simp at h1;rw[h1];exact HIT.out
         clear q1 hit HNO
         go_quiet (fail)
         go_wp2
         go_roundw
         case rel=>exact⟨j+1,HJM.out,by go_num,hid (by refine bx HBL.out ?_;(repeat(first | exact Below.refl _ _ | (refine ba ?_ _) | (refine Below.drew ?_) | (refine below_drewN ?_ _) | (refine Below.alloc ?_ (by first | omega | (simp;done) | (simp;omega)) _) | (refine Below.setCell ?_ (by first | omega | (simp;done) | (simp;omega)) _) | (refine bx ?_ (by assumption)) | (refine Below.trans ?_ (Below.mono (by assumption) (by first | omega | (simp;done) | (simp;omega))))))),HH2⟩
         case measure=>simp[intOf];have:=HJM.out;omega
        ·have b1:(y.2.low !=e.1)=true:=by simpa using q1
         have HF:=HNO (fun h=>q1 (hit.1 h))
         clear q1 hit HNO
         go_quiet (fail)
         go_wp2
         go_ret
         exact HF.out _ (by(repeat(first | exact Below.refl _ _ | (refine ba ?_ _) | (refine Below.drew ?_) | (refine below_drewN ?_ _) | (refine Below.alloc ?_ (by first | omega | (simp;done) | (simp;omega)) _) | (refine Below.setCell ?_ (by first | omega | (simp;done) | (simp;omega)) _) | (refine bx ?_ (by assumption)) | (refine Below.trans ?_ (Below.mono (by assumption) (by first | omega | (simp;done) | (simp;omega)))))))
       ·have HF:=HNO (by
         rintro⟨y,hy,h1,_⟩
         exact findI_neg q0 y hy h1)
        obtain⟨f,hf⟩: ∃f,f=findI down e.2:=⟨_,rfl⟩
        rw[←hf] at q0 ⊢
        have q1:f<0:=by omega
        have q2:decide (f<0)=true:=decide_eq_true q1
        clear hf q0 HNO
        go_upto_region 10 with fail
        go_quiet (fail)
        go_wp2
        go_ret
        exact HF.out _ (by(repeat(first | exact Below.refl _ _ | (refine ba ?_ _) | (refine Below.drew ?_) | (refine below_drewN ?_ _) | (refine Below.alloc ?_ (by first | omega | (simp;done) | (simp;omega)) _) | (refine Below.setCell ?_ (by first | omega | (simp;done) | (simp;omega)) _) | (refine bx ?_ (by assumption)) | (refine Below.trans ?_ (Below.mono (by assumption) (by first | omega | (simp;done) | (simp;omega)))))))
     ·obtain rfl:j=m:=by omega
      have j1: ¬(j:Int)< (j:Int):=by omega
      have HN:Hid (LdI w N M ua1 ua2 da1 da2 un dn uc1 uc2 dc1 dc2 up down wB∧leadTo up down (i+1)):=by
       refine hid ⟨HWC.out.1.bel2 hJ.out,fun i' hi' e he=> ?_⟩
       by_cases q:i'<i
       ·exact hI.out.2 i' q e he
       ·obtain rfl:i'=i:=by omega
        rw[HL.out.1] at he
        refine hH.out e ?_
        rw[HL.out.2.1,List.take_length]
        exact he
      clear hj hjm
      go_wp2
      go_roundw
      case rel=>exact⟨i+1,HLT.out,by go_num,HN⟩
      case measure=>simp[intOf];have:=HLT.out;omega
  ·obtain rfl:i=un:=by omega
   have i1: ¬(i:Int)< (i:Int):=by omega
   clear hlt hi
   go_wp2
   go_ret
   exact⟨hI.out.1.bel,true,rfl,fun _ i' hi' e he=>hI.out.2 i' (by have:=HUN.out;omega) e he,fun _=>rfl⟩
end
theorem ROf6_no (p:Option Addr) (n cap:Nat) (hs: ¬0<slabsZ (n:Int)) (w:World):
  Calls Tryz.prog 39 #[.slice p n cap] w fun e w'=>e= .returned (.tuple #[.pointer none,.int .i64 2])∧w=w':=by
 have hS:=RSlabs_z (n:Int) w
 have h0:slabsZ (n:Int)=0:=by
  have:0≤slabsZ (n:Int):=by unfold slabsZ;split<;>omega
  omega
 rw[h0] at hS
 have HS:=hid hS
 clear hS h0 hs
 go_enter Tryz.func39,Tryz.ntmps39
 go_wp2_with fail
 refine HS.out.mono ?_
 rintro e w1 ⟨rfl,rfl⟩
 go_wp2
 go_ret2
 exact⟨rfl,rfl⟩
structure RowsD (W:World) (N:Nat) (v:Value) (rows:List (List (Int×NodeA))):Prop where
 ex: ∃vs:List (Value×Value),vs.length=rows.length∧W.ownsRow N 79 2 v rows.length (vs.flatMap fun p=>[p.1,p.2])∧
  ∀(i:Nat) (row:List (Int×NodeA)),rows[i]?=some row→ ∃a1 c1 a2 c2,vs[i]?=some (.slice a1 row.length c1,.slice a2 row.length c2)∧RowD W N (.slice a1 row.length c1) (.slice a2 row.length c2) row
theorem RowsD.nil (W:World) (N:Nat):RowsD W N (.slice none 0 0) []:=⟨[],rfl,World.ownsRow_nil _ _ _ _,fun i row h=>by simp at h⟩
theorem RowsD.bel {W W':World} {N:Nat} {v:Value} {rows:List (List (Int×NodeA))} (h:RowsD W N v rows) (hb:Below W.heap.size W W'):RowsD W' N v rows:=by
 obtain⟨vs,h1,h2,h3⟩:=h.ex
 refine⟨vs,h1,(Only.of_below hb []).own h2 (by simp),fun i row hi=> ?_⟩
 obtain⟨a1,c1,a2,c2,q1,q2⟩:=h3 i row hi
 exact⟨a1,c1,a2,c2,q1,q2.bel hb⟩
theorem two_at {vs:List (Value×Value)} {i:Nat} {p:Value×Value} (h:vs[i]?=some p):(vs.flatMap fun p=>[p.1,p.2])[i*2]?=some p.1∧(vs.flatMap fun p=>[p.1,p.2])[i*2+1]?=some p.2:=by
 induction vs generalizing i with
 | nil=>simp at h
 | cons q vs ih=>
  cases i with
  | zero=>simp at h;subst h;exact⟨rfl,rfl⟩
  | succ i=>
   have:=ih (i:=i) (by simpa using h)
   rw[List.flatMap_cons,show(i+1)*2=(i*2)+1+1 by omega]
   exact this
theorem RowsD.ld {W:World} {N:Nat} {a:Option Addr} {n c:Nat} {rows:List (List (Int×NodeA))} (h:RowsD W N (.slice a n c) rows) (hn:n=rows.length) {i:Nat} {row:List (Int×NodeA)} (hi:rows[i]?=some row):
  ∃g a1 c1 a2 c2,a=some ⟨g,0,none⟩∧n≤c∧ ∀X,Below W.heap.size W X→RowD X N (.slice a1 row.length c1) (.slice a2 row.length c2) row∧X.cell? ⟨g,i*2,none⟩=some (.slice a1 row.length c1)∧X.cell? ⟨g,i*2+1,none⟩=some (.slice a2 row.length c2)∧
   ldR Tryz.prog 79 (.pointer (some ⟨g,i*2,none⟩)) X= .ok (.agg #[.slice a1 row.length c1,.slice a2 row.length c2]) X:=by
 obtain⟨vs,h1,h2,h3⟩:=h.ex
 obtain⟨a1,c1,a2,c2,q1,q2⟩:=h3 i row hi
 have hl:=(List.getElem?_eq_some_iff.1 hi).1
 rw[←hn] at h2
 rcases h2.2 with⟨_,h0⟩ | ⟨g,cap,cur,e,e2,e3,e4,e5,e6,e7⟩
 ·omega
 ·injection e with e1 _ ec
  have hb:Blk W g 79 cur:=e3
  have hat: ∀j v,(vs.flatMap fun p=>[p.1,p.2])[j]?=some v→cur[j]?=some v:=fun j v hj=>by
   have hjl:j<n*2:=by have:=(List.getElem?_eq_some_iff.1 hj).1;rw[h2.1] at this;exact this
   rw[←Array.getElem?_toList]
   have:(cur.toList.take (n*2))[j]?=some v:=by rw[e7];exact hj
   rwa[List.getElem?_take,if_pos hjl] at this
  obtain⟨t1,t2⟩:=two_at q1
  refine⟨g,a1,c1,a2,c2,e1,by omega,fun X hX=> ?_⟩
  have hbX:=hb.bel hX
  refine⟨q2.bel hX,(hbX.cell (i*2)).trans (hat _ _ t1),(hbX.cell (i*2+1)).trans (hat _ _ t2),?_⟩
  refine hbX.ldAt (P:=Tryz.prog) (i*2) (fun j v hj=> ?_) Tryz.underlying79 rfl (by kernel_rfl)
  have hj2:j<2:=by have:=(Array.getElem?_eq_some_iff.1 hj).1;simpa using this
  rcases(by omega:j=0∨j=1) with rfl | rfl
  ·simp at hj;subst hj;exact hat _ _ t1
  ·simp at hj;subst hj;exact hat _ _ t2
theorem infoDRow:(Tryz.prog.info? 79).map (fun i=>(i.zero,i.size,i.bytes))=some (some (.agg #[.slice none 0 0,.slice none 0 0]),2,48):=by kernel_rfl
theorem drow_row (a1 a2:Option Addr) (n1 c1 n2 c2:Nat) (w:World):bslR Tryz.prog 69 1 #[(0,.agg #[.slice a1 n1 c1,.slice a2 n2 c2])] w= .ok (.slice (some ⟨w.heap.size,0,none⟩) 1 1) (w.alloc (.cells #[.slice a1 n1 c1,.slice a2 n2 c2] 79)):=by kernel_rfl
theorem RowsD.push {W:World} {N:Nat} {v:Value} {rows:List (List (Int×NodeA))} {row:List (Int×NodeA)} {a1 a2:Option Addr} {c1 c2:Nat} (h:RowsD W N v rows) (hr:RowD W N (.slice a1 row.length c1) (.slice a2 row.length c2) row) (hN:N≤W.heap.size) (hm:rows.length≤1000000):
  ∃a c w9,appRun2 Tryz.prog #[69,69] 69 #[v,.slice (some ⟨W.heap.size,0,none⟩) 1 1] (W.alloc (.cells #[.slice a1 row.length c1,.slice a2 row.length c2] 79))= .ok (.slice a (rows.length+1) c) w9∧
   RowsD w9 N (.slice a (rows.length+1) c) (rows++[row])∧Only v.ownBlock.toList W w9:=by
 obtain⟨vs,h1,h2,h3⟩:=h.ex
 obtain⟨i0,hi0,hz0,hz1,hz2⟩:=info_parts infoDRow
 obtain⟨X,hX⟩: ∃X,X=W.alloc (.cells #[.slice a1 row.length c1,.slice a2 row.length c2] 79):=⟨_,rfl⟩
 have oX:Only [] W X:=by rw[hX];exact(Only.refl [] W).alloc _
 have kX:Blk X W.heap.size 79 #[.slice a1 row.length c1,.slice a2 row.length c2]:=by rw[hX];exact Blk.new _ _ _
 have h5:=oX.own h2 (by simp)
 obtain⟨v',w9,hA⟩:=run_app (P:=Tryz.prog) X N 69 69 79 i0 _ 2 48 Tryz.underlying69 hi0 hz0 hz1 hz2 rfl (by decide) v rows.length _ h5 (.slice (some ⟨W.heap.size,0,none⟩) 1 1) 1 [.slice a1 row.length c1,.slice a2 row.length c2] (Or.inr ⟨W.heap.size,0,1,rfl,fun j u hj=>by
  rw[kX.cell (0+j),Nat.zero_add];simpa using hj⟩) rfl (fun u hu=>by
   simp at hu
   rcases hu with rfl | rfl<;>rfl) (by unfold maxLen;omega) (by omega) (Nat.le_trans hN oX.size)
 have hown:=hA.own
 have hgr:=hA.grown
 obtain⟨va,vc,rfl⟩:=row_form1 hown
 have hrun:=hA.run
 have ov: ∀k,v.ownBlock=some k→N≤k∧ ∃cs,X.heap[k]?=some (.cells cs 79 (0,0)):=fun k hk=>own_typed h5 k hk
 have o9:Only v.ownBlock.toList X w9:=Only.of_grown (f:=v.ownBlock.toList) hgr (fun y hy=>by simp[hy])
 have keep: ∀{b1 b2:Option Addr} {d1 d2:Nat} {r:List (Int×NodeA)},RowD W N (.slice b1 r.length d1) (.slice b2 r.length d2) r→RowD w9 N (.slice b1 r.length d1) (.slice b2 r.length d2) r:=fun{b1 b2 d1 d2 r} hR=>by
  have hR2:RowD X N (.slice b1 r.length d1) (.slice b2 r.length d2) r:=hR.only oX (by simp)
  refine⟨o9.own hR2.at' (fun k hk hm=> ?_),o9.own hR2.nd (fun k hk hm=> ?_)⟩
  ·obtain⟨_,cs,hc⟩:=own_typed hR2.at' k hk
   obtain⟨_,cs',hc'⟩:=ov k (by simpa[Option.mem_toList] using hm)
   rw[hc] at hc'
   injection hc' with hc'
   injection hc' with _ hc' _
   cases hc'
  ·obtain⟨_,cs,hc⟩:=own_typed hR2.nd k hk
   obtain⟨_,cs',hc'⟩:=ov k (by simpa[Option.mem_toList] using hm)
   rw[hc] at hc'
   injection hc' with hc'
   injection hc' with _ hc' _
   cases hc'
 refine⟨va,vc,w9,by rw[←hX];exact hrun,⟨vs++[(.slice a1 row.length c1,.slice a2 row.length c2)],by simp[h1],?_,fun i r hi=> ?_⟩,(oX.mono (fun _ h=>by cases h)).trans o9 (fun y hy=>Or.inl hy)⟩
 ·rw[List.length_append,List.flatMap_append]
  exact hown
 ·by_cases e:i<rows.length
  ·rw[List.getElem?_append_left e] at hi
   obtain⟨b1,d1,b2,d2,q1,q2⟩:=h3 i r hi
   exact⟨b1,d1,b2,d2,by rw[List.getElem?_append_left (by omega)];exact q1,keep q2⟩
  ·have hil:=(List.getElem?_eq_some_iff.1 hi).1
   rw[List.length_append,List.length_singleton] at hil
   obtain rfl:i=rows.length:=by omega
   rw[List.getElem?_append_right (Nat.le_refl _),Nat.sub_self] at hi
   simp at hi
   subst hi
   exact⟨a1,c1,a2,c2,by rw[List.getElem?_append_right (by omega)];simp[h1],keep hr⟩
end Go.Proofs.YtibiekfjbibpbaaGreat
