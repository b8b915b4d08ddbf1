/- The document's Rows, walked. -/
import Derived.Test.YtibiekfjbibpbaaGreatDocN
import Derived.Test.YtibiekfjbibpbaaGreatPlnM
set_option maxRecDepth 100000
set_option maxHeartbeats 1000000
set_option linter.unusedVariables false
set_option linter.unusedSimpArgs false
namespace Go.Proofs.YtibiekfjbibpbaaGreat
open Go.RowKit
attribute [local go_sem ↓ high] nodeLoadAt nodeLoadVar nodeStoreAt nodeBuild nodeBuildS drowLoadAt drowLoadVar drowStoreAt append_shut2 arr8L
attribute [local go_sem] ldM_run lvM_run stM_run bldM_run bslM_run Oper.semAt_some appM2_run
def RowsOK (bs:List Int) (rs:List (List (Int×NodeA))):Prop:=slabsOK bs∧supOK bs∧ ∃n,nodeI bs (wAt bs 2)=some n∧RowsAt (nodeI bs) n.lv (wAt bs 2) none rs
def DRwPost (bs:List Int) (w:World) (e:Ending) (w':World):Prop:=
 Below w.heap.size w w'∧((∃rs a c,RowsOK bs rs∧e= .returned (.tuple #[.slice a rs.length c,.bool true])∧RowsD w' w.heap.size (.slice a rs.length c) rs)∨((∀rs,¬RowsOK bs rs)∧e= .returned (.tuple #[.slice none 0 0,.bool false])))
theorem DRows_no (p:Option Addr) (cap:Nat) (bs:List Int) (n:Nat) (hn:n=bs.length) (hs: ¬0<slabsZ bs.length) (w:World):
  Calls Tryz.prog 24 #[.slice p n cap] w (DRwPost bs w):=by
 have OF:=hid (ROf6_no p n cap (by rw[hn];exact hs) w)
 have HF:Hid (DRwPost bs w (.returned (.tuple #[.slice none 0 0,.bool false])) w):=hid ⟨Below.refl _ _,Or.inr ⟨fun rs h=>hs h.1.1,rfl⟩⟩
 clear hn hs
 go_enter Tryz.func24,Tryz.ntmps24
 go_wp2_with fail
 refine OF.out.mono ?_
 rintro e w1 ⟨rfl,rfl⟩
 go_wp2
 go_ret2
 exact HF.out
def arr8C (f:Nat→Int):Array Value:= #[.int .u64 (f 0),.int .u64 (f 1),.int .u64 (f 2),.int .u64 (f 3),.int .u64 (f 4),.int .u64 (f 5),.int .u64 (f 6),.int .u64 (f 7)]
theorem arr8C_at (f:Nat→Int) {i:Nat} (h:i<8):(arr8C f)[i]?=some (.int .u64 (f i)):=by
 rcases(by omega:i=0∨i=1∨i=2∨i=3∨i=4∨i=5∨i=6∨i=7) with rfl | rfl | rfl | rfl | rfl | rfl | rfl | rfl<;>rfl
theorem arr8C_set (f:Nat→Int) {i:Nat} (h:i<8):(arr8C (wTo f i)).setIfInBounds i (.int .u64 (f i))=arr8C (wTo f (i+1)):=by
 rcases(by omega:i=0∨i=1∨i=2∨i=3∨i=4∨i=5∨i=6∨i=7) with rfl | rfl | rfl | rfl | rfl | rfl | rfl | rfl<;>rfl
theorem arr8C_8 (f:Nat→Int):arr8C (wTo f 8)=arr8C f:=rfl
theorem arr8_ld {w:World} {b:Nat} {f:Nat→Int} (h:Blk w b 52 (arr8C f)):ldR Tryz.prog 52 (.pointer (some ⟨b,0,none⟩)) w= .ok (.agg (arr8C f)) w:=h.ld Tryz.underlying52 rfl (by kernel_rfl)
structure R8I (w w0:World) (f:Nat→Int) (B7 i g:Nat) (W:World):Prop where
 b7:Blk W B7 52 (arr8C (wTo f i))
 bel:Below w0.heap.size w0 W
 lt:w0.heap.size≤B7∧g<B7
 cells: ∀j:Nat,j<8→W.cell? ⟨g,j,none⟩=some (.int .u64 (f j))
theorem drow_new (W:World) (a1 a2:Option Addr) (n1 c1 n2 c2:Nat): ∃W',stR Tryz.prog 79 (.pointer (some ⟨W.heap.size,0,none⟩)) (.agg #[.slice a1 n1 c1,.slice a2 n2 c2]) (W.alloc (.cells #[.slice none 0 0,.slice none 0 0] 79))= .ok () W'∧Blk W' W.heap.size 79 #[.slice a1 n1 c1,.slice a2 n2 c2]∧Below W.heap.size W W':=by
 obtain⟨W',h1,h2,h3⟩:=drow_st (Blk.new W 79 #[.slice none 0 0,.slice none 0 0]) rfl a1 a2 n1 c1 n2 c2
 have hb:Below W.heap.size W (W.alloc (.cells #[.slice none 0 0,.slice none 0 0] 79)):=ba (Below.refl _ _) _
 exact⟨W',h1,h2,hb.trans (h3.below (fun x hx=>by simp at hx;omega) hb.size)⟩
structure RwI (bs:List Int) (w:World) (L ro:Int) (rows:List (List (Int×NodeA))) (k:Nat) (a lev:Int) (v:Value) (W:World):Prop where
 st:(0≤lev∧RTo (nodeI bs) L ro rows lev a)∨(lev= -1∧RowsAt (nodeI bs) L ro none rows)
 kl:k=rows.length
 few:(k:Int)=L-lev
 L15:0≤L∧L≤15
 ro0:ro≠0
 a0:rows=[]→a=ro
 au:0≤a∧a≤18446744073709551615
 rd:RowsD W w.heap.size v rows
 bel:Below w.heap.size w W
 len: ∀row∈rows,row.length≤bs.length/8
theorem DRows_r (p:Option Addr) (cap:Nat) (bs:List Int) (n:Nat) (hn:n=bs.length) (hs:0<slabsZ bs.length) (w:World) (h:BytesIn w p cap bs):
  Calls Tryz.prog 24 #[.slice p n cap] w (DRwPost bs w):=by
 have hsl:=slabs_len hs
 obtain⟨ns,hns⟩: ∃ns:Nat,slabsZ bs.length=ns:=⟨(slabsZ bs.length).toNat,by omega⟩
 have OF:=ROf_r p cap bs ns (by omega) (by omega) w h
 rw[←hn] at OF
 have hl:n≤1000000:=by omega
 have OF:=hid OF
 have H:=hid h
 have HN:=hid hn
 have HS:=hid hs
 have HNS:=hid (show nsI bs=ns∧2<bs.length/8∧8≤bs.length/8 by unfold nsI;omega)
 by_cases hok: ∀i,1≤i→i≤ns→headOK bs i=true
 ·have HOK:=hid hok
  have HSL:=hid (show slabsOK bs from⟨hs,fun i h1 h2=>hok i h1 (by have:=HNS.out.1;omega)⟩)
  clear hn hs h hsl hns hok
  go_enter Tryz.func24,Tryz.ntmps24
  go_wp2_with fail
  refine OF.out.mono ?_
  intro e w1 hp
  obtain⟨g0,vC,vL,rfl,_⟩:=hp.yes HOK.out
  have HB1:=hid hp.bel
  clear hp
  have WD:Hid (Calls Tryz.prog 78 #[.slice p n cap,.int .u64 0,.int .i64 8] w1 fun e w'=>Below w1.heap.size w1 w'∧ ∃v,e= .returned v∧rowW w' w1.heap.size v (wordsFr bs 0 8)):=hid (RWords_b p cap bs n HN.out hl 0 8 (by have:=HNS.out.2.2;have:=HN.out;omega) w1 (bytesBel H.out HB1.out))
  go_wp2_with fail
  refine WD.out.mono ?_
  rintro e w3 ⟨hb3,v,rfl,hrow⟩
  have hrl:=wordsFr_len bs 0 8
  have hrow':=hrow
  unfold rowW at hrow'
  rw[hrl] at hrow'
  obtain⟨g,cp,rfl,hg1,hg2,hg3,hg4⟩:=own_some hrow' (by omega)
  obtain⟨W5,hW5⟩: ∃W5,W5=w3.alloc (.cells #[.int .u64 0,.int .u64 0,.int .u64 0,.int .u64 0,.int .u64 0,.int .u64 0,.int .u64 0,.int .u64 0] 52):=⟨_,rfl⟩
  have hb5:Below w3.heap.size w3 W5:=by rw[hW5];exact ba (Below.refl _ _) _
  obtain⟨B7,hB7⟩: ∃B7,B7=w3.heap.size:=⟨_,rfl⟩
  have k7:Blk W5 B7 52 (arr8C (wTo (wAt bs) 0)):=by rw[hW5,hB7];exact Blk.new w3 52 (arr8C (wTo (wAt bs) 0))
  have hI0:Hid (R8I w w (wAt bs) B7 0 g W5):=by
   refine hid ⟨k7,bx (bx HB1.out hb3) hb5,⟨by have:=HB1.out.size;have:=hb3.size;omega,by omega⟩,fun i hi=> ?_⟩
   refine((Only.of_below hb5 []).cell (p:=⟨g,i,none⟩) (by omega) (by simp)).trans ?_
   have:=hg4 i (.int .u64 (wAt bs i)) (by
    rw[List.getElem?_map]
    unfold wordsFr
    rw[List.getElem?_map,List.getElem?_range hi]
    unfold wdI wAt
    have e:((0:Int)+8*(i:Int)).toNat=8*i:=by omega
    simp only[Option.map_some,e])
   rwa[Nat.zero_add] at this
  have HGC:=hid (⟨hg1,hg2,hg3⟩:_∧_∧_)
  clear hrow hrow' hg1 hg3 hg4 hb3 hb5 k7 hrl
  go_wp2
  rw[←hB7,←hW5]
  clear hW5 hB7
  go_loopw [8] (fun iv wr=> ∃i:Nat,i≤8∧iv= .int .i64 i∧Hid (R8I w w (wAt bs) B7 i g wr)) (fun iv _=>(8- (intOf iv).toNat))
  case atStart=>exact⟨0,by omega,rfl,hI0⟩
  case round=>
   obtain⟨i,hi,rfl,hI⟩:=hrel
   obtain⟨wA,rfl⟩: ∃x,x=wr:=⟨_,rfl⟩
   have i0:(0:Int)≤(i:Int):=by omega
   by_cases hlt:i<8
   ·have i1:(i:Int)<8:=by omega
    have cg:=hI.out.cells i hlt
    have c7:wA.cell? ⟨B7,i,none⟩=some (.int .u64 (wTo (wAt bs) i i)):=(hI.out.b7.cell i).trans (arr8C_at _ hlt)
    have f7:=hI.out.b7.frozen i
    have hN:Hid (R8I w w (wAt bs) B7 (i+1) g (wA.setCell ⟨B7,i,none⟩ (.int .u64 (wAt bs i)))):=by
     have o:Only [B7] wA (wA.setCell ⟨B7,i,none⟩ (.int .u64 (wAt bs i))):=(Only.refl _ wA).setCell (Or.inl (by simp)) _
     have hh:=hI.out.lt
     have h7:=hI.out.b7.set_ i (.int .u64 (wAt bs i))
     rw[arr8C_set _ hlt] at h7
     refine hid ⟨h7,hI.out.bel.trans (o.below (fun y hy=>by simp at hy;omega) hI.out.bel.size),hh,fun j hj=> ?_⟩
     exact(o.cell (p:=⟨g,j,none⟩) (World.block_lt_of_cell? wA _ (hI.out.cells j hj)) (by simp;omega)).trans (hI.out.cells j hj)
    have HLT:=hid hlt
    clear hlt hi
    go_wp2
    go_roundw
    case rel=>exact⟨i+1,HLT.out,by go_num,hN⟩
    case measure=>simp[intOf];have:=HLT.out;omega
   ·obtain rfl:i=8:=by omega
    have i1: ¬((8:Nat):Int)<8:=by omega
    have k7:=hI.out.b7
    rw[arr8C_8] at k7
    have hld:=arr8_ld k7
    have HB:=hid hI.out.bel
    clear hlt hi k7 hI hI0 HGC
    have HU:=hid (fun k (hk:k<8)=>wAt_in H.out.2.1 (k:=k) (by have:=HNS.out.2.2;omega))
    have HNO:=hid (fun W (hb:Below w.heap.size w W) (hn: ∀rs,¬RowsOK bs rs)=>show DRwPost bs w (.returned (.tuple #[.slice none 0 0,.bool false])) W from⟨hb,Or.inr ⟨hn,rfl⟩⟩)
    by_cases hwk:wordsOk (wAt bs 0) (wAt bs 1) (wAt bs 2) (wAt bs 3) (wAt bs 4) (wAt bs 5) (wAt bs 6) (wAt bs 7)=true
    ·have SO:Hid (Calls Tryz.prog 93 #[.agg (arr8C (wAt bs))] wA fun en w'=>en= .returned (.tuple #[.agg #[.int .u64 (wAt bs 1),.int .u64 (wAt bs 2)],.int .i64 0])∧Below wA.heap.size wA w'):=hid (ROf_yes _ _ _ _ _ _ _ _ wA (HU.out 1 (by omega)).1 (HU.out 1 (by omega)).2 (HU.out 3 (by omega)).1 (HU.out 3 (by omega)).2 hwk)
     have HWK:=hid hwk
     clear hwk
     go_wp2_with fail
     refine SO.out.mono ?_
     rintro e w6 ⟨rfl,hb6⟩
     have HB6:=hid (bx HB.out hb6)
     clear hb6 hld
     obtain⟨sz,hsz⟩: ∃sz,sz=wAt bs 1:=⟨_,rfl⟩
     obtain⟨ro,hro⟩: ∃ro,ro=wAt bs 2:=⟨_,rfl⟩
     have HSR:=hid (⟨hsz,hro,by rw[hsz];exact HU.out 1 (by omega),by rw[hro];exact HU.out 2 (by omega)⟩:_∧_∧(0≤sz∧sz≤18446744073709551615)∧(0≤ro∧ro≤18446744073709551615))
     rw[←hsz,←hro]
     obtain⟨W7,hW7⟩: ∃W7,W7=w6.alloc (.cells #[.int .u64 sz,.int .u64 ro] 187):=⟨_,rfl⟩
     have hb7:Below w6.heap.size w6 W7:=by rw[hW7];(repeat(first | exact Below.refl _ _ | (refine ba ?_ _) | (refine Below.drew ?_) | (refine below_drewN ?_ _) | (refine Below.alloc ?_ (by first | omega | (simp;done) | (simp;omega)) _) | (refine Below.setCell ?_ (by first | omega | (simp;done) | (simp;omega)) _) | (refine bx ?_ (by assumption)) | (refine Below.trans ?_ (Below.mono (by assumption) (by first | omega | (simp;done) | (simp;omega))))))
     have k9:Blk W7 w6.heap.size 187 #[.int .u64 sz,.int .u64 ro]:=by rw[hW7];exact Blk.new _ _ _
     have HB7:=hid (⟨bx HB6.out hb7,k9⟩:_∧_)
     have MY:=hid (fun W=>RMay_z sz ro n W HSR.out.2.2.1.1 HSR.out.2.2.1.2 HSR.out.2.2.2.1 HSR.out.2.2.2.2 (by omega) (by omega))
     have HW7:=hid hW7
     clear hW7 hb7 k9 hsz hro
     go_upto_region 11 with fail
     rw[←HW7.out]
     clear HW7
     have c90:W7.cell? ⟨w6.heap.size,0,none⟩=some (.int .u64 sz):=HB7.out.2.cell 0
     have c91:W7.cell? ⟨w6.heap.size,1,none⟩=some (.int .u64 ro):=HB7.out.2.cell 1
     by_cases hmy:mayZ sz ro n=true
     ·have HSUP:=hid (show supOK bs by
       unfold supOK
       rw[←HSR.out.1,←HSR.out.2.1,←HN.out]
       exact⟨by rw[HSR.out.1,HSR.out.2.1];exact HWK.out,hmy⟩)
      rw[hmy] at MY
      have ND0:=hid (fun(W:World) (hb:Below W7.heap.size W7 W)=>RNode_r p cap bs n HN.out hl ro HSR.out.2.2.2 W (bytesBel H.out (bx HB7.out.1 hb)))
      clear hmy
      cases hnd:nodeI bs ro with
      | none=>
       have er:nodeR bs ro= .tuple #[.agg (nodeC zeroN),.int .i64 6]:=by unfold nodeR;rw[hnd]
       rw[er] at ND0
       have HNR:=hid (fun rs=>show ¬RowsOK bs rs from fun h=>by
        obtain⟨n',h1,_⟩:=h.2.2
        rw[←HSR.out.2.1,hnd] at h1
        cases h1)
       clear hnd er
       go_wp2_with fail
       refine(MY.out _).mono ?_
       rintro e w8 ⟨rfl,hb8⟩
       have c91':w8.cell? ⟨w6.heap.size,1,none⟩=some (.int .u64 ro):=(HB7.out.2.bel hb8).cell 1
       go_wp2_with fail
       refine(ND0.out _ hb8).mono ?_
       rintro e w9 ⟨rfl,hb9⟩
       obtain⟨W10,hst10,k11,hb10⟩:=node_new w9 zeroN
       have HB10:=hid (bx (bx (bx HB7.out.1 hb8) hb9) hb10)
       clear k11 hb10 hb9 hb8 c90 c91 c91'
       go_wp2
       go_ret2
       exact HNO.out _ HB10.out HNR.out
      | some nd=>
       have er:nodeR bs ro= .tuple #[.agg (nodeC nd),.int .i64 0]:=by unfold nodeR;rw[hnd]
       rw[er] at ND0
       have HND:=hid hnd
       clear hnd er
       go_wp2_with fail
       refine(MY.out _).mono ?_
       rintro e w8 ⟨rfl,hb8⟩
       have c91':w8.cell? ⟨w6.heap.size,1,none⟩=some (.int .u64 ro):=(HB7.out.2.bel hb8).cell 1
       go_wp2_with fail
       refine(ND0.out _ hb8).mono ?_
       rintro e w9 ⟨rfl,hb9⟩
       obtain⟨W10,hst10,k11,hb10⟩:=node_new w9 nd
       have HB10:=hid (⟨bx (bx (bx HB7.out.1 hb8) hb9) hb10,((HB7.out.2.bel hb8).bel hb9).bel hb10,k11⟩:_∧_∧_)
       have d1:W10.cell? ⟨w6.heap.size,1,none⟩=some (.int .u64 ro):=HB10.out.2.1.cell 1
       have d0:W10.cell? ⟨w9.heap.size,0,none⟩=some (.int .i64 nd.lv):=k11.cell 0
       have HLV:=hid (nodeI_lv HND.out)
       have HI0:Hid (RwI bs w nd.lv ro [] 0 ro nd.lv (.slice none 0 0) W10):=by
        have h1:=HLV.out
        refine hid ⟨Or.inl ⟨h1.1,RTo.start _ _ _⟩,rfl,by omega,h1,fun e=> ?_,fun _=>rfl,HSR.out.2.2.2,RowsD.nil _ _,HB10.out.1,fun _ h=>by cases h⟩
        have:=HND.out
        rw[e,node_zero] at this
        cases this
       have HOKS:=hid (show ∀rs,RowsAt (nodeI bs) nd.lv ro none rs→RowsOK bs rs from fun rs h=>⟨HSL.out,HSUP.out,nd,by rw[←HSR.out.2.1];exact HND.out,by rw[←HSR.out.2.1];exact h⟩)
       have HNOS:=hid (show(∀rs,¬RowsAt (nodeI bs) nd.lv ro none rs)→ ∀rs,¬RowsOK bs rs from fun hh rs h=>by
        obtain⟨n',h1,h2⟩:=h.2.2
        rw[←HSR.out.2.1,HND.out] at h1
        injection h1 with h1
        subst h1
        rw[←HSR.out.2.1] at h2
        exact hh rs h2)
       clear k11 hb10 hb9 hb8 c90 c91 c91' SO MY ND0 HSUP HSL HB HB6 HB7 HB10 HND HWK HU
       go_wp2
       clear d1 d0 hst10
       go_loopw [13,14,15] (fun ov av lv wr=> ∃(oa:Option Addr) (oc k:Nat) (rows:List (List (Int×NodeA))) (a lev:Int),ov= .slice oa k oc∧av= .int .u64 a∧lv= .int .i64 lev∧Hid (RwI bs w nd.lv ro rows k a lev (.slice oa k oc) wr)) (fun _ _ lv _=>(intOf lv+1).toNat)
       case atStart=>exact⟨none,0,0,[],ro,nd.lv,rfl,rfl,rfl,HI0⟩
       case round=>
        obtain⟨oa,oc,k,rows,a,lev,rfl,rfl,rfl,hI⟩:=hrel
        obtain⟨wA,rfl⟩: ∃x,x=wr:=⟨_,rfl⟩
        by_cases hlv:0≤lev
        ·have t0:lev≥0:=hlv
         have HRT:Hid (RTo (nodeI bs) nd.lv ro rows lev a):=hid (hI.out.st.elim (fun h=>h.2) (fun h=>by omega))
         have HK:=hid (show k≤15∧0≤lev∧lev≤15 by have:=hI.out.few;have:=hI.out.L15;omega)
         have CH:=hid (DChain_r p cap bs n HN.out hl HS.out a lev hI.out.au wA (bytesBel H.out hI.out.bel))
         have HOB:=hid (fun q (hq:(Value.slice oa k oc).ownBlock=some q)=>show w.heap.size≤q by obtain⟨vs,_,h2,_⟩:=hI.out.rd.ex;rw[←hI.out.kl] at h2;exact(h2.lt q hq).1)
         have HOA:=hid (fun q (hq:(Value.slice oa k oc).ownBlock=some q)=>show q<wA.heap.size by obtain⟨vs,_,h2,_⟩:=hI.out.rd.ex;rw[←hI.out.kl] at h2;exact(h2.lt q hq).2)
         clear hlv
         go_wp2_with fail
         refine CH.out.mono ?_
         rintro e w2 ⟨hb2,(⟨row,a1,a2,c1,c2,hch,rfl,hrow,hfew⟩ | ⟨hno,a1,n1,c1,a2,n2,c2,rfl⟩)⟩
         ·obtain⟨m,hm⟩: ∃m,m=row.length:=⟨_,rfl⟩
          rw[←hm] at hrow hfew
          rw[←hm]
          obtain⟨W3,hst3,k16,hb3⟩:=drow_new w2 a1 a2 m c1 m c2
          have HI3:=hid (⟨hI.out.rd.bel (bx hb2 hb3:Below wA.heap.size wA W3),bx (bx hI.out.bel hb2) hb3,k16,hrow.bel hb3⟩:_∧_∧_∧_)
          have HR:=hid (⟨hch,hm,hfew⟩:_∧_∧_)
          have HSZ:=hid hb2.size
          clear hb2 hb3 k16 hch hm hfew hrow
          have HM15:=hid (show m≤1000000 by have:=HR.out.2.2;have:=HN.out;omega)
          have HD:=hid (fun W (hb:Below W3.heap.size W3 W)=>show RowsD W w.heap.size (.slice oa k oc) rows∧Below w.heap.size w W∧Blk W w2.heap.size 79 #[.slice a1 m c1,.slice a2 m c2]∧RowD W wA.heap.size (.slice a1 m c1) (.slice a2 m c2) row from⟨HI3.out.1.bel hb,bx HI3.out.2.1 hb,HI3.out.2.2.1.bel hb,HI3.out.2.2.2.bel hb⟩)
          go_wp2
          clear hst3
          go_loopw [18] (fun iv wr=> ∃i:Nat,i≤m∧iv= .int .i64 (i:Int)∧Hid (Below W3.heap.size W3 wr)∧Hid (∀i' x,i'<i→row[i']?=some x→mayN x.2 (highI row i') (hasI row i')=true)) (fun iv _=>m- (intOf iv).toNat)
          case atStart=>exact⟨0,Nat.zero_le _,rfl,hid (Below.refl _ _),hid (fun i' x h=>absurd h (Nat.not_lt_zero _))⟩
          case round=>
           obtain⟨i,hi,rfl,hB,hMY⟩:=hrel
           obtain⟨wB,rfl⟩: ∃x,x=wr:=⟨_,rfl⟩
           have y16:wB.cell? ⟨w2.heap.size,1,none⟩=some (.slice a2 m c2):=(HD.out wB hB.out).2.2.1.cell 1
           have hld:=drow_ld (HD.out wB hB.out).2.2.1
           by_cases him:i<m
           ·obtain⟨x,hx⟩: ∃x,row[i]?=some x:=⟨_,List.getElem?_eq_getElem (by have:=HR.out.2.1;omega)⟩
            have i0:(0:Int)≤(i:Int):=by omega
            have i1:(i:Int)< (m:Int):=by omega
            have HG:=hid (DHigh_r _ m c1 c2 a1 a2 row i wB (HD.out wB hB.out).2.2.2 HR.out.2.1 HM15.out him)
            have HX:=hid hx
            have HIM:=hid him
            clear hx him hi
            go_wp2_with fail
            refine HG.out.mono ?_
            rintro e w4 ⟨rfl,hb4⟩
            obtain⟨hh,hhe⟩: ∃hh,hh=highI row i:=⟨_,rfl⟩
            obtain⟨hs,hse⟩: ∃hs,hs=hasI row i:=⟨_,rfl⟩
            rw[←hhe,←hse]
            have HHH:=hid (⟨hhe,hse⟩:_∧_)
            have HB4:=hid (bx hB.out hb4)
            have y16':w4.cell? ⟨w2.heap.size,1,none⟩=some (.slice a2 m c2):=(HD.out w4 HB4.out).2.2.1.cell 1
            obtain⟨g2,e2,hc2,hcell⟩:=(HD.out w4 HB4.out).2.2.2.nodeL HR.out.2.1 HX.out
            subst e2
            have hln:=(hcell w4 (Below.refl _ _)).2
            have MN:=hid (RNMay_r x.2 hh hs w4)
            clear hcell hc2 hb4 hhe hse y16 hld
            go_wp2_with fail
            refine MN.out.mono ?_
            rintro e w5 ⟨rfl,hb5⟩
            have HB5:=hid (bx HB4.out hb5)
            clear y16' hln hb5
            obtain⟨my,hmy⟩: ∃my,my=mayN x.2 hh hs:=⟨_,rfl⟩
            rw[←hmy]
            have HMY:=hid hmy
            clear hmy
            cases my
            ·have HF:=hid (HNO.out w5 (HD.out w5 HB5.out).2.1 (HNOS.out (HRT.out.no fun row' h=>by
              have e:=h.1.det HR.out.1
              subst e
              have h1:=h.2.1 i x HX.out
              rw[←HHH.out.1,←HHH.out.2,←HMY.out] at h1
              cases h1)))
             go_wp2
             go_ret2
             exact HF.out
            ·go_wp2
             go_loopw [21] (fun qv wr=> ∃q:Nat,q≤k∧qv= .int .i64 (q:Int)∧Hid (Below W3.heap.size W3 wr)) (fun qv _=>k- (intOf qv).toNat)
             case atStart=>exact⟨0,Nat.zero_le _,rfl,HB5⟩
             case round=>
              obtain⟨q,hq,rfl,hBq⟩:=hrel
              obtain⟨wC,rfl⟩: ∃x,x=wr:=⟨_,rfl⟩
              by_cases hqk:q<k
              ·obtain⟨ur,hur⟩: ∃ur,rows[q]?=some ur:=⟨_,List.getElem?_eq_getElem (by have:=hI.out.kl;omega)⟩
               obtain⟨go,b1,d1,b2,d2,e3,hoc,hurd⟩:=(HD.out wC hBq.out).1.ld hI.out.kl hur
               subst e3
               obtain⟨g1,e4,hc1,_⟩:=(HD.out wC hBq.out).2.2.2.addr HR.out.2.1 HX.out
               subst e4
               have hul:ur.length≤1000000:=by have:=hI.out.len ur (List.mem_of_getElem? hur);have:=HN.out;omega
               have KS:=hid (fun X (hb:Below wC.heap.size wC X)=>show(ldR Tryz.prog 79 (.pointer (some ⟨go,q*2,none⟩)) X= .ok (.agg #[.slice b1 ur.length d1,.slice b2 ur.length d2]) X∧X.cell? ⟨w2.heap.size,0,none⟩=some (.slice (some ⟨g1,0,none⟩) m c1)∧X.cell? ⟨g1,i,none⟩=some (.int .u64 x.1))∧Below wC.heap.size wC X from⟨⟨(hurd X hb).2.2.2,(HD.out X (bx hBq.out hb)).2.2.1.cell 0,by
                obtain⟨g1',e4,_,h4⟩:=(HD.out X (bx hBq.out hb)).2.2.2.addr HR.out.2.1 HX.out
                injection e4 with e4
                injection e4 with e4
                rw[e4];exact h4⟩,hb⟩)
               have FND:=hid (fun X (hb:Below wC.heap.size wC X)=>DFind_r _ ur.length d1 d2 b1 b2 ur x.1 X (hurd X hb).1 rfl hul)
               have hfn:findI ur x.1= -1:=findI_no (fun y hy e=>by
                have h1:=HRT.out.each ur (List.mem_of_getElem? hur) y hy
                obtain⟨p',hw'⟩:=HR.out.1.whole
                have h2:=hw'.at' x (List.mem_of_getElem? HX.out)
                rw[e,h2.2.1] at h1
                have h3:=h1.1
                injection h3 with h3
                have:=h1.2
                rw[←h3,h2.2.2] at this
                omega)
               rw[hfn] at FND
               have B0:Below wC.heap.size wC wC.drew:=by(repeat(first | exact Below.refl _ _ | (refine ba ?_ _) | (refine Below.drew ?_) | (refine below_drewN ?_ _) | (refine Below.alloc ?_ (by first | omega | (simp;done) | (simp;omega)) _) | (refine Below.setCell ?_ (by first | omega | (simp;done) | (simp;omega)) _) | (refine bx ?_ (by assumption)) | (refine Below.trans ?_ (Below.mono (by assumption) (by first | omega | (simp;done) | (simp;omega))))))
               have q0:(0:Int)≤(q:Int):=by omega
               have q1:(q:Int)< (k:Int):=by omega
               have HQK:=hid hqk
               have hq15:q<15:=by have:=HK.out.1;omega
               obtain⟨ul,hul2⟩: ∃ul,ul=ur.length:=⟨_,rfl⟩
               rw[←hul2] at KS FND
               clear hul2 hfn hul hurd hur hqk hq hoc hc1
               go_upto_region 33 with fail
               go_cut [119] from 109 to 119 (fun s W=>s= .bool false∧Hid (Below wC.heap.size wC W))
               case first=>
                go_region_held3 (fun X=>(ldR Tryz.prog 79 (.pointer (some ⟨go,q*2,none⟩)) X= .ok (.agg #[.slice b1 ul d1,.slice b2 ul d2]) X∧X.cell? ⟨w2.heap.size,0,none⟩=some (.slice (some ⟨g1,0,none⟩) m c1)∧X.cell? ⟨g1,i,none⟩=some (.int .u64 x.1))∧Below wC.heap.size wC X) (first | (with_reducible exact KS.out _ B0) | (with_reducible exact KS.out _ B1))
                 (first
                 | (go_at_call 97;refine(FND.out _ B0).mono ?_;rintro e9 v1 ⟨rfl,hb1⟩;have B1:Below wC.heap.size wC v1:=bx B0 hb1))
                all_goals
                 try go_simp
                 try simp only[Act.put,List.setIfInBounds_toArray,List.set_cons_zero,List.set_cons_succ]
                 go_wp2_with fail
                 go_meet
                 exact⟨rfl,B1⟩
               case rest=>
                obtain⟨rfl,hw9⟩:=hcut
                go_wp2
                go_roundw
                case rel=>exact⟨q+1,HQK.out,by go_num,hid (bx hBq.out hw9.out)⟩
                case measure=>simp[intOf];have:=HQK.out;omega
              ·obtain rfl:q=k:=by omega
               have q1: ¬(q:Int)< (q:Int):=by omega
               have HMY2:Hid (∀i' x',i'<i+1→row[i']?=some x'→mayN x'.2 (highI row i') (hasI row i')=true):=by
                refine hid fun i' x' h1 h2=> ?_
                by_cases hi':i'<i
                ·exact hMY.out i' x' hi' h2
                ·obtain rfl:i'=i:=by omega
                 rw[HX.out] at h2
                 injection h2 with h2
                 rw[←h2,←HHH.out.1,←HHH.out.2,←HMY.out]
               have him6:i<1000000:=by have:=HIM.out;have:=HM15.out;omega
               clear hq hqk
               go_wp2
               go_roundw
               case rel=>exact⟨i+1,HIM.out,by go_num,hBq,HMY2⟩
               case measure=>simp[intOf];have:=HIM.out;omega
           ·obtain rfl:i=m:=by omega
            have i1: ¬(i:Int)< (i:Int):=by omega
            have HMR:Hid (mayRow row):=hid (fun i' x' h2=>hMY.out i' x' (by have:=(List.getElem?_eq_some_iff.1 h2).1;have:=HR.out.2.1;omega) h2)
            clear hi him
            have HRW:=HD.out wB hB.out
            have HRW:=hid HRW
            have HNE:Hid ((∀u,rows.getLast?=some u→leadsI u row)→row≠[]):=hid (fun hl=>by
             by_cases hr0:rows=[]
             ·have e:=hI.out.a0 hr0
              exact chain_full HR.out.1 (by rw[e];exact hI.out.ro0)
             ·obtain⟨u,hu⟩: ∃u,rows.getLast?=some u:=⟨_,List.getLast?_eq_some_getLast hr0⟩
              exact leads_full (hl u hu) (HRT.out.full u (List.mem_of_getLast? hu)))
            go_upto_region 35 with fail
            go_cut [133] from 120 to 133 (fun s133 W=> ∃b:Bool,s133= .bool b∧Hid (Below wB.heap.size wB W∧(b=false↔ ∀u,rows.getLast?=some u→leadsI u row)))
            case first=>
             by_cases hk0:k=0
             ·have hr0:rows=[]:=List.length_eq_zero_iff.1 (by have:=hI.out.kl;omega)
              have j1:decide ((k:Int)>0)=false:=decide_eq_false (by omega)
              have j2: ¬(k:Int)>0:=by omega
              have j3:decide (0<k)=false:=decide_eq_false (by omega)
              have j4: ¬0<k:=by omega
              have HR0:=hid hr0
              clear hk0 hr0
              go_quiet (fail)
              go_wp2
              go_meet
              exact⟨false,rfl,by(repeat(first | exact Below.refl _ _ | (refine ba ?_ _) | (refine Below.drew ?_) | (refine below_drewN ?_ _) | (refine Below.alloc ?_ (by first | omega | (simp;done) | (simp;omega)) _) | (refine Below.setCell ?_ (by first | omega | (simp;done) | (simp;omega)) _) | (refine bx ?_ (by assumption)) | (refine Below.trans ?_ (Below.mono (by assumption) (by first | omega | (simp;done) | (simp;omega)))))),⟨fun _ u hu=>(by rw[HR0.out] at hu;cases hu),fun _=>rfl⟩⟩
             ·obtain⟨u,hu⟩: ∃u,rows[k-1]?=some u:=⟨_,List.getElem?_eq_getElem (by have:=hI.out.kl;omega)⟩
              obtain⟨go,b1,d1,b2,d2,e3,hoc,hurd⟩:=HRW.out.1.ld hI.out.kl hu
              subst e3
              have hul:u.length≤1000000:=by have:=hI.out.len u (List.mem_of_getElem? hu);have:=HN.out;omega
              obtain⟨q,hq⟩: ∃q,k-1=q:=⟨_,rfl⟩
              rw[hq] at hurd hu
              have HGL:Hid (rows.getLast?=some u):=hid (by rw[List.getLast?_eq_getElem?,←hI.out.kl,hq];exact hu)
              have LD:=hid (fun X (hb:Below wB.heap.size wB X)=>DLeads_r _ _ u.length i d1 d2 c1 c2 b1 b2 a1 a2 u row X (hurd X hb).1 (HD.out X (bx hB.out hb)).2.2.2 rfl HR.out.2.1 hul HM15.out (by obtain⟨p',hw'⟩:=HR.out.1.whole;exact hw'.nodup))
              have KL:=hid (fun X (hb:Below wB.heap.size wB X)=>(⟨(hurd X hb).2.2.2,drow_ld (HD.out X (bx hB.out hb)).2.2.1⟩:ldR Tryz.prog 79 (.pointer (some ⟨go,q*2,none⟩)) X= .ok (.agg #[.slice b1 u.length d1,.slice b2 u.length d2]) X∧ldR Tryz.prog 79 (.pointer (some ⟨w2.heap.size,0,none⟩)) X= .ok (.agg #[.slice a1 i c1,.slice a2 i c2]) X))
              have j0:(0:Int)≤(q:Int):=by omega
              have j1:(q:Int)< (k:Int):=by omega
              have j2:IntKind.i64.wrap ((k:Int)-1)=(q:Int):=by
               rw[IntWalk.i64_in _ (by have:=HK.out.1;constructor<;>omega)];omega
              have j3:decide ((k:Int)>0)=true:=decide_eq_true (by omega)
              have j4:(k:Int)>0:=by omega
              have j5:decide (0<k)=true:=decide_eq_true (by omega)
              have j6:0<k:=by omega
              obtain⟨z1,z2⟩:=KL.out wB.drew (by(repeat(first | exact Below.refl _ _ | (refine ba ?_ _) | (refine Below.drew ?_) | (refine below_drewN ?_ _) | (refine Below.alloc ?_ (by first | omega | (simp;done) | (simp;omega)) _) | (refine Below.setCell ?_ (by first | omega | (simp;done) | (simp;omega)) _) | (refine bx ?_ (by assumption)) | (refine Below.trans ?_ (Below.mono (by assumption) (by first | omega | (simp;done) | (simp;omega)))))))
              obtain⟨ul,hul2⟩: ∃ul,ul=u.length:=⟨_,rfl⟩
              rw[←hul2] at LD KL z1
              clear hul2 hul hurd hu hq hk0 hoc
              refine wp_region_still_tail 11 (by kernel_rfl) (by kernel_rfl) ?_
              simp only[List.take_succ_cons,List.take_zero,List.drop_succ_cons,List.drop_zero]
              iterate 11 (with_reducible refine wpStill_want ?_ (fun K hK=> ?_);(· kernel_rfl);go_simp;with_reducible refine hK _ ?_;clear hK K)
              with_reducible refine wpStill_nil ?_
              change wpList _ _ _ _ _ wB.drew
              have hbd:Below wB.heap.size wB wB.drew:=⟨rfl,rfl,rfl,Nat.le_refl _,fun _ _=>rfl⟩
              have LDD:=hid (LD.out _ hbd)
              generalize wB.drew=W7 at hbd LDD ⊢
              have HB7:=hid hbd
              clear hbd z1 z2
              go_wp2_with fail
              refine LDD.out.mono ?_
              rintro e w8 ⟨hb8,bb,rfl,hbb⟩
              have HB8:=hid (bx HB7.out hb8)
              have HBB:=hid hbb
              clear hbb hb8
              go_wp2_with fail
              go_meet
              exact⟨!bb,rfl,HB8.out,⟨fun h u' hu'=>(by
               rw[HGL.out] at hu'
               injection hu' with hu'
               subst hu'
               exact HBB.out.1 (by simpa using h)),fun h=>by
               have:=HBB.out.2 (h u HGL.out)
               rw[this];rfl⟩⟩
            case rest=>
             obtain⟨b,rfl,hwc⟩:=hcut
             have HBC:=hid (bx hB.out hwc.out.1)
             cases b
             ·have HLD:=hid (hwc.out.2.1 rfl)
              clear hwc
              obtain⟨q1,q2,q3,q4⟩:=HD.out wc HBC.out
              have hrl:i=row.length:=HR.out.2.1
              have hwA:w.heap.size≤wA.heap.size:=hI.out.bel.size
              have q5:RowD wc w.heap.size (.slice a1 row.length c1) (.slice a2 row.length c2) row:=by
               rw[←hrl]
               exact⟨q4.at'.mono hwA,q4.nd.mono hwA⟩
              obtain⟨va,vc,w9,hrun,hrd,ho⟩:=q1.push q5 q2.size (by have:=HK.out.1;have:=hI.out.kl;omega)
              rw[←hrl,←hI.out.kl] at hrun
              rw[←hI.out.kl] at hrd
              have hld:=drow_ld q3
              have hbs:=drow_row a1 a2 i c1 i c2 wc
              have hoA: ∀q∈(Value.slice oa k oc).ownBlock.toList,q<wA.heap.size:=fun q hq=>HOA.out q (by simpa[Option.mem_toList] using hq)
              have k9:=ho.blk q3 (fun hm=>by have:=hoA _ hm;have:=HSZ.out;omega)
              have r9:=q4.only ho (fun q hq=>Or.inl (hoA q hq))
              obtain⟨x,hx⟩: ∃x,row[0]?=some x:=by
               have hne:=HNE.out HLD.out
               cases row with
               | nil=>exact absurd rfl hne
               | cons y r=>exact⟨y,rfl⟩
              obtain⟨g2,e2,hc2,hcell⟩:=r9.node hrl hx
              subst e2
              have y16b:w9.cell? ⟨w2.heap.size,1,none⟩=some (.slice (some ⟨g2,0,none⟩) i c2):=k9.cell 1
              have yfi:w9.cell? ⟨g2,4,none⟩=some (.int .u64 x.2.fi):=by have:=hcell 4 (by omega);rw[Nat.zero_mul,Nat.zero_add] at this;exact this
              have hi0:(0:Int)< (i:Int):=by have:=(List.getElem?_eq_some_iff.1 hx).1;omega
              have wl:IntKind.i64.wrap (lev-1)=lev-1:=by rw[IntWalk.i64_in _ (by have:=HK.out;constructor<;>omega)]
              have b9:=q2.trans (ho.below (B:=w.heap.size) (fun q hq=>HOB.out q (by simpa[Option.mem_toList] using hq)) q2.size)
              obtain⟨p',hw'⟩:=HR.out.1.whole
              have hnx:=(hw'.at' x (List.mem_of_getElem? hx)).2.1
              have HN2:Hid (RwI bs w nd.lv ro (rows++[row]) (k+1) x.2.fi (lev-1) (.slice va (k+1) vc) w9):=by
               refine hid ⟨?_,by rw[List.length_append,hI.out.kl];rfl,by have:=hI.out.few;omega,hI.out.L15,hI.out.ro0,fun e=>absurd e (by simp),node_U H.out.2.1 hnx,hrd,b9,fun r hr=> ?_⟩
               ·by_cases h0:lev=0
                ·right
                 have h1:=HR.out.1
                 have h2:=HRT.out
                 subst h0
                 exact⟨by omega,h2.done h1 HMR.out HLD.out⟩
                ·left
                 refine⟨by have:=HK.out;omega,?_⟩
                 cases row with
                 | nil=>cases hx
                 | cons y r=>
                  simp at hx
                  subst hx
                  exact HRT.out.next HR.out.1 HMR.out HLD.out h0 rfl
               ·rcases List.mem_append.1 hr with h | h
                ·exact hI.out.len r h
                ·rw[List.mem_singleton.1 h,←hrl];exact HR.out.2.2
              have HME:Hid ((lev-1+1).toNat< (lev+1).toNat):=hid (by have:=HK.out;omega)
              clear q1 q2 q3 q4 q5 hrd ho hoA k9 r9 hx hcell hnx hw' hwA b9 hrl hc2
              go_wp2
              go_roundw
              case rel=>exact⟨va,vc,k+1,rows++[row],x.2.fi,lev-1,rfl,rfl,rfl,HN2⟩
              case measure=>simp only[intOf,wl];exact HME.out
             ·have HF:=hid (HNO.out wc (HD.out wc HBC.out).2.1 (HNOS.out (HRT.out.no fun row' h=>by
               have e:=h.1.det HR.out.1
               subst e
               have:=hwc.out.2.2 h.2.2
               cases this)))
              clear hwc
              go_wp2
              go_ret2
              exact HF.out
         ·obtain⟨W3,hst3,k16,hb3⟩:=drow_new w2 a1 a2 n1 c1 n2 c2
          have HF:=hid (HNO.out W3 (bx (bx hI.out.bel hb2) hb3) (HNOS.out (HRT.out.no fun row h=>hno row h.1)))
          clear hb2 hb3 k16 hno
          go_wp2
          go_ret2
          exact HF.out
        ·have t0: ¬lev≥0:=hlv
         have HF:Hid (DRwPost bs w (.returned (.tuple #[.slice oa k oc,.bool true])) wA):=by
          have h1:RowsAt (nodeI bs) nd.lv ro none rows:=hI.out.st.elim (fun h=>by omega) (fun h=>h.2)
          have h2:=hI.out.kl
          subst h2
          exact hid ⟨hI.out.bel,Or.inl ⟨rows,oa,oc,HOKS.out _ h1,rfl,hI.out.rd⟩⟩
         clear hlv
         go_wp2
         go_ret2
         exact HF.out
     ·have hmy':mayZ sz ro n=false:=by simpa using hmy
      rw[hmy'] at MY
      have HNR:=hid (fun rs=>show ¬RowsOK bs rs from fun h=>hmy (by rw[HSR.out.1,HSR.out.2.1,HN.out];exact h.2.1.2))
      clear hmy hmy'
      go_wp2_with fail
      refine(MY.out _).mono ?_
      rintro e w8 ⟨rfl,hb8⟩
      have HB8:=hid (bx HB7.out.1 hb8)
      clear hb8
      go_wp2
      go_ret2
      exact HNO.out _ HB8.out HNR.out
    ·have SO:Hid (Calls Tryz.prog 93 #[.agg (arr8C (wAt bs))] wA fun en w'=>en= .returned (.tuple #[.agg #[.int .u64 0,.int .u64 0],.int .i64 6])∧Below wA.heap.size wA w'):=hid (ROf_no _ _ _ _ _ _ _ _ wA (HU.out 1 (by omega)).1 (HU.out 1 (by omega)).2 (HU.out 3 (by omega)).1 (HU.out 3 (by omega)).2 (by simpa using hwk))
     have HNR:=hid (fun rs=>show ¬RowsOK bs rs from fun h=>hwk h.2.1.1)
     clear hwk
     go_wp2_with fail
     refine SO.out.mono ?_
     rintro e w6 ⟨rfl,hb6⟩
     have HB6:=hid (bx HB.out hb6)
     clear hb6 hld
     go_wp2
     go_ret2
     exact HNO.out _ (by refine bx HB6.out ?_;(repeat(first | exact Below.refl _ _ | (refine ba ?_ _) | (refine Below.drew ?_) | (refine below_drewN ?_ _) | (refine Below.alloc ?_ (by first | omega | (simp;done) | (simp;omega)) _) | (refine Below.setCell ?_ (by first | omega | (simp;done) | (simp;omega)) _) | (refine bx ?_ (by assumption)) | (refine Below.trans ?_ (Below.mono (by assumption) (by first | omega | (simp;done) | (simp;omega))))))) HNR.out
 ·have HNR:=hid (fun rs=>show ¬RowsOK bs rs from fun h=>hok (fun i h1 h2=>h.1.2 i h1 (by have:=HNS.out.1;omega)))
  have HEX:Hid (∃i,1≤i∧i≤ns∧headOK bs i=false):=by
   refine hid (Classical.byContradiction fun hc=>hok fun i h1 h2=> ?_)
   cases hb:headOK bs i with
   | true=>rfl
   | false=>exact absurd ⟨i,h1,h2,hb⟩ hc
  clear hn hs h hsl hns hok
  go_enter Tryz.func24,Tryz.ntmps24
  go_wp2_with fail
  refine OF.out.mono ?_
  intro e w1 hp
  obtain rfl:=hp.no HEX.out
  have HB1:=hid hp.bel
  clear hp
  go_wp2
  go_ret2
  exact⟨HB1.out,Or.inr ⟨HNR.out,rfl⟩⟩
end Go.Proofs.YtibiekfjbibpbaaGreat
