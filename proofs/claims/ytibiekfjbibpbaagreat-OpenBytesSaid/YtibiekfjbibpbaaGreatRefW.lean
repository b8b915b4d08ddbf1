/- The document's blocks of any bytes: leveeref06.Of. -/
import Derived.Test.YtibiekfjbibpbaaGreatRefV
set_option maxRecDepth 100000
set_option maxHeartbeats 4000000
set_option linter.unusedVariables false
set_option linter.unusedSimpArgs false
namespace Go.Proofs.YtibiekfjbibpbaaGreat
open Go.RowKit
attribute [local go_sem ↓ high] builtin_append_shut
attribute [local go_sem] appM_run
theorem info_blk:(Tryz.prog.info? 235).map (fun i=>(i.zero,i.size,i.bytes))=some (some (.agg #[.int .u64 0,.int .i64 0]),2,16):=by kernel_rfl
structure ROfPost (w:World) (bs:List Int) (n N:Nat) (e:Ending) (W':World):Prop where
 yes:(∀i,1≤i→i≤n→headOK bs i=true)→ ∃g vC vL,e= .returned (.tuple #[.pointer (some ⟨g,0,none⟩),.int .i64 0])∧WorldIs W' w.heap.size g (N:Int) (refC bs n) (refL bs n) vC vL
 no:(∃i,1≤i∧i≤n∧headOK bs i=false)→e= .returned (.tuple #[.pointer none,.int .i64 6])
 bel:Below w.heap.size w W'
structure ROfI (w:World) (bs:List Int) (n N g k:Nat) (W:World):Prop where
 wo: ∃vC vL,WorldIs W w.heap.size g (N:Int) (refC bs k) (refL bs k) vC vL
 ok: ∀i,1≤i→i≤k→headOK bs i=true
 bel:Below w.heap.size w W
structure ROfJ (w:World) (bs:List Int) (N g k ZS Z3:Nat) (W3:World) (pre:List (Fin 64)) (W:World):Prop where
 wo: ∃vC vL,WorldIs W w.heap.size g (N:Int) (refC bs (k+1)) (refL bs k++refLi bs k pre) vC vL∧ ∀x,vL.ownBlock=some x→x<ZS∨Z3≤x
 bel:Below w.heap.size w W
 keep: ∀x,ZS≤x→x<Z3→W.heap[x]?=W3.heap[x]?
 sz:Z3≤W.heap.size
theorem refL_len (bs:List Int) (k:Nat):(refL bs k).length≤64*k:=by
 induction k with
 | zero=>simp[refL]
 | succ k ih=>
  rw[refL_succ,List.length_append]
  have:(refLi bs k (setBits (bitAt bs (k+1)))).length≤64:=by
   unfold refLi
   rw[List.length_map]
   exact bitsTo_length (bitAt bs (k+1)) 64
  omega
theorem ROf_r (p:Option Addr) (cap:Nat) (bs:List Int) (n:Nat) (hn:1≤n∧n≤64) (hl:bs.length=1024*(n+1)) (w:World) (h:BytesIn w p cap bs):
  Calls Tryz.prog 39 #[.slice p bs.length cap] w fun e W'=>ROfPost w bs n bs.length e W':=by
 have hs:slabsZ (bs.length:Int)=(n:Int):=by unfold slabsZ;rw[if_pos (by omega)];omega
 have hS:=RSlabs_z (bs.length:Int) w
 rw[hs] at hS
 have t0:((n:Int)==0)=false:=by simp;omega
 have hn:=hid hn
 obtain⟨N,hN⟩: ∃N,N=bs.length:=⟨_,rfl⟩
 rw[←hN] at hl hS ⊢
 have HS:=hid hS
 have HN:=hid hN
 have HL:=hid hl
 have H:=hid h
 clear h hS hs hN hl
 obtain⟨iI,hiI,zI0,zI1,zI2⟩:=info_parts info_int
 obtain⟨iB,hiB,zB0,zB1,zB2⟩:=info_parts info_blk
 go_enter Tryz.func39,Tryz.ntmps39
 go_wp2_with fail
 refine(HS.out).mono ?_
 rintro e w1 ⟨rfl,rfl⟩
 go_wp2_with fail
 generalize hW:World.alloc w (Obj.cells #[Value.int IntKind.i64 ↑N,Value.slice none 0 0,Value.slice none 0 0] 230)=W0
 have HI0:Hid (ROfI w bs n N w.heap.size 0 W0):=by
  refine⟨⟨.slice none 0 0,.slice none 0 0,?_⟩,fun i h1 h2=>by omega,by rw[←hW];exact ba (Below.refl _ _) _⟩
  rw[←hW]
  exact⟨Blk.new _ _ _,World.ownsRow_nil _ _ _ _,World.ownsRow_nil _ _ _ _,Nat.le_refl _,by simp[Value.ownBlock],by simp[Value.ownBlock],by simp[Value.ownBlock]⟩
 obtain⟨g,hg⟩: ∃g,g=w.heap.size:=⟨_,rfl⟩
 rw[←hg]
 rw[←hg] at HI0
 clear hW hg
 go_loopw [6] (fun i wr=> ∃k:Nat,k≤n∧i= .int .i64 ((k:Int)+1)∧Hid (ROfI w bs n N g k wr)) (fun i _=>(n+1- (intOf i).toNat))
 case atStart=>exact⟨0,by omega,rfl,HI0⟩
 case round=>
  obtain⟨k,hk,rfl,hI⟩:=hrel
  by_cases hlt:k<n
  ·have i1:(k:Int)+1≤(n:Int):=by omega
   have HLT:=hid hlt
   obtain⟨ha,hha⟩: ∃ha,ha=1024*(k+1):=⟨_,rfl⟩
   obtain⟨hb,hhb⟩: ∃hb,hb=1024*(k+1)+8:=⟨_,rfl⟩
   obtain⟨cv,hcv⟩: ∃cv,cv=clsAt bs (k+1):=⟨_,rfl⟩
   obtain⟨bv,hbv⟩: ∃bv,bv=bitAt bs (k+1):=⟨_,rfl⟩
   have hn':=hn.out
   have e1:1024*((k:Int)+1)=(ha:Int):=by omega
   have e2:(ha:Int)+8=(hb:Int):=by omega
   have b1:(ha:Int)≤65536:=by omega
   have b2:(k:Int)+1≤64:=by omega
   have hT1: ∀W',Below w.heap.size w W'→Calls Tryz.prog 126 #[.slice p N cap,.int .i64 (ha:Int)] W' fun e w'=>e= .returned (.int .u64 (cv:Int))∧W'=w':=by
    intro W' hb'
    have hbi:=bytesBel H.out hb'
    have hlen:=HN.out
    have:=Take_r p cap bs ha (by have:=HL.out;omega) (by have:=HL.out;omega) W' hbi
    rw[←hlen] at this
    have hc2:leW ((bs.drop ha).take 8)=(cv:Int):=by
     rw[hcv,hha];exact(Int.toNat_of_nonneg (leW_bounds (bs:=(bs.drop (1024*(k+1))).take 8) (fun x hx=>H.out.2.1 x (List.mem_of_mem_drop (List.mem_of_mem_take hx)))).1).symm
    rw[hc2] at this
    exact this
   have hT2: ∀W',Below w.heap.size w W'→Calls Tryz.prog 126 #[.slice p N cap,.int .i64 (hb:Int)] W' fun e w'=>e= .returned (.int .u64 (bv:Int))∧W'=w':=by
    intro W' hb'
    have hbi:=bytesBel H.out hb'
    have hlen:=HN.out
    have:=Take_r p cap bs hb (by have:=HL.out;omega) (by have:=HL.out;omega) W' hbi
    rw[←hlen] at this
    have hc2:leW ((bs.drop hb).take 8)=(bv:Int):=by
     rw[hbv,hhb];exact(Int.toNat_of_nonneg (leW_bounds (bs:=(bs.drop (1024*(k+1)+8)).take 8) (fun x hx=>H.out.2.1 x (List.mem_of_mem_drop (List.mem_of_mem_take hx)))).1).symm
    rw[hc2] at this
    exact this
   have hbl:bv<18446744073709551616:=by
    have:=leW_bounds (bs:=(bs.drop (1024*(k+1)+8)).take 8) (fun x hx=>H.out.2.1 x (List.mem_of_mem_drop (List.mem_of_mem_take hx)))
    have h2:((bs.drop (1024*(k+1)+8)).take 8).length≤8:=by simp;omega
    have h3:(2:Int)^ (8*((bs.drop (1024*(k+1)+8)).take 8).length)≤2^64:=by
     have h4:=Nat.pow_le_pow_right (n:=2) (by omega) (show 8*((bs.drop (1024*(k+1)+8)).take 8).length≤64 by omega)
     exact_mod_cast h4
    have h5:((2:Int)^64)=18446744073709551616:=by decide
    have:(bv:Int)<18446744073709551616:=by
     rw[hbv];unfold bitAt;rw[Int.toNat_of_nonneg this.1];omega
    omega
   have T1:=hid hT1
   have T2:=hid hT2
   have HCV:=hid hcv
   have HBV:=hid hbv
   have HBL:=hid hbl
   have HK:=hid hk
   have hc0:(0:Int)≤(cv:Int):=by omega
   clear hT1 hT2 hcv hbv hbl hha hhb hlt hk hn'
   go_wp2_with fail
   refine(T1.out wr hI.out.bel).mono ?_
   rintro e w1 ⟨rfl,rfl⟩
   go_wp2_with fail
   refine(T2.out wr hI.out.bel).mono ?_
   rintro e w1 ⟨rfl,rfl⟩
   by_cases hc3:(cv:Int)>3
   ·have hno:Hid (headOK bs (k+1)=false):=by
     show _=_
     unfold headOK
     rw[←HCV.out,decide_eq_false (by omega)];rfl
    go_wp2
    go_ret2
    exact⟨fun hall=>absurd (hall (k+1) (by omega) HLT.out) (by rw[hno.out];decide),fun _=>rfl,hI.out.bel⟩
   ·have hw3:IntKind.i64.wrap (cv:Int)=(cv:Int):=by rw[IntKind.wrap_i64];omega
    go_wp2_with fail
    refine(RBlocks_z (cv:Int) wr).mono ?_
    rintro e w1 ⟨rfl,rfl⟩
    go_wp2_with fail
    refine(RMay_r bv (blocksZ (cv:Int)) HBL.out wr).mono ?_
    rintro e W2 ⟨rfl,hb2⟩
    cases hm:mayBits bv (blocksZ (cv:Int))
    ·have hno:Hid (headOK bs (k+1)=false):=by
      show _=_
      unfold headOK
      rw[←HCV.out,←HBV.out,hm,Bool.and_false]
     have HB2:=hid (hI.out.bel.trans (hb2.mono hI.out.bel.size))
     clear hb2
     go_wp2
     go_ret2
     exact⟨fun hall=>absurd (hall (k+1) (by omega) HLT.out) (by rw[hno.out];decide),fun _=>rfl,HB2.out⟩
    ·have hyes:Hid (headOK bs (k+1)=true):=by
      show _=_
      unfold headOK
      rw[←HCV.out,←HBV.out,hm,decide_eq_true (by omega)];rfl
     obtain⟨vC,vL,hwo⟩:=hI.out.wo
     have hwo2:=hwo.bel hb2
     have hbel2:=hI.out.bel.trans (hb2.mono hI.out.bel.size)
     have yc:W2.cell? ⟨g,1,none⟩=some vC:=hwo2.blk.cell 1
     have hcl:(refC bs k).length=k:=by unfold refC;simp
     have hrc:=hwo2.rc.alloc (.cells #[.int .i64 (cv:Int)] 3)
     obtain⟨vC',w9,hrun,hown9,hgr9,_,hob9⟩:=run_append_own_at (P:=Tryz.prog) (W2.alloc (.cells #[.int .i64 (cv:Int)] 3)) w.heap.size 227 227 3 iI (.int .i64 0) 1 8 Tryz.underlying227 hiI zI0 zI1 zI2 rfl (by decide) _ _ _ hrc ⟨W2.heap.size,0,none⟩ 1 1 [.int .i64 (cv:Int)] rfl (World.news_of_block (Blk.new W2 3 #[.int .i64 (cv:Int)])) (by simp[Value.oneCell']) (by rw[hcl];unfold maxLen;have:=HK.out;have:=hn.out;omega) (by rw[hcl];have:=HK.out;have:=hn.out;omega) (by have:=hbel2.size;simp;omega)
     obtain⟨a9,c9,rfl⟩:=rowForm hown9
     have hrun2:appRun Tryz.prog #[227,227] 227 #[vC,.slice (some ⟨W2.heap.size,0,none⟩) 1 1] (W2.alloc (.cells #[.int .i64 (cv:Int)] 3))= .ok (.slice a9 ((refC bs k).length+1) c9) w9:=hrun
     have hadd:=hwo2.addC (c:=(cv:Int)) hbel2.size (ba (Below.refl _ _) _) hown9 hgr9 hob9
     have yc9:w9.cell? ⟨g,1,none⟩=some vC:=by
      have h1:Blk w9 g 230 #[.int .i64 (N:Int),vC,vL]:=(hwo2.blk.alloc (.cells #[.int .i64 (cv:Int)] 3)).grown hgr9 (fun e=>hwo2.nc e.symm)
      exact h1.cell 1
     have yf9:w9.frozen? ⟨g,1,none⟩=false:=by
      have h1:Blk w9 g 230 #[.int .i64 (N:Int),vC,vL]:=(hwo2.blk.alloc (.cells #[.int .i64 (cv:Int)] 3)).grown hgr9 (fun e=>hwo2.nc e.symm)
      exact h1.frozen 1
     have HADD:=hid hadd
     have HBEL2:=hid hbel2
     clear hrun hown9 hgr9 hob9 hadd hrc hwo hwo2 hbel2 hcl hb2
     go_wp2_with fail
     generalize hWS:w9.setCell ⟨g,1,none⟩ _=WS
     rw[hWS] at HADD
     clear hWS yc9 yf9 yc
     refine(RBits_r bv HBL.out WS).mono ?_
     rintro e W3 ⟨vB,rfl,hvB,hbS⟩
     obtain⟨aB,cB,rfl⟩:=rowForm hvB
     have hbS0:Below w.heap.size w WS:=HBEL2.out.trans HADD.out.2
     have HJ0:Hid (ROfJ w bs N g k WS.heap.size W3.heap.size W3 ((setBits bv).take 0) W3):=by
      refine⟨⟨_,vL,by rw[refC_succ,←HCV.out];simpa[refLi] using HADD.out.1.bel hbS,fun x hx=>Or.inl (own_lt HADD.out.1.rl x hx)⟩,hbS0.trans (hbS.mono hbS0.size),fun _ _ _=>rfl,Nat.le_refl _⟩
     obtain⟨L,hL⟩: ∃L,L=(setBits bv).length:=⟨_,rfl⟩
     have hL64:L≤64:=by rw[hL];exact bitsTo_length bv 64
     rw[←hL] at hvB ⊢
     have HVB:=hid hvB
     have HLL:=hid hL
     have HSZ:=hid hbS.size
     have HS0:=hid hbS0.size
     have HGS:=hid HADD.out.1.blk.lt
     clear hvB hbS hbS0 hL HADD
     go_wp2
     go_loopw [10] (fun i W'=> ∃t:Nat,t≤L∧i= .int .i64 t∧Hid (ROfJ w bs N g k WS.heap.size W3.heap.size W3 ((setBits bv).take t) W')) (fun i _=>(L- (intOf i).toNat))
     case atStart=>exact⟨0,by omega,rfl,HJ0⟩
     case round=>
      obtain⟨t,ht,rfl,hJ⟩:=hrel
      by_cases htl:t<L
      ·have j1:(t:Int)< (L:Int):=by omega
       have j0:(0:Int)≤(t:Int):=by omega
       obtain⟨x,hx⟩: ∃x,(setBits bv)[t]?=some x:=⟨_,List.getElem?_eq_getElem (by have:=HLL.out;omega)⟩
       have htk:Hid ((setBits bv).take (t+1)=(setBits bv).take t++[x]):=by
        obtain⟨h1,h2⟩:=List.getElem?_eq_some_iff.1 hx
        show _=_
        rw[List.take_succ_eq_append_getElem h1,h2]
       rcases HVB.out.2 with⟨hv1,hv2⟩ | ⟨gB,capB,curB,hv1,hgB,hhB,hcB,hmB,hsB,htB⟩
       ·omega
       ·cases hv1
        have hgl:gB<W3.heap.size:=(Array.getElem?_eq_some_iff.1 hhB).1
        have hhB2:wr.heap[gB]?=some (.cells curB 3 (0,0)):=(hJ.out.keep gB hgB hgl).trans hhB
        have yb:wr.drew.cell? ⟨gB,t,none⟩=some (.int .i64 (x.val:Int)):=by
         have h1:(curB.toList.take (L*1))[t]?=some (bitV x):=by rw[htB,List.getElem?_map,hx];rfl
         rw[List.getElem?_take,if_pos (by omega)] at h1
         show wr.cell? ⟨gB,t,none⟩=_
         rw[cell_of_row wr gB t curB _ _ hhB2]
         simpa[bitV] using h1
        obtain⟨vC1,vL1,hwo1,hL1⟩:=hJ.out.wo
        obtain⟨a,hae⟩: ∃a,a=blockZ ((k:Int)+1) (cv:Int) (x.val:Int):=⟨_,rfl⟩
        have yl:wr.drew.cell? ⟨g,2,none⟩=some vL1:=hwo1.blk.cell 2
        have hlen:(refL bs k++refLi bs k ((setBits bv).take t)).length≤64*66:=by
         have h1:=refL_len bs k
         have h2:=HK.out
         have h3:=hn.out
         rw[List.length_append]
         unfold refLi
         rw[List.length_map,List.length_take]
         omega
        have hbel1:=hJ.out.bel
        have hb01:Below wr.heap.size wr (wr.alloc (.cells #[.int .u64 a,.int .i64 2] 235)).drew:=(ba (Below.refl _ _) _).drew
        have yl2:(wr.alloc (.cells #[.int .u64 a,.int .i64 2] 235)).drew.cell? ⟨g,2,none⟩=some vL1:=(hb01.cell (p:=⟨g,2,none⟩) hwo1.blk.lt).trans yl
        have yb2:(wr.alloc (.cells #[.int .u64 a,.int .i64 2] 235)).drew.cell? ⟨gB,t,none⟩=some (.int .i64 (x.val:Int)):=(hb01.cell (p:=⟨gB,t,none⟩) (Array.getElem?_eq_some_iff.1 hhB2).1).trans yb
        obtain⟨vL',w8,hrun,hown8,hgr8,_,hob8⟩:=run_append_own_at (P:=Tryz.prog) (wr.alloc (.cells #[.int .u64 a,.int .i64 2] 235)).drew w.heap.size 228 228 235 iB (.agg #[.int .u64 0,.int .i64 0]) 2 16 Tryz.underlying228 hiB zB0 zB1 zB2 rfl (by decide) _ _ _ (hwo1.bel hb01).rl ⟨wr.heap.size,0,none⟩ 1 1 [.int .u64 a,.int .i64 2] rfl (World.news_of_block (Blk.new wr 235 #[.int .u64 a,.int .i64 2])) (by simp[Value.oneCell']) (by unfold maxLen;omega) (by omega) (by have:=hbel1.size;simp;omega)
        obtain⟨a8,c8,rfl⟩:=rowForm hown8
        obtain⟨LL,hLLe⟩: ∃LL,LL=(refL bs k++refLi bs k ((setBits bv).take t)).length:=⟨_,rfl⟩
        rw[←hLLe] at hrun hown8 hob8
        have hrun2:appRun Tryz.prog #[228,228] 228 #[vL1,.slice (some ⟨wr.heap.size,0,none⟩) 1 1] (wr.alloc (.cells #[.int .u64 a,.int .i64 2] 235)).drew= .ok (.slice a8 (LL+1) c8) w8:=hrun
        have hadd:=hwo1.addL (x:=(a,2)) hbel1.size hb01 (by rw[←hLLe];exact hown8) hgr8 hob8
        have hb8:Blk w8 g 230 #[.int .i64 (N:Int),vC1,vL1]:=(hwo1.bel hb01).blk.grown hgr8 (fun e=>hwo1.nl e.symm)
        have yl8:w8.cell? ⟨g,2,none⟩=some vL1:=hb8.cell 2
        have yf8:w8.frozen? ⟨g,2,none⟩=false:=hb8.frozen 2
        have hgk:g<WS.heap.size:=HGS.out
        have hJ':ROfJ w bs N g k WS.heap.size W3.heap.size W3 ((setBits bv).take (t+1)) (w8.setCell ⟨g,2,none⟩ (.slice a8 (LL+1) c8)):=by
         refine⟨⟨vC1,.slice a8 (LL+1) c8,?_,fun y hy=> ?_⟩,hbel1.trans hadd.2,fun y hy1 hy2=> ?_,?_⟩
         ·rw[htk.out]
          have:refL bs k++refLi bs k ((setBits bv).take t++[x])=(refL bs k++refLi bs k ((setBits bv).take t))++[(a,2)]:=by
           unfold refLi
           rw[List.map_append,←List.append_assoc,hae,HCV.out];rfl
          rw[this]
          exact hadd.1
         ·rcases hob8 with e | e
          ·exact hL1 y (by rw[←e];exact hy)
          ·rw[e] at hy
           injection hy with hy
           have:=hJ.out.sz
           simp at hy
           omega
         ·have hyw:y<wr.heap.size:=Nat.lt_of_lt_of_le hy2 hJ.out.sz
          have h1:(w8.setCell ⟨g,2,none⟩ (.slice a8 (LL+1) c8)).heap[y]?=w8.heap[y]?:=Below.heap_setCell w8 ⟨g,2,none⟩ _ y (by show y≠g;omega)
          have h2:=hgr8.block y (Nat.lt_of_lt_of_le hyw hb01.size) (fun e=>by rcases hL1 y e.symm with h | h<;>omega)
          exact h1.trans (h2.trans ((hb01.block y hyw).trans (hJ.out.keep y hy1 hy2)))
         ·have:=hgr8.size
          have h2:=hb01.size
          have h3:=hJ.out.sz
          simp[World.setCell]
          omega
        have HJ':=hid hJ'
        have HRUN:=hid hrun
        have hRB:=RBlock_z ((k:Int)+1) (cv:Int) (x.val:Int)
        rw[←hae] at hRB
        have HRB:=hid hRB
        have HGW:=hid hwo1.blk.lt
        clear hrun hrun2 hown8 hgr8 hob8 hadd hb8 hJ' hRB hae hwo1 hL1 hlen hJ hbel1 hb01 hhB hhB2 htB hsB hmB hcB hgB hx hLLe
        go_wp2_with fail
        refine share (X:= ?X) (fun key=> ?_) ?_
        rotate_left
        ·go_region_law (first
          | (refine step_append_runI rfl (.tmp 67) (.tmp 77) 228 228 rfl _ _ (by simp[Act.eval,Act.put]) (by simp[Act.eval,Act.put]) HRUN.out ?_)
          | (go_simp;go_at_call 130;(with_reducible refine(HRB.out _).mono ?_);rintro e w5 ⟨rfl,rfl⟩))
         all_goals
          try go_simp
          try simp only[Act.put,List.setIfInBounds_toArray,List.set_cons_zero,List.set_cons_succ]
          exact key.out
        go_wp2
        go_roundw
        case rel=>exact⟨t+1,by omega,by go_num,HJ'⟩
        case measure=>simp[intOf];omega
      ·obtain rfl:t=L:=by omega
       have htk:(setBits bv).take t=setBits bv:=List.take_of_length_le (by have:=HLL.out;omega)
       obtain⟨vC1,vL1,hwo1,_⟩:=hJ.out.wo
       have HI':Hid (ROfI w bs n N g (k+1) wr):=by
        refine⟨⟨vC1,vL1,by rw[refL_succ];rw[htk] at hwo1;rw[HBV.out] at hwo1;exact hwo1⟩,fun i h1 h2=> ?_,hJ.out.bel⟩
        by_cases e:i=k+1
        ·rw[e];exact hyes.out
        ·exact hI.out.ok i h1 (by omega)
       clear hwo1 htk hJ
       go_wp2
       go_roundw
       case rel=>exact⟨k+1,HLT.out,by go_num,HI'⟩
       case measure=>simp[intOf];have:=HLT.out;omega
  ·obtain rfl:k=n:=by omega
   obtain⟨vC,vL,hwo⟩:=hI.out.wo
   have HWO:=hid hwo
   have i1: ¬((k:Int)+1≤(k:Int)):=by omega
   clear hwo
   go_wp2
   go_ret2
   exact⟨fun _=>⟨g,vC,vL,rfl,HWO.out⟩,fun⟨i,h1,h2,h3⟩=>absurd (hI.out.ok i h1 h2) (by rw[h3];decide),hI.out.bel⟩
end Go.Proofs.YtibiekfjbibpbaaGreat
