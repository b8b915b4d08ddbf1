import Derived.Test.YtjmaicckkkdjpaaGreatF03
import Derived.Test.YtjmaicckkkdjpaaGreatF53
/- A node's words (the document's), walked; a node laid into an arena. -/
set_option maxRecDepth 100000
set_option maxHeartbeats 2000000
set_option linter.unusedVariables false
set_option linter.unusedSimpArgs false
namespace Go.Proofs.YtjmaicckkkdjpaaGreat
open Go.RowKit
section
def nWords (nd:NodeA):Nat→Int:=fun i=>match i with
 | 0=>tagN+nd.lv
 | 1=>nd.low
 | 2=>nd.nx
 | 3=>nd.ct
 | 4=>nd.fi
 | 5=>0
 | 6=>0
 | 7=>0
 | i+8=>if i % 2=0 then nd.k (i/2) else nd.p (i/2)
def wordsTo (nd:NodeA) (j:Nat):Nat→Int:=fun i=>if i<8+2*j then nWords nd i else 0
theorem wordsTo_next (nd:NodeA) {j a b:Nat} (h:j<8) (ha:a=8+2*j) (hb:b=9+2*j):((wordsC (wordsTo nd j)).setIfInBounds a (.int .u64 (nd.k j))).setIfInBounds b (.int .u64 (nd.p j))=wordsC (wordsTo nd (j+1)):=by
 subst ha;subst hb
 rcases(by omega:j=0∨j=1∨j=2∨j=3∨j=4∨j=5∨j=6∨j=7) with rfl | rfl | rfl | rfl | rfl | rfl | rfl | rfl<;>rfl
theorem wordsTo_0 (nd:NodeA):(((((wordsC (fun _=>0)).setIfInBounds 0 (.int .u64 (tagN+nd.lv))).setIfInBounds 1 (.int .u64 nd.low)).setIfInBounds 2 (.int .u64 nd.nx)).setIfInBounds 3 (.int .u64 nd.ct)).setIfInBounds 4 (.int .u64 nd.fi)=wordsC (wordsTo nd 0):=rfl
structure NdOK (nd:NodeA):Prop where
 lv:0≤nd.lv∧nd.lv≤15
 low:U64 nd.low
 nx:U64 nd.nx
 ct:U64 nd.ct
 fi:U64 nd.fi
 k: ∀i,U64 (nd.k i)
 p: ∀i,U64 (nd.p i)
theorem NdOK.words {nd:NodeA} (h:NdOK nd) (i:Nat):U64 (nWords nd i):=by
 have h0:U64 (0:Int):=⟨by omega,by omega⟩
 match i with
 | 0=>show U64 (tagN+nd.lv);have:=h.lv;unfold U64 tagN;constructor<;>omega
 | 1=>exact h.low
 | 2=>exact h.nx
 | 3=>exact h.ct
 | 4=>exact h.fi
 | 5=>exact h0
 | 6=>exact h0
 | 7=>exact h0
 | i+8=>show U64 (if i % 2=0 then nd.k (i/2) else nd.p (i/2));split;exact h.k _;exact h.p _
theorem arrLoadAt4 (v:Value):Instr.loadAt 179 v=ldM 179 v:=rfl
theorem arrStoreAt4 (p v:Value):Instr.storeAt 179 p v=stM 179 p v:=rfl
attribute [local go_sem ↓ high] arrLoadAt4 arrStoreAt4
attribute [local go_sem] ldM_run lvM_run stM_run
theorem arr_ld4 {w:World} {b:Nat} {f:Nat→Int} (h:Blk w b 179 (wordsC f)):ldR Tryz.prog 179 (.pointer (some ⟨b,0,none⟩)) w= .ok (.agg (wordsC f)) w:=h.ld Tryz.underlying179 rfl (by kernel_rfl)
theorem arr_lv4 {w:World} {b:Nat} {f:Nat→Int} (h:Blk w b 179 (wordsC f)):lvR Tryz.prog 179 ⟨b,0,none⟩ w= .ok (.agg (wordsC f)) w:=h.lv Tryz.underlying179 rfl (by kernel_rfl)
theorem arr_st4 {w:World} {b:Nat} {f g:Nat→Int} (h:Blk w b 179 (wordsC f)): ∃W',stR Tryz.prog 179 (.pointer (some ⟨b,0,none⟩)) (.agg (wordsC g)) w= .ok () W'∧Blk W' b 179 (wordsC g)∧Only [b] w W':=by
 refine⟨w.setRow b _,h.st (by kernel_rfl) rfl (by kernel_rfl),setRow_heap w b _ _ _ _ h,⟨rfl,rfl,rfl,by simp,fun x hx hn=>setRow_other w b x _ (by simpa using hn)⟩⟩
structure NWI (w:World) (nd:NodeA) (B B1 B2 j:Nat) (W:World):Prop where
 b0:Blk W B 77 (nodeC nd)
 b1:Blk W B1 179 (wordsC (fun _=>0))
 b2:Blk W B2 179 (wordsC (wordsTo nd j))
 bel:Below w.heap.size w W
theorem RNWords_z (nd:NodeA) (w:World) (h:NdOK nd):
  Calls Tryz.prog 79 #[.agg (nodeC nd)] w fun e w'=>e= .returned (.agg (wordsC (nWords nd)))∧Below w.heap.size w w':=by
 obtain⟨W1,hW1⟩: ∃W1,W1=(((w.alloc (.cells (nodeC nd) 77)).alloc (.cells #[.int .u64 0,.int .u64 0,.int .u64 0,.int .u64 0,.int .u64 0,.int .u64 0,.int .u64 0,.int .u64 0,.int .u64 0,.int .u64 0,.int .u64 0,.int .u64 0,.int .u64 0,.int .u64 0,.int .u64 0,.int .u64 0,.int .u64 0,.int .u64 0,.int .u64 0,.int .u64 0,.int .u64 0,.int .u64 0,.int .u64 0,.int .u64 0] 179)).alloc (.cells #[.int .u64 0,.int .u64 0,.int .u64 0,.int .u64 0,.int .u64 0,.int .u64 0,.int .u64 0,.int .u64 0,.int .u64 0,.int .u64 0,.int .u64 0,.int .u64 0,.int .u64 0,.int .u64 0,.int .u64 0,.int .u64 0,.int .u64 0,.int .u64 0,.int .u64 0,.int .u64 0,.int .u64 0,.int .u64 0,.int .u64 0,.int .u64 0] 179)):=⟨_,rfl⟩
 have hb1:Below w.heap.size w W1:=by rw[hW1];exact ba (ba (ba (Below.refl _ _) _) _) _
 have k0:Blk W1 w.heap.size 77 (nodeC nd):=by rw[hW1];exact((Blk.new _ _ _).alloc _).alloc _
 have k1:Blk W1 (w.heap.size+1) 179 (wordsC (fun _=>0)):=by
  rw[hW1]
  have:=Blk.new (w.alloc (.cells (nodeC nd) 77)) 179 (wordsC (fun _=>0))
  rw[World.size_alloc] at this
  exact this.alloc _
 have k2:Blk W1 (w.heap.size+2) 179 (wordsC (fun _=>0)):=by
  rw[hW1]
  have:=Blk.new ((w.alloc (.cells (nodeC nd) 77)).alloc (.cells (wordsC (fun _=>0)) 179)) 179 (wordsC (fun _=>0))
  rw[World.size_alloc,World.size_alloc] at this
  exact this
 obtain⟨B,hB⟩: ∃B,B=w.heap.size:=⟨_,rfl⟩
 have c0:W1.cell? ⟨w.heap.size,0,none⟩=some (.int .i64 nd.lv):=k0.cell 0
 have c1:W1.cell? ⟨w.heap.size,1,none⟩=some (.int .u64 nd.low):=k0.cell 1
 have c2:W1.cell? ⟨w.heap.size,2,none⟩=some (.int .u64 nd.nx):=k0.cell 2
 have c3:W1.cell? ⟨w.heap.size,3,none⟩=some (.int .u64 nd.ct):=k0.cell 3
 have c4:W1.cell? ⟨w.heap.size,4,none⟩=some (.int .u64 nd.fi):=k0.cell 4
 have d0:W1.cell? ⟨w.heap.size+2,0,none⟩=some (.int .u64 0):=k2.cell 0
 have d1:W1.cell? ⟨w.heap.size+2,1,none⟩=some (.int .u64 0):=k2.cell 1
 have d2:W1.cell? ⟨w.heap.size+2,2,none⟩=some (.int .u64 0):=k2.cell 2
 have d3:W1.cell? ⟨w.heap.size+2,3,none⟩=some (.int .u64 0):=k2.cell 3
 have d4:W1.cell? ⟨w.heap.size+2,4,none⟩=some (.int .u64 0):=k2.cell 4
 have f0:=k2.frozen 0
 have f1:=k2.frozen 1
 have f2:=k2.frozen 2
 have f3:=k2.frozen 3
 have f4:=k2.frozen 4
 have l1: ¬nd.lv<0:=by have:=h.lv;omega
 have l2: ¬nd.lv>15:=by have:=h.lv;omega
 have wl:IntKind.u64.wrap nd.lv=nd.lv:=IntWalk.u64_in _ (by have:=h.lv;constructor<;>omega)
 have wt:IntKind.u64.wrap (5495893775785918464+nd.lv)=tagN+nd.lv:=by rw[IntWalk.u64_in _ (by have:=h.lv;constructor<;>omega)];rfl
 have HW:=hid hW1
 have HB1:=hid hb1
 have HK:=hid (⟨k0,k1,k2⟩:_∧_∧_)
 have HOK:=hid h
 clear hW1 hb1 k0 k1 k2 h
 go_enter Tryz.func79,Tryz.ntmps79
 go_upto_region 2 with fail
 rw[show _=W1 from HW.out.symm]
 obtain⟨t0,ht0⟩: ∃x,x=tagN+nd.lv:=⟨_,rfl⟩
 rw[←ht0] at wt
 have HT0:=hid ht0
 clear ht0
 go_upto_region 9 with fail
 obtain⟨W2,hW2⟩: ∃W2,W2=(((((W1.setCell ⟨w.heap.size+2,0,none⟩ (.int .u64 t0)).setCell ⟨w.heap.size+2,1,none⟩ (.int .u64 nd.low)).setCell ⟨w.heap.size+2,2,none⟩ (.int .u64 nd.nx)).setCell ⟨w.heap.size+2,3,none⟩ (.int .u64 nd.ct)).setCell ⟨w.heap.size+2,4,none⟩ (.int .u64 nd.fi)):=⟨_,rfl⟩
 have hI0:Hid (NWI w nd w.heap.size (w.heap.size+1) (w.heap.size+1+1) 0 W2):=by
  have o:Only [w.heap.size+2] W1 W2:=by rw[hW2];exact(((((Only.refl _ W1).setCell (Or.inl (by simp)) _).setCell (Or.inl (by simp)) _).setCell (Or.inl (by simp)) _).setCell (Or.inl (by simp)) _).setCell (Or.inl (by simp)) _
  refine hid ⟨o.blk HK.out.1 (by simp),o.blk HK.out.2.1 (by simp),?_,HB1.out.trans (o.below (fun y hy=>by simp at hy;omega) HB1.out.size)⟩
  rw[hW2,HT0.out,←wordsTo_0]
  exact((((HK.out.2.2.set_ 0 _).set_ 1 _).set_ 2 _).set_ 3 _).set_ 4 _
 rw[show _=W2 from hW2.symm]
 clear hW2 c0 c1 c2 c3 c4 d0 d1 d2 d3 d4 f0 f1 f2 f3 f4 HW HK l1 l2 wl wt
 rw[←hB] at hI0 ⊢
 obtain⟨B2,hB2⟩: ∃x,x=B+1+1:=⟨_,rfl⟩
 rw[←hB2] at hI0 ⊢
 obtain⟨B1,hB1⟩: ∃x,x=B+1:=⟨_,rfl⟩
 rw[←hB1] at hI0 ⊢
 have HBB:=hid (⟨hB,hB1,hB2⟩:_∧_∧_)
 clear hB hB1 hB2
 go_wp2
 go_loopw [4] (fun iv wr=> ∃j:Nat,j≤8∧iv= .int .i64 j∧Hid (NWI w nd B B1 B2 j wr)) (fun iv _=>(8- (intOf iv).toNat))
 case atStart=>exact⟨0,by omega,rfl,hI0⟩
 case round=>
  obtain⟨j,hj,rfl,hI⟩:=hrel
  by_cases hlt:j<8
  ·have i1:(j:Int)<8:=by omega
   have i0:(0:Int)≤(j:Int):=by omega
   have wj:IntKind.i64.wrap (j:Int)=(j:Int):=IntWalk.i64_in _ (by constructor<;>omega)
   have e1:IntKind.i64.wrap (2*(j:Int))=2*(j:Int):=IntWalk.i64_in _ (by constructor<;>omega)
   obtain⟨a,ha⟩: ∃a,a=8+2*j:=⟨_,rfl⟩
   obtain⟨b,hb⟩: ∃b,b=9+2*j:=⟨_,rfl⟩
   have e2:IntKind.i64.wrap (8+2*(j:Int))=(a:Int):=by rw[IntWalk.i64_in _ (by constructor<;>omega)];omega
   have e3:IntKind.i64.wrap (9+2*(j:Int))=(b:Int):=by rw[IntWalk.i64_in _ (by constructor<;>omega)];omega
   have a24:(a:Int)<24:=by omega
   have b24:(b:Int)<24:=by omega
   have a0:(0:Int)≤(a:Int):=by omega
   have b0:(0:Int)≤(b:Int):=by omega
   have ck:wr.cell? ⟨B,5+j,none⟩=some (.int .u64 (nd.k j)):=(hI.out.b0.cell (5+j)).trans (nodeC_k _ hlt)
   have hk1:Blk (wr.setCell ⟨B2,a,none⟩ (.int .u64 (nd.k j))) B 77 (nodeC nd):=(show Only [B2] wr (wr.setCell ⟨B2,a,none⟩ (.int .u64 (nd.k j))) from(Only.refl _ wr).setCell (Or.inl (by simp)) _).blk hI.out.b0 (by have h1:=HBB.out.2.1;have h2:=HBB.out.2.2;simp;omega)
   have cp:(wr.setCell ⟨B2,a,none⟩ (.int .u64 (nd.k j))).cell? ⟨B,13+j,none⟩=some (.int .u64 (nd.p j)):=(hk1.cell (13+j)).trans (nodeC_p _ hlt)
   clear hk1
   have ca:wr.cell? ⟨B2,a,none⟩=some (.int .u64 (wordsTo nd j a)):=(hI.out.b2.cell a).trans (wordsC_at _ (by omega))
   have cb:(wr.setCell ⟨B2,a,none⟩ (.int .u64 (nd.k j))).cell? ⟨B2,b,none⟩=some (.int .u64 (wordsTo nd j b)):=((hI.out.b2.set_ a _).cell b).trans (by rw[Array.getElem?_setIfInBounds_ne (by omega)];exact wordsC_at _ (by omega))
   have fa:=hI.out.b2.frozen a
   have fb:=(hI.out.b2.set_ a (.int .u64 (nd.k j))).frozen b
   have HA:=hid (⟨ha,hb,hlt⟩:_∧_∧_)
   have hN:Hid (NWI w nd B B1 B2 (j+1) ((wr.setCell ⟨B2,a,none⟩ (.int .u64 (nd.k j))).setCell ⟨B2,b,none⟩ (.int .u64 (nd.p j)))):=by
    have o:Only [B2] wr ((wr.setCell ⟨B2,a,none⟩ (.int .u64 (nd.k j))).setCell ⟨B2,b,none⟩ (.int .u64 (nd.p j))):=((Only.refl _ wr).setCell (Or.inl (by simp)) _).setCell (Or.inl (by simp)) _
    refine hid ⟨o.blk hI.out.b0 (by have h1:=HBB.out.1;have h2:=HBB.out.2.2;simp;omega),o.blk hI.out.b1 (by have h1:=HBB.out.2.1;have h2:=HBB.out.2.2;simp;omega),?_,hI.out.bel.trans (o.below (fun y hy=>by have h1:=HBB.out.1;have h2:=HBB.out.2.2;simp at hy;omega) hI.out.bel.size)⟩
    rw[←wordsTo_next nd hlt ha hb]
    exact(hI.out.b2.set_ a _).set_ b _
   clear ha hb hj hlt
   go_wp2
   go_roundw
   case rel=>exact⟨j+1,HA.out.2.2,by go_num,hN⟩
   case measure=>simp[intOf];have:=HA.out.2.2;omega
  ·obtain rfl:j=8:=by omega
   have i1: ¬((8:Nat):Int)<8:=by omega
   have hld:=arr_ld4 hI.out.b2
   obtain⟨w4,hst,hk4,ho4⟩:=arr_st4 (g:=wordsTo nd 8) hI.out.b1
   have HB4:Hid (Below w.heap.size w w4):=hid (hI.out.bel.trans (ho4.below (fun y hy=>by have h1:=HBB.out.1;have h2:=HBB.out.2.1;simp at hy;omega) hI.out.bel.size))
   have hlv:=arr_lv4 hk4
   clear hlt hj hI hk4 ho4
   go_wp2
   refine bodyPost_ret (v:= .agg (wordsC (wordsTo nd 8))) (results_cellv rfl _ _ _ _ rfl hlv) rfl ?_
   exact⟨rfl,HB4.out⟩
attribute [local go_sem ↓ high] nodeLoadAt nodeLoadVar nodeStoreAt
def AR.layTo (R:AR) (a:Nat) (nd:NodeA):Nat→AR
 | 0=>R
 | i+1=>(R.layTo a nd i).put (a+8*i) (nWords nd i).toNat
def AR.lay (R:AR) (a:Nat) (nd:NodeA):AR:=R.layTo a nd 24
structure LyI (w:World) (g b n:Nat) (R:AR) (lv:Value) (a:Nat) (nd:NodeA) (B i:Nat) (W:World):Prop where
 ar:ArIs W g b n (R.layTo a nd i) lv
 wd:Blk W B 179 (wordsC (nWords nd))
 only:Only [b] w W
theorem ALay_z (g b n:Nat) (R:AR) (lv:Value) (a:Nat) (nd:NodeA) (hn:NdOK nd) (ha:a+192≤n) (w:World) (h:ArIs w g b n R lv):
  Calls Tryz.prog 50 #[.pointer (some ⟨g,0,none⟩),.int .u64 (a:Int),.agg (nodeC nd)] w fun e w'=>e= .returned (.tuple #[])∧ArIs w' g b n (R.lay a nd) lv∧Only [b] w w':=by
 have hbig:=h.big
 obtain⟨W1,hW1⟩: ∃W1,W1=w.alloc (.cells (nodeC nd) 77):=⟨_,rfl⟩
 have hb1:Below w.heap.size w W1:=by rw[hW1];exact ba (Below.refl _ _) _
 have k0:Blk W1 w.heap.size 77 (nodeC nd):=by rw[hW1];exact Blk.new _ _ _
 have hld:=node_ld k0
 have WD:=hid (RNWords_z nd W1 hn)
 have HW1:=hid hW1
 have HB1:=hid hb1
 have HN:=hid hn
 have H:=hid h
 have HA:=hid ha
 have wx:IntKind.i64.wrap (a:Int)=(a:Int):=IntWalk.i64_in _ (by constructor<;>omega)
 clear hW1 hb1 k0 hn h
 go_enter Tryz.func50,Tryz.ntmps50
 go_upto_region 1 with fail
 rw[show _=W1 from HW1.out.symm]
 go_wp2_with fail
 refine WD.out.mono ?_
 rintro e w2 ⟨rfl,hb2⟩
 have hbw2:Below w.heap.size w w2:=HB1.out.trans (hb2.mono HB1.out.size)
 obtain⟨w3,hw3⟩: ∃w3,w3=w2.alloc (.cells #[.int .u64 0,.int .u64 0,.int .u64 0,.int .u64 0,.int .u64 0,.int .u64 0,.int .u64 0,.int .u64 0,.int .u64 0,.int .u64 0,.int .u64 0,.int .u64 0,.int .u64 0,.int .u64 0,.int .u64 0,.int .u64 0,.int .u64 0,.int .u64 0,.int .u64 0,.int .u64 0,.int .u64 0,.int .u64 0,.int .u64 0,.int .u64 0] 179):=⟨_,rfl⟩
 have k3:Blk w3 w2.heap.size 179 (wordsC (fun _=>0)):=by rw[hw3];exact Blk.new _ _ _
 obtain⟨w4,hst,hk4,ho4⟩:=arr_st4 (g:=nWords nd) k3
 have hb3:Below w.heap.size w w3:=by rw[hw3];exact hbw2.alloc hbw2.size _
 have hb4:Below w.heap.size w w4:=hb3.trans (ho4.below (fun y hy=>by have:=hbw2.size;simp at hy;omega) hb3.size)
 have HI0:Hid (LyI w g b n R lv a nd w2.heap.size 0 w4):=hid ⟨H.out.bel hb4,hk4,Only.of_below hb4 _⟩
 have HSZ:Hid (w.heap.size≤w2.heap.size):=hid hbw2.size
 rw[hw3] at hst
 clear hw3 k3 hk4 ho4 hb3 hb4 hbw2 hb2 hld WD
 obtain⟨B,hB⟩: ∃B,B=w2.heap.size:=⟨_,rfl⟩
 have hc:=hst
 rw[←hB] at hst
 rw[←hB] at HI0 HSZ
 go_upto_region 2 with fail
 rw[←hB]
 clear hst hc hB
 go_wp2
 go_loopw [7] (fun iv wr=> ∃j:Nat,j≤24∧iv= .int .i64 (j:Int)∧Hid (LyI w g b n R lv a nd B j wr)) (fun iv _=>(24- (intOf iv).toNat))
 case atStart=>exact⟨0,by omega,rfl,HI0⟩
 case round=>
  obtain⟨j,hj,rfl,hI⟩:=hrel
  obtain⟨wA,rfl⟩: ∃y,y=wr:=⟨_,rfl⟩
  by_cases hlt:j<24
  ·have i1:(j:Int)<24:=by omega
   have i0:(0:Int)≤(j:Int):=by omega
   obtain⟨X,hX⟩: ∃X:Nat,(nWords nd j).toNat=X:=⟨_,rfl⟩
   have hu:=HN.out.words j
   have hX':nWords nd j=(X:Int):=by have:=hu.1;omega
   have hXl:X<18446744073709551616:=by have:=hu.2;omega
   obtain⟨q,hq⟩: ∃q,q=a+8*j:=⟨_,rfl⟩
   have cx:wA.cell? ⟨B,j,none⟩=some (.int .u64 (X:Int)):=((hI.out.wd.cell j).trans (wordsC_at _ hlt)).trans (by rw[hX'])
   have e1:IntKind.i64.wrap (8*(j:Int))=8*(j:Int):=IntWalk.i64_in _ (by constructor<;>omega)
   have e2:IntKind.i64.wrap ((a:Int)+8*(j:Int))=(q:Int):=by rw[IntWalk.i64_in _ (by constructor<;>omega)];omega
   have PT:=hid (APut_z g b n (R.layTo a nd j) lv q X hXl (by omega) wA hI.out.ar)
   have HQ:=hid (⟨hlt,hX,hq⟩:_∧_∧_)
   clear hu hX hX' hXl hq hlt hj ha hbig
   go_wp2_with fail
   refine PT.out.mono ?_
   rintro e w5 ⟨rfl,hA5,ho5⟩
   have hN:Hid (LyI w g b n R lv a nd B (j+1) w5):=by
    refine hid ⟨?_,ho5.blk hI.out.wd (by have h1:=H.out.by'.lt;have h2:=HSZ.out;simp;omega),hI.out.only.trans ho5 (fun _ h=>Or.inl h)⟩
    show ArIs w5 g b n ((R.layTo a nd j).put (a+8*j) (nWords nd j).toNat) lv
    rw[HQ.out.2.1,←HQ.out.2.2]
    exact hA5
   clear hA5 ho5
   go_wp2
   go_roundw
   case rel=>exact⟨j+1,HQ.out.1,by go_num,hN⟩
   case measure=>simp[intOf];have:=HQ.out.1;omega
  ·obtain rfl:j=24:=by omega
   have i1: ¬((24:Nat):Int)<24:=by omega
   clear hlt hj
   go_wp2
   refine bodyPost_end (v:= .tuple #[]) (by simp[results,Tryz.results50,go_sem]) rfl ?_
   exact⟨rfl,hI.out.ar,hI.out.only⟩
end
def numL (n:Nat):List Int:=if n<10 then[48+(n:Int)] else numL (n/10)++[48+((n % 10:Nat):Int)]
theorem numL_small {n:Nat} (h:n<10):numL n=[48+(n:Int)]:=by rw[numL,if_pos h]
theorem numL_big {n:Nat} (h: ¬n<10):numL n=numL (n/10)++[48+((n % 10:Nat):Int)]:=by rw[numL,if_neg h]
theorem numL_in (n:Nat): ∀x∈numL n,0≤x∧x<256:=by
 induction n using Nat.strongRecOn with
 | _ n ih=>
 by_cases h:n<10
 ·rw[numL_small h];intro x hx;simp at hx;omega
 ·rw[numL_big h];intro x hx
  rcases List.mem_append.1 hx with hx | hx
  ·exact ih _ (by omega) x hx
  ·simp at hx;omega
theorem numL_len: ∀(k n:Nat),n<10^k→(numL n).length≤max k 1
 | 0,n,h=>by
  have:n<10:=by simp at h;omega
  rw[numL_small this];exact Nat.le_max_right _ _
 | k+1,n,h=>by
  by_cases h1:n<10
  ·rw[numL_small h1];exact Nat.le_max_right _ _
  ·have h2:k≠0:=by intro e;subst e;simp at h;omega
   have:=numL_len k (n/10) (by rw[Nat.pow_succ] at h;omega)
   rw[numL_big h1,List.length_append];simp;omega
theorem numL_20 {n:Nat} (h:n<18446744073709551616):(numL n).length≤20:=by
 have:=numL_len 20 n (by have:(10:Nat)^20=100000000000000000000:=by decide
                         omega)
 omega
theorem strOfNums_app (xs ys:List Int):strOfNums (xs++ys)=strOfNums xs++strOfNums ys:=by
 apply ByteArray.ext
 apply Array.ext'
 rw[ByteArray.data_append,Array.toList_append,strOfNums_data,strOfNums_data,strOfNums_data,List.map_append]
theorem cell_al {w W v1:World} {v:Value} {t:TypeId} (hb:Below W.heap.size W v1) (hs:W.heap=w.heap.push (.cells #[v] t)):v1.cell? ⟨w.heap.size,0,none⟩=some v:=by
 rw[hb.cell (by rw[hs];simp)]
 have hB:Blk W w.heap.size t #[v]:=by
  show W.heap[w.heap.size]?=some _
  rw[hs];simp
 exact hB.cell 0
theorem conv_one (W:World) (g:Nat) (d:Int) (h:W.cell? ⟨g,0,none⟩=some (.int .u8 d)):Sem.run Tryz.prog (convert 47 9 (.slice (some ⟨g,0,none⟩) 1 1)) W= .ok (.string (strOfNums [d])) W:=by
 have:=conv_bytes W g 1 1 [d] (by simp) (fun i x hi=>by
  match i,hi with
  | 0,hi=>simp[byteVs] at hi;subst hi;exact h
  | i+1,hi=>simp[byteVs] at hi)
 simpa using this
theorem Num_z (n:Nat) (hn:n<18446744073709551616) (w:World):
  Calls Tryz.prog 44 #[.int .u64 (n:Int)] w fun e w'=>e= .returned (.string (strOfNums (numL n)))∧Below w.heap.size w w':=by
 induction n using Nat.strongRecOn generalizing w with
 | _ n ih=>
 by_cases h10:n<10
 ·have i1:(n:Int)<10:=by omega
  have HL:=hid (numL_small h10)
  have wa:IntKind.u64.wrap (48+(n:Int))=48+(n:Int):=IntWalk.u64_in _ (by constructor<;>omega)
  have w8:IntKind.u8.wrap (48+(n:Int))=48+(n:Int):=by rw[IntKind.wrap_u8];omega
  have hcv:Sem.run Tryz.prog (convert 47 9 (.slice (some ⟨w.heap.size,0,none⟩) 1 1)) (w.alloc (.cells #[.int .u8 (48+(n:Int))] 5))= .ok (.string (strOfNums [48+(n:Int)])) (w.alloc (.cells #[.int .u8 (48+(n:Int))] 5)):=conv_one _ _ _ ((Blk.new _ _ _).cell 0)
  clear ih hn h10
  obtain⟨T,hT⟩: ∃T,T=strOfNums [48+(n:Int)]:=⟨_,rfl⟩
  rw[←hT] at hcv
  have HT:=hid hT
  clear hT
  go_enter Tryz.func44,Tryz.ntmps44
  go_wp2
  go_ret
  rw[HL.out,←HT.out]
  exact⟨rfl,by(repeat(first | exact Below.refl _ _ | (refine ba ?_ _) | (refine Below.drew ?_) | (refine below_drewN ?_ _) | (refine Below.alloc ?_ (by first | omega | (simp;done) | (simp;omega)) _) | (refine Below.setCell ?_ (by first | omega | (simp;done) | (simp;omega)) _) | (refine bx ?_ (by assumption)) | (refine Below.trans ?_ (Below.mono (by assumption) (by first | omega | (simp;done) | (simp;omega))))))⟩
 ·have i1: ¬(n:Int)<10:=by omega
  have HL:=hid (numL_big h10)
  have IH:=hid (fun W=>ih (n/10) (by omega) (by omega) W)
  obtain⟨q,hq⟩: ∃q,q=n/10:=⟨_,rfl⟩
  obtain⟨r,hr⟩: ∃r,r=n % 10:=⟨_,rfl⟩
  rw[←hq] at IH HL
  rw[←hr] at HL
  have wq:IntKind.u64.wrap ((n:Int)/10)=(q:Int):=by rw[IntWalk.u64_in _ (by constructor<;>omega)];omega
  have wa:IntKind.u64.wrap (48+(r:Int))=48+(r:Int):=IntWalk.u64_in _ (by constructor<;>omega)
  have w8:IntKind.u8.wrap (48+(r:Int))=48+(r:Int):=by rw[IntKind.wrap_u8];omega
  have er:(n:Int)% 10=(r:Int):=by omega
  have eq':(n:Int)/10=(q:Int):=by omega
  have er2:Int.tmod (n:Int) 10=(r:Int):=by rw[hr];rfl
  have eq2:Int.tdiv (n:Int) 10=(q:Int):=by rw[hq];rfl
  have wq2:IntKind.u64.wrap (q:Int)=(q:Int):=IntWalk.u64_in _ (by constructor<;>omega)
  have wr2:IntKind.u64.wrap (r:Int)=(r:Int):=IntWalk.u64_in _ (by constructor<;>omega)
  obtain⟨T,hT⟩: ∃T,T=strOfNums [48+(r:Int)]:=⟨_,rfl⟩
  obtain⟨U,hU⟩: ∃U,U=strOfNums (numL q):=⟨_,rfl⟩
  have hcv: ∀(W:World) (g:Nat),W.cell? ⟨g,0,none⟩=some (.int .u8 (48+(r:Int)))→Sem.run Tryz.prog (convert 47 9 (.slice (some ⟨g,0,none⟩) 1 1)) W= .ok (.string T) W:=fun W g h=>by rw[hT];exact conv_one W g _ h
  have hsz:U.size+T.size≤9223372036854775807:=by
   have h1:U.size≤20:=by rw[hU,←strB_len,strB_of (numL_in q)];exact numL_20 (by omega)
   have h2:T.size=1:=by rw[hT,←strB_len,strB_of (by intro x hx;simp at hx;omega)];rfl
   omega
  rw[←hU] at IH
  have HT:=hid (⟨hT,hU⟩:_∧_)
  clear ih hn h10 hT hU hq hr
  go_enter Tryz.func44,Tryz.ntmps44
  go_upto_region 3 with fail
  go_region_with ((go_at_call 44;refine(IH.out _).mono ?_;rintro e v1 ⟨rfl,hb⟩;(try(have hc1:v1.cell? ⟨w.heap.size,0,none⟩=some (.int .u8 (48+(r:Int))):=cell_al (t:=5) hb rfl));have hB1:Below w.heap.size w v1:=bx (by(repeat(first | exact Below.refl _ _ | (refine ba ?_ _) | (refine Below.drew ?_) | (refine below_drewN ?_ _) | (refine Below.alloc ?_ (by first | omega | (simp;done) | (simp;omega)) _) | (refine Below.setCell ?_ (by first | omega | (simp;done) | (simp;omega)) _) | (refine bx ?_ (by assumption)) | (refine Below.trans ?_ (Below.mono (by assumption) (by first | omega | (simp;done) | (simp;omega))))))) hb;have HB1:=hid hB1;clear hb hB1))
  all_goals
   go_wp2
   go_ret
   rw[HL.out,strOfNums_app,←HT.out.1,←HT.out.2]
   refine⟨rfl,?_⟩
   have hB1:=HB1.out
   first
    | exact hB1
    | exact hB1.alloc hB1.size _
    | exact Below.drew hB1
    | exact Below.drew (hB1.alloc hB1.size _)
    | exact hB1.drew.alloc hB1.size _
theorem AValue_z (n:Nat) (hn:n<18446744073709551616) (w:World):
  Calls Tryz.prog 17 #[.int .u64 (n:Int)] w fun e w'=>e= .returned (.string (strOfNums (numL n)))∧Below w.heap.size w w':=by
 have NZ:=hid (Num_z n hn)
 clear hn
 go_enter Tryz.func17,Tryz.ntmps17
 go_wp2_with fail
 refine(NZ.out _).mono ?_
 rintro e w2 ⟨rfl,hb⟩
 have HB:=hid hb
 clear hb
 go_wp2
 go_ret
 exact⟨rfl,HB.out⟩
def ndOf (lvl a:Nat) (z:Bool) (own:List (Int×Int)):NodeA:=
 ⟨lvl,if z then 0 else(own.getD 0 (0,0)).1,0,0,if lvl=0 then(a:Int) else(own.getD 0 (0,0)).2,
  fun i=>((own.drop (if lvl=0 then 0 else 1)).getD i (0,0)).1,fun i=>((own.drop (if lvl=0 then 0 else 1)).getD i (0,0)).2⟩
def ownK (per:Nat) (l:List (Int×Int)) (k:Nat):List (Int×Int):=(l.drop (k*per)).take per
def AR.rounds (R:AR) (lvl per:Nat) (l:List (Int×Int)):Nat→AR×List (Nat×NodeA)
 | 0=>(R,[])
 | k+1=>((AR.rounds R lvl per l k).1.newNode.1,(AR.rounds R lvl per l k).2++[((AR.rounds R lvl per l k).1.newNode.2,ndOf lvl (AR.rounds R lvl per l k).1.newNode.2 (k==0) (ownK per l k))])
def nRounds (per:Nat) (l:List (Int×Int)):Nat:=max 1 ((l.length+per-1)/per)
theorem nRounds_last {per k:Nat} {l:List (Int×Int)} (hp:0<per) (h1:k=0∨k*per<l.length) (h2:l.length≤k*per+per):nRounds per l=k+1:=by
 unfold nRounds
 have e:(l.length+per-1)/per≤k+1:=by
  rw[Nat.div_le_iff_le_mul_add_pred hp]
  have:per*(k+1)=k*per+per:=by rw[Nat.mul_comm,Nat.succ_mul]
  omega
 rcases h1 with rfl | h1
 ·omega
 ·have:k+1≤(l.length+per-1)/per:=by
   rw[Nat.le_div_iff_mul_le hp,Nat.succ_mul];omega
  omega
def linkTo (row:List (Nat×NodeA)) (j:Nat):List (Nat×NodeA):=row.mapIdx fun i x=>(x.1,if i<j∧i+1<row.length then{ x.2 with nx:=((row.getD (i+1) (0,zeroN)).1:Int) } else x.2)
def linked (row:List (Nat×NodeA)):List (Nat×NodeA):=linkTo row row.length
theorem linkTo_zero (row:List (Nat×NodeA)):linkTo row 0=row:=by
 unfold linkTo
 apply List.ext_getElem?
 intro i
 rw[List.getElem?_mapIdx]
 cases row[i]?<;>simp
theorem linkTo_len (row:List (Nat×NodeA)) (j:Nat):(linkTo row j).length=row.length:=by unfold linkTo;rw[List.length_mapIdx]
def AR.layRow (R:AR) (row:List (Nat×NodeA)) (j:Nat):AR:=((linked row).take j).foldl (fun R x=>R.lay x.1 x.2) R
def AR.levelRow (R:AR) (lvl per:Nat) (l:List (Int×Int)):List (Nat×NodeA):=linked (R.rounds lvl per l (nRounds per l)).2
def AR.level (R:AR) (lvl per:Nat) (l:List (Int×Int)):AR:=(R.rounds lvl per l (nRounds per l)).1.layRow (R.rounds lvl per l (nRounds per l)).2 (nRounds per l)
def AR.roomy (R:AR) (lvl per:Nat) (l:List (Int×Int)) (n:Nat):Prop:= ∀k,k<n→(R.rounds lvl per l k).1.newNode.2≠0
theorem rounds_len (R:AR) (lvl per:Nat) (l:List (Int×Int)): ∀k,(R.rounds lvl per l k).2.length=k
 | 0=>rfl
 | k+1=>by unfold AR.rounds;rw[List.length_append,rounds_len R lvl per l k];rfl
def atC (a:Int) (n:NodeA):Array Value:= #[.int .u64 a,.int .i64 n.lv,.int .u64 n.low,.int .u64 n.nx,.int .u64 n.ct,.int .u64 n.fi,.int .u64 (n.k 0),.int .u64 (n.k 1),.int .u64 (n.k 2),.int .u64 (n.k 3),.int .u64 (n.k 4),.int .u64 (n.k 5),.int .u64 (n.k 6),.int .u64 (n.k 7),
 .int .u64 (n.p 0),.int .u64 (n.p 1),.int .u64 (n.p 2),.int .u64 (n.p 3),.int .u64 (n.p 4),.int .u64 (n.p 5),.int .u64 (n.p 6),.int .u64 (n.p 7)]
theorem atC_size (a:Int) (n:NodeA):(atC a n).size=22:=rfl
theorem atC_node (a:Int) (n:NodeA) {j:Nat} (h:j<21):(atC a n)[1+j]?=(nodeC n)[j]?:=by
 have: ∀j,j<21→(atC a n)[1+j]?=(nodeC n)[j]?:=by
  intro j hj
  have e:(atC a n).toList= .int .u64 a::(nodeC n).toList:=rfl
  rw[←Array.getElem?_toList,e,Nat.add_comm,List.getElem?_cons_succ,Array.getElem?_toList]
 exact this j h
theorem atC_k (a:Int) (n:NodeA) {i:Nat} (h:i<8):(atC a n)[6+i]?=some (.int .u64 (n.k i)):=by
 rcases(by omega:i=0∨i=1∨i=2∨i=3∨i=4∨i=5∨i=6∨i=7) with rfl | rfl | rfl | rfl | rfl | rfl | rfl | rfl<;>rfl
theorem atC_p (a:Int) (n:NodeA) {i:Nat} (h:i<8):(atC a n)[14+i]?=some (.int .u64 (n.p i)):=by
 rcases(by omega:i=0∨i=1∨i=2∨i=3∨i=4∨i=5∨i=6∨i=7) with rfl | rfl | rfl | rfl | rfl | rfl | rfl | rfl<;>rfl
theorem at_set_k (a:Int) (n:NodeA) {i:Nat} (h:i<8) (v:Int):(atC a n).setIfInBounds (6+i) (.int .u64 v)=atC a { n with k:=fun j=>if j=i then v else n.k j }:=by
 rcases(by omega:i=0∨i=1∨i=2∨i=3∨i=4∨i=5∨i=6∨i=7) with rfl | rfl | rfl | rfl | rfl | rfl | rfl | rfl<;>rfl
theorem at_set_p (a:Int) (n:NodeA) {i:Nat} (h:i<8) (v:Int):(atC a n).setIfInBounds (14+i) (.int .u64 v)=atC a { n with p:=fun j=>if j=i then v else n.p j }:=by
 rcases(by omega:i=0∨i=1∨i=2∨i=3∨i=4∨i=5∨i=6∨i=7) with rfl | rfl | rfl | rfl | rfl | rfl | rfl | rfl<;>rfl
def atsV (row:List (Nat×NodeA)):List Value:=row.flatMap fun x=>(atC x.1 x.2).toList
abbrev rowA (W:World) (N:Nat) (v:Value) (row:List (Nat×NodeA)):Prop:=W.ownsRow N 79 22 v row.length (atsV row)
theorem atsV_at {row:List (Nat×NodeA)}: ∀{i:Nat} {x:Nat×NodeA},row[i]?=some x→ ∀j,j<22→(atsV row)[i*22+j]?=(atC x.1 x.2)[j]?:=by
 induction row with
 | nil=>intro i x h;simp at h
 | cons y r ih=>
  intro i x h j hj
  unfold atsV
  rw[List.flatMap_cons]
  cases i with
  | zero=>
   simp at h;subst h
   rw[List.getElem?_append_left (by rw[Array.length_toList,atC_size];omega),Nat.zero_mul,Nat.zero_add,Array.getElem?_toList]
  | succ i=>
   rw[List.getElem?_append_right (by rw[Array.length_toList,atC_size];omega),Array.length_toList,atC_size,show(i+1)*22+j-22=i*22+j by omega]
   exact ih (by simpa using h) j hj
theorem atsV_set {row:List (Nat×NodeA)}: ∀{i:Nat} {x:Nat×NodeA} (v:Int),row[i]?=some x→(atsV row).set (i*22+3) (.int .u64 v)=atsV (row.set i (x.1,{ x.2 with nx:=v })):=by
 induction row with
 | nil=>intro i x v h;simp at h
 | cons y r ih=>
  intro i x v h
  cases i with
  | zero=>
   simp at h;subst h
   unfold atsV
   rw[List.set_cons_zero,List.flatMap_cons,List.flatMap_cons,List.set_append_left _ _ (by rw[Array.length_toList,atC_size];omega)]
   rfl
  | succ i=>
   have:=ih v (by simpa using h)
   unfold atsV at this ⊢
   rw[List.set_cons_succ,List.flatMap_cons,List.flatMap_cons,List.set_append_right _ _ (by rw[Array.length_toList,atC_size];omega),Array.length_toList,atC_size,show(i+1)*22+3-22=i*22+3 by omega,this]
def bldR2 (P:Program) (t:TypeId) (ps:Array (Nat×Value)) (w:World):Result Value:=(Instr.build t ps).run P w
def bldM2 (t:TypeId) (ps:Array (Nat×Value)):Sem Value:=Instr.build t ps
theorem bldM2_run (P:Program) (t:TypeId) (ps:Array (Nat×Value)) (w:World):(bldM2 t ps).run P w=bldR2 P t ps w:=rfl
def bslR2 (P:Program) (t:TypeId) (n:Nat) (ps:Array (Nat×Value)) (w:World):Result Value:=(Instr.buildSlice t n ps).run P w
def bslM2 (t:TypeId) (n:Nat) (ps:Array (Nat×Value)):Sem Value:=Instr.buildSlice t n ps
theorem bslM2_run (P:Program) (t:TypeId) (n:Nat) (ps:Array (Nat×Value)) (w:World):(bslM2 t n ps).run P w=bslR2 P t n ps w:=rfl
theorem nodeBuild2 (ps:Array (Nat×Value)):Instr.build 77 ps=bldM2 77 ps:=rfl
theorem atBuild (ps:Array (Nat×Value)):Instr.build 79 ps=bldM2 79 ps:=rfl
theorem atBuildS (n:Nat) (ps:Array (Nat×Value)):Instr.buildSlice 80 n ps=bslM2 80 n ps:=rfl
theorem atLoadAt (v:Value):Instr.loadAt 79 v=ldM 79 v:=rfl
theorem atStoreAt (p v:Value):Instr.storeAt 79 p v=stM 79 p v:=rfl
theorem node_built (l a:Int) (W:World):bldR2 Tryz.prog 77 #[(0,.int .i64 l),(4,.int .u64 a)] W= .ok (.agg (nodeC ⟨l,0,0,0,a,fun _=>0,fun _=>0⟩)) W:=by kernel_rfl
theorem at_built (a:Int) (n:NodeA) (W:World):bldR2 Tryz.prog 79 #[(0,.int .u64 a),(1,.agg (nodeC n))] W= .ok (.agg (atC a n)) W:=by kernel_rfl
theorem at_row (a:Int) (n:NodeA) (w:World):bslR2 Tryz.prog 80 1 #[(0,.agg (atC a n))] w= .ok (.slice (some ⟨w.heap.size,0,none⟩) 1 1) (w.alloc (.cells (atC a n) 79)):=by kernel_rfl
theorem at_ld {w:World} {b:Nat} {a:Int} {n:NodeA} (h:Blk w b 79 (atC a n)):ldR Tryz.prog 79 (.pointer (some ⟨b,0,none⟩)) w= .ok (.agg (atC a n)) w:=h.ld Tryz.underlying79 rfl (by kernel_rfl)
theorem at_st {w:World} {b:Nat} {a a':Int} {n n':NodeA} (h:Blk w b 79 (atC a n)): ∃W',stR Tryz.prog 79 (.pointer (some ⟨b,0,none⟩)) (.agg (atC a' n')) w= .ok () W'∧Blk W' b 79 (atC a' n')∧Only [b] w W':=by
 refine⟨w.setRow b _,h.st (by kernel_rfl) rfl (by kernel_rfl),setRow_heap w b _ _ _ _ h,⟨rfl,rfl,rfl,by simp,fun x hx hn=>setRow_other w b x _ (by simpa using hn)⟩⟩
theorem infoAt:(Tryz.prog.info? 79).map (fun i=>(i.zero,i.size,i.bytes))=some (some (.agg (atC 0 zeroN)),22,176):=by kernel_rfl
theorem at_push {W:World} {N:Nat} {v:Value} {row:List (Nat×NodeA)} (h:rowA W N v row) (hN:N≤W.heap.size) (x:Nat×NodeA) (hm:row.length≤1000000):
  ∃va vc w9,appRun2 Tryz.prog #[80,80] 80 #[v,.slice (some ⟨W.heap.size,0,none⟩) 1 1] (W.alloc (.cells (atC x.1 x.2) 79))= .ok (.slice va (row.length+1) vc) w9∧
   rowA w9 N (.slice va (row.length+1) vc) (row++[x])∧Only v.ownBlock.toList W w9∧((Value.slice va (row.length+1) vc).ownBlock=v.ownBlock∨ ∃k,(Value.slice va (row.length+1) vc).ownBlock=some k∧W.heap.size≤k):=by
 obtain⟨i0,hi0,hz0,hz1,hz2⟩:=info_parts infoAt
 have h5:rowA (W.alloc (.cells (atC x.1 x.2) 79)) N v row:=((Only.refl [] W).alloc _).own h (by simp)
 obtain⟨v',w9,hA⟩:=run_app (P:=Tryz.prog) (W.alloc (.cells (atC x.1 x.2) 79)) N 80 80 79 i0 _ 22 176 Tryz.underlying80 hi0 hz0 hz1 hz2 rfl (by decide) v row.length _ h5 (.slice (some ⟨W.heap.size,0,none⟩) 1 1) 1 (atC x.1 x.2).toList (Or.inr ⟨W.heap.size,0,1,rfl,fun j u hj=>by
  rw[(Blk.new W 79 (atC x.1 x.2)).cell (0+j),Nat.zero_add,←Array.getElem?_toList];exact hj⟩) rfl (fun u hu=>by
   unfold atC at hu
   simp at hu
   rcases hu with rfl | rfl | rfl | rfl | rfl | rfl | rfl | rfl | rfl | rfl | rfl | rfl | rfl | rfl | rfl | rfl | rfl | rfl | rfl | rfl | rfl | rfl<;>rfl) (by unfold maxLen;omega) (by omega) (by simp;omega)
 have h2:=hA.own
 obtain⟨va,vc,rfl⟩:=row_form1 h2
 refine⟨va,vc,w9,hA.run,?_,(((Only.refl [] W).alloc _).mono (fun _ h=>by cases h)).trans (Only.of_grown (f:=v.ownBlock.toList) hA.grown (fun y hy=>by simp[hy])) (fun y hy=>Or.inl hy),?_⟩
 ·unfold rowA atsV
  rw[List.length_append,List.flatMap_append]
  simpa[atsV] using h2
 ·rcases hA.ob with h4 | h4
  ·exact Or.inl h4
  ·exact Or.inr ⟨_,h4,by simp⟩
theorem own_set2 {w:World} {base:Nat} {e:TypeId} {size n g cap:Nat} {xs:List Value} (h:w.ownsRow base e size (.slice (some ⟨g,0,none⟩) n cap) n xs) (i:Nat) (u:Value):(w.setCell ⟨g,i,none⟩ u).ownsRow base e size (.slice (some ⟨g,0,none⟩) n cap) n (xs.set i u):=by
 rcases h.2 with⟨h1,_⟩ | ⟨g',cap',cur,h1,h2,h3,h4,h5,h6,h7⟩
 ·cases h1
 ·injection h1 with h1 _ hc
  injection h1 with h1
  injection h1 with h1
  subst h1 hc
  refine⟨by rw[List.length_set];exact h.1,Or.inr ⟨g,cap,cur.setIfInBounds i u,rfl,h2,?_,h4,h5,by rw[Array.size_setIfInBounds];exact h6,?_⟩⟩
  ·exact(show Blk w g e cur from h3).set_ i u
  ·rw[Array.toList_setIfInBounds,List.take_set,h7]
theorem ents_part {w:World} {base:Nat} {v:Value} {l:List (Int×Int)} (h:w.ownsRow base 130 2 v l.length (l.flatMap entC)) (k m:Nat) (hk:k+m≤l.length): ∃ao cap,v= .slice ao l.length cap∧l.length≤cap∧((ao=none∧l=[]∧cap=0)∨ ∃b,ao=some ⟨b,0,none⟩∧ ∀c,EntsAt w (.slice (some ⟨b,k*2,none⟩) m c) ((l.drop k).take m)):=by
 rcases h.2 with⟨h1,h2⟩ | ⟨b,cap,cur,h1,h2,h3,h4,h5,h6,h7⟩
 ·have:l=[]:=List.eq_nil_of_length_eq_zero h2
  subst this
  exact⟨none,0,h1,by simp,Or.inl ⟨rfl,rfl,rfl⟩⟩
 ·refine⟨_,cap,h1,h4,Or.inr ⟨b,rfl,fun c=> ?_⟩⟩
  have hl:((l.drop k).take m).length=m:=by rw[List.length_take,List.length_drop];omega
  refine⟨_,c,by rw[hl],Or.inr ⟨b,k*2,rfl,(Array.getElem?_eq_some_iff.1 h3).1,fun i x hi=> ?_⟩⟩
  have hi2:i<m:=by have:=(List.getElem?_eq_some_iff.1 hi).1;omega
  have hx:l[k+i]?=some x:=by
   rw[List.getElem?_take,if_pos hi2,List.getElem?_drop] at hi;exact hi
  have h8:=entL_at l (k+i) x hx
  rw[h1] at h
  have hx2:=(List.getElem?_eq_some_iff.1 hx).1
  have h9:=h.cellAt (k*2+i*2) (by omega)
  have h10:=h.cellAt (k*2+i*2+1) (by omega)
  rw[h9,h10,←Nat.add_mul]
  exact h8
end Go.Proofs.YtjmaicckkkdjpaaGreat
