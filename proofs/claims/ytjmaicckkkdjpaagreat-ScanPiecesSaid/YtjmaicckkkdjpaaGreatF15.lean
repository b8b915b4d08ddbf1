import Derived.Test.YtjmaicckkkdjpaaGreatF14
import Derived.Test.YtjmaicckkkdjpaaGreatF51
set_option maxRecDepth 100000
set_option maxHeartbeats 1000000
set_option linter.unusedVariables false
set_option linter.unusedSimpArgs false
/- node.last, node.Child, node.Find. -/
namespace Go.Proofs.YtjmaicckkkdjpaaGreat
open Go.RowKit
attribute [local go_sem ↓ high] nodeLoadAt nodeLoadVar nodeStoreAt
attribute [local go_sem] ldM_run lvM_run stM_run Oper.semAt_some
def lastTo (n:NodeA) (q:Int) (k:Nat):Int:=match(((placesN n).take k).filter fun i=>decide (n.k i≤q)).getLast? with
 | some i=>(i:Int)
 | none=> -1
theorem lastTo_all (n:NodeA) (q:Int):lastTo n q (placesN n).length=lastN n q:=by unfold lastTo lastN;rw[List.take_length];cases((placesN n).filter fun i=>decide (n.k i≤q)).getLast?<;>rfl
theorem lastTo_succ {n:NodeA} {q:Int} {k i:Nat} (h:(placesN n)[k]?=some i):lastTo n q (k+1)=if n.k i≤q then(i:Int) else lastTo n q k:=by
 unfold lastTo
 rw[List.take_add_one,h]
 simp only[Option.toList_some,List.filter_append]
 by_cases hq:n.k i≤q
 ·rw[if_pos hq]
  simp[hq]
 ·rw[if_neg hq]
  simp[hq]
theorem lastN_lt (n:NodeA) (q:Int): -1≤lastN n q∧lastN n q<8:=by
 unfold lastN
 cases h:((placesN n).filter fun i=>decide (n.k i≤q)).getLast? with
 | none=>simp
 | some i=>
  have hm:=List.mem_of_getLast? h
  have:=places_lt n i (List.mem_filter.1 hm).1
  simp only[]
  omega
theorem Last_z (n:NodeA) (q:Int) (w:World):Calls Tryz.prog 195 #[.agg (nodeC n),.int .u64 q] w fun e w'=>e= .returned (.int .i64 (lastN n q))∧Below w.heap.size w w':=by
 obtain⟨W1,hW1,k1,hb1⟩:=nodeBox n w
 have hld:=node_ld k1
 have PL:=hid (NPlaces_z n W1)
 have HW:=hid hW1
 have HK:=hid k1
 have HB1:=hid hb1
 clear hW1 k1 hb1
 go_enter Tryz.func195,Tryz.ntmps195
 go_upto_region 1 with fail
 rw[show _=W1 from HW.out.symm]
 go_wp2_with fail
 refine PL.out.mono ?_
 rintro e w2 ⟨v,rfl,hown,hb2⟩
 obtain⟨c,hc⟩: ∃c,c=(placesN n).length:=⟨_,rfl⟩
 have hbb:Below w.heap.size w w2:=HB1.out.trans (hb2.mono HB1.out.size)
 have hK2:Blk w2 w.heap.size 77 (nodeC n):=HK.out.bel hb2
 rw[←hc] at hown
 obtain⟨p,cc,rfl⟩:=row_form1 hown
 have hc8:(c:Int)≤8:=by have:=places_len n;omega
 have HC:=hid hc
 have HO:=hid hown
 have HK2:=hid hK2
 have HBB:=hid hbb
 have hL0:Hid (lastTo n q 0= -1):=hid rfl
 clear hc hown hK2 hbb hb2 PL HB1 HK
 go_wp2_with fail
 go_loopw [5,11] (fun a i wr=> ∃k:Nat,k≤c∧i= .int .i64 (k:Int)∧(∃b:Int,a= .int .i64 b∧Hid (b=lastTo n q k))∧Hid (wr=w2)) (fun _ i _=>c- (intOf i).toNat)
 case atStart=>exact⟨0,Nat.zero_le _,rfl,⟨_,rfl,hL0.out.symm⟩,hid rfl⟩
 case round=>
  obtain⟨k,hk,rfl,⟨b,rfl,hb⟩,hw⟩:=hrel
  have hw:=hw.out
  subst hw
  by_cases hlt:k<c
  ·have i1:(k:Int)< (c:Int):=by omega
   have i0:(0:Int)≤(k:Int):=by omega
   obtain⟨i,hi⟩: ∃i,(placesN n)[k]?=some i:=⟨_,List.getElem?_eq_getElem (by rw[←HC.out];exact hlt)⟩
   have hi8:=places_lt n i (List.mem_of_getElem? hi)
   obtain⟨g,cap,hv,hlo,hcap,hgl,hcl⟩:=own_some HO.out (by omega)
   injection hv with hv1 _ hv2
   subst hv1
   have c1:wr.cell? ⟨g,k,none⟩=some (.int .i64 (i:Int)):=by
    have:=hcl k (.int .i64 (i:Int)) (by rw[List.getElem?_map,hi];rfl)
    rwa[Nat.zero_add] at this
   have c2:wr.cell? ⟨w.heap.size,5+i,none⟩=some (.int .u64 (n.k i)):=(HK2.out.cell _).trans (nodeC_k n hi8)
   have i3:(i:Int)<8:=by omega
   have i4:(0:Int)≤(i:Int):=by omega
   have hs:=lastTo_succ (q:=q) hi
   have HLT:=hid hlt
   by_cases hq:n.k i≤q
   ·rw[if_pos hq] at hs
    have HS:=hid hs
    clear hs hi hcl hlt hk hlo hcap hgl hv2
    go_wp2_with fail
    go_roundw
    case rel=>exact⟨k+1,HLT.out,by go_num,⟨_,rfl,HS.out.symm⟩,hid trivial⟩
    case measure=>simp[intOf];have:=HLT.out;omega
   ·rw[if_neg hq] at hs
    have HS:=hid hs
    clear hs hi hcl hlt hk hlo hcap hgl hv2
    go_wp2_with fail
    go_roundw
    case rel=>exact⟨k+1,HLT.out,by go_num,⟨_,rfl,hb.out.trans HS.out.symm⟩,hid trivial⟩
    case measure=>simp[intOf];have:=HLT.out;omega
  ·obtain rfl:k=c:=by omega
   have i1: ¬(k:Int)< (k:Int):=by omega
   have HB:Hid (b=lastN n q):=hid (hb.out.trans ((congrArg (lastTo n q) HC.out).trans (lastTo_all n q)))
   clear hlt hk
   go_wp2_with fail
   go_ret
   exact⟨by rw[←HB.out];rfl,HBB.out⟩
theorem Child_z (n:NodeA) (q:Int) (w:World):Calls Tryz.prog 191 #[.agg (nodeC n),.int .u64 q] w fun e w'=>e= .returned (.int .u64 (childN n q))∧Below w.heap.size w w':=by
 obtain⟨W1,hW1,k1,hb1⟩:=nodeBox n w
 have hld:=node_ld k1
 have LZ:=hid (Last_z n q W1)
 have HW:=hid hW1
 have HK:=hid k1
 have HB1:=hid hb1
 obtain⟨hl0,hl8⟩:=lastN_lt n q
 clear hW1 k1 hb1
 by_cases hneg:lastN n q<0
 ·have hch:childN n q=n.fi:=by unfold childN;rw[if_pos hneg]
  rw[hch]
  have b0: ¬(0≤lastN n q):=by omega
  obtain⟨L,hL⟩: ∃L,L=lastN n q:=⟨_,rfl⟩
  rw[←hL] at LZ b0
  clear hL hneg hl0 hl8 hch
  go_enter Tryz.func191,Tryz.ntmps191
  go_upto_region 1 with fail
  rw[show _=W1 from HW.out.symm]
  go_wp2_with fail
  refine LZ.out.mono ?_
  rintro e w2 ⟨rfl,hb2⟩
  have hK2:=HK.out.bel hb2
  have c4:w2.cell? ⟨w.heap.size,4,none⟩=some (.int .u64 n.fi):=hK2.cell 4
  have HB:=hid (HB1.out.trans (hb2.mono HB1.out.size))
  clear hb2 hK2
  go_wp2_with fail
  go_ret
  exact⟨rfl,HB.out⟩
 ·obtain⟨i,hi⟩: ∃i:Nat,lastN n q=(i:Int):=⟨(lastN n q).toNat,by omega⟩
  have hch:childN n q=n.p i:=by unfold childN;rw[if_neg hneg,hi];rfl
  rw[hch]
  rw[hi] at LZ hneg hl8
  have hi8:i<8:=by omega
  have i0:(0:Int)≤(i:Int):=by omega
  have HI:=hid hi8
  clear hi hneg hl0 hch
  go_enter Tryz.func191,Tryz.ntmps191
  go_upto_region 1 with fail
  rw[show _=W1 from HW.out.symm]
  go_wp2_with fail
  refine LZ.out.mono ?_
  rintro e w2 ⟨rfl,hb2⟩
  have hK2:=HK.out.bel hb2
  have c4:w2.cell? ⟨w.heap.size,13+i,none⟩=some (.int .u64 (n.p i)):=(hK2.cell _).trans (nodeC_p n HI.out)
  have HB:=hid (HB1.out.trans (hb2.mono HB1.out.size))
  clear hb2 hK2
  go_wp2_with fail
  go_ret
  exact⟨rfl,HB.out⟩
end Go.Proofs.YtjmaicckkkdjpaaGreat
/- A walk's object; how it comes to a node. -/
namespace Go.Proofs.YtjmaicckkkdjpaaGreat
open Go.RowKit
def wkFn (u:WkU):Nat:=match u with
 | .root=>121
 | .snap _=>181
 | .hop _=>190
def walkC (si:Nat) (x:WkP) (uv fv:Value):Array Value:= #[ptrV si,.int .i64 x.client,.int .u64 x.key,.int .i64 x.level,.int .u64 x.pa,
 .int .i64 x.pn.lv,.int .u64 x.pn.low,.int .u64 x.pn.nx,.int .u64 x.pn.ct,.int .u64 x.pn.fi,.int .u64 (x.pn.k 0),.int .u64 (x.pn.k 1),.int .u64 (x.pn.k 2),.int .u64 (x.pn.k 3),.int .u64 (x.pn.k 4),.int .u64 (x.pn.k 5),.int .u64 (x.pn.k 6),.int .u64 (x.pn.k 7),.int .u64 (x.pn.p 0),.int .u64 (x.pn.p 1),.int .u64 (x.pn.p 2),.int .u64 (x.pn.p 3),.int .u64 (x.pn.p 4),.int .u64 (x.pn.p 5),.int .u64 (x.pn.p 6),.int .u64 (x.pn.p 7),.int .u64 x.ph,.bool x.phas,.int .u64 x.low,.int .u64 x.dest,uv,fv,.bool x.over,.int .i64 x.e]
def placeC (a:Int) (n:NodeA) (h:Int) (hs:Bool):Array Value:= #[.int .u64 a,.int .i64 n.lv,.int .u64 n.low,.int .u64 n.nx,.int .u64 n.ct,.int .u64 n.fi,.int .u64 (n.k 0),.int .u64 (n.k 1),.int .u64 (n.k 2),.int .u64 (n.k 3),.int .u64 (n.k 4),.int .u64 (n.k 5),.int .u64 (n.k 6),.int .u64 (n.k 7),.int .u64 (n.p 0),.int .u64 (n.p 1),.int .u64 (n.p 2),.int .u64 (n.p 3),.int .u64 (n.p 4),.int .u64 (n.p 5),.int .u64 (n.p 6),.int .u64 (n.p 7),.int .u64 h,.bool hs]
theorem walkC_n (si:Nat) (x:WkP) (uv fv:Value) {i:Nat} (h:i<21):(walkC si x uv fv)[5+i]?=(nodeC x.pn)[i]?:=by
 rcases(by omega:i=0∨i=1∨i=2∨i=3∨i=4∨i=5∨i=6∨i=7∨i=8∨i=9∨i=10∨i=11∨i=12∨i=13∨i=14∨i=15∨i=16∨i=17∨i=18∨i=19∨i=20) with rfl | rfl | rfl | rfl | rfl | rfl | rfl | rfl | rfl | rfl | rfl | rfl | rfl | rfl | rfl | rfl | rfl | rfl | rfl | rfl | rfl<;>rfl
theorem walkC_P (si:Nat) (x:WkP) (uv fv:Value) (a:Int) (n:NodeA) (h:Int) (hs:Bool):setL (walkC si x uv fv) 4 (placeC a n h hs).toList=walkC si { x with pa:=a,pn:=n,ph:=h,phas:=hs } uv fv:=by kernel_rfl
theorem walkC_N (si:Nat) (x:WkP) (uv fv:Value) (n:NodeA):setL (walkC si x uv fv) 5 (nodeC n).toList=walkC si { x with pn:=n } uv fv:=by kernel_rfl
abbrev WkBlk (w:World) (g si:Nat) (x:WkP) (uv fv:Value):Prop:=Blk w g 232 (walkC si x uv fv)
theorem WkBlk.stn {w:World} {g si:Nat} {x:WkP} {uv fv:Value} (h:WkBlk w g si x uv fv) (n:NodeA): ∃W',stR Tryz.prog 77 (.pointer (some ⟨g,5,none⟩)) (.agg (nodeC n)) w= .ok () W'∧WkBlk W' g si { x with pn:=n } uv fv∧Only [g] w W':=
 ⟨_,Blk.stAt h 5 (by show 5+21≤34;omega) (by kernel_rfl) (by kernel_rfl),by have:=Blk.setCells (nodeC n).toList 5 h;rw[walkC_N] at this;exact this,Only.setCellsM g _ 5 w⟩
theorem WkBlk.stp {w:World} {g si:Nat} {x:WkP} {uv fv:Value} (h:WkBlk w g si x uv fv) (a:Int) (n:NodeA) (hi:Int) (hs:Bool): ∃W',stR Tryz.prog 229 (.pointer (some ⟨g,4,none⟩)) (.agg (placeC a n hi hs)) w= .ok () W'∧WkBlk W' g si { x with pa:=a,pn:=n,ph:=hi,phas:=hs } uv fv∧Only [g] w W':=
 ⟨_,Blk.stAt h 4 (by show 4+24≤34;omega) (by kernel_rfl) (by kernel_rfl),by have:=Blk.setCells (placeC a n hi hs).toList 4 h;rw[walkC_P] at this;exact this,Only.setCellsM g _ 4 w⟩
theorem WkBlk.ldn {w:World} {g si:Nat} {x:WkP} {uv fv:Value} (h:WkBlk w g si x uv fv):ldR Tryz.prog 77 (.pointer (some ⟨g,5,none⟩)) w= .ok (.agg (nodeC x.pn)) w:=h.ldAt 5 (xs:=nodeC x.pn) (fun j v hj=>by
 have hj2:j<21:=(Array.getElem?_eq_some_iff.1 hj).1
 rw[walkC_n si x uv fv hj2];exact hj) Tryz.underlying77 rfl (by kernel_rfl)
theorem plBuild (ps:Array (Nat×Value)):Instr.build 229 ps=bldMg 229 ps:=rfl
theorem plStore (p v:Value):Instr.storeAt 229 p v=stM 229 p v:=rfl
theorem wkBuild (ps:Array (Nat×Value)):Instr.build 232 ps=bldMg 232 ps:=rfl
theorem pl_bld (a:Int) (W:World):bldRg Tryz.prog 229 #[(0,.int .u64 a)] W= .ok (.agg (placeC a zeroN 0 false)) W:=by kernel_rfl
theorem wk_bld (si:Nat) (c q l:Int) (W:World):bldRg Tryz.prog 232 #[(0,ptrV si),(1,.int .i64 c),(2,.int .u64 q),(3,.int .i64 l)] W= .ok (.agg (walkC si (wkNew c q l) .nilIface .nilFunc)) W:=by kernel_rfl
attribute [local go_sem ↓ high] nodeLoadAt nodeLoadVar nodeStoreAt plBuild plStore wkBuild
attribute [local go_sem] ldM_run lvM_run stM_run Oper.semAt_some run_store_fnG bldMg_run
def WkU.at (w:World) (m:Nat) (u:WkU) (uv:Value) (f:List Nat):Prop:=match u with
 | .root=>uv= .nilIface∧f=[]
 | .snap s=> ∃b,uv= .iface 283 (ptrV b)∧SnIs w m b s∧f=[b]
 | .hop l=> ∃b r,uv= .iface 267 (ptrV b)∧LtIs w m b r l∧f=[b,r]
structure WkIs (w:World) (si m g:Nat) (x:WkP) (f:List Nat):Prop where
 obj: ∃uv,WkBlk w g si x uv (fnV (wkFn x.u) g)∧x.u.at w m uv f
 ne:g∉f
theorem WkU.at.only {w w':World} {m:Nat} {u:WkU} {uv:Value} {f ks:List Nat} (h:u.at w m uv f) (ho:Only ks w w') (hf: ∀y∈f,y∉ks):u.at w' m uv f:=by
 cases u with
 | root=>exact h
 | snap s=>
  obtain⟨b,h1,h2,rfl⟩:=h
  exact⟨b,h1,ho.blk h2 (hf b (by simp)),rfl⟩
 | hop l=>
  obtain⟨b,r,h1,⟨⟨p,c,h2,h3,h4⟩,h5,h6⟩,rfl⟩:=h
  refine⟨b,r,h1,⟨⟨p,c,ho.blk h2 (hf b (by simp)),h3,fun hn=> ?_⟩,Nat.lt_of_lt_of_le h5 ho.size,h6⟩,rfl⟩
  obtain⟨off,q1,q2⟩:=h4 hn
  exact⟨off,q1,fun i a hi=>(ho.cell (p:=⟨r,off+i,none⟩) h5 (hf r (by simp))).trans (q2 i a hi)⟩
theorem WkU.at.lt {w:World} {m:Nat} {u:WkU} {uv:Value} {f:List Nat} (h:u.at w m uv f): ∀y∈f,y<w.heap.size:=by
 cases u with
 | root=>obtain⟨_,rfl⟩:=h;simp
 | snap s=>
  obtain⟨b,h1,h2,rfl⟩:=h
  intro y hy
  rw[List.mem_singleton.1 hy];exact h2.lt
 | hop l=>
  obtain⟨b,r,h1,⟨⟨p,c,h2,h3,h4⟩,h5,h6⟩,rfl⟩:=h
  intro y hy
  simp at hy
  rcases hy with rfl | rfl
  ·exact h2.lt
  ·exact h5
theorem WkIs.only {w w':World} {si m g:Nat} {x:WkP} {f ks:List Nat} (h:WkIs w si m g x f) (ho:Only ks w w') (hg:g∉ks) (hf: ∀y∈f,y∉ks):WkIs w' si m g x f:=by
 obtain⟨⟨uv,h1,h2⟩,h3⟩:=h
 exact⟨⟨uv,ho.blk h1 hg,h2.only ho hf⟩,h3⟩
theorem WkIs.lt {w:World} {si m g:Nat} {x:WkP} {f:List Nat} (h:WkIs w si m g x f):g<w.heap.size∧ ∀y∈f,y<w.heap.size:=by
 obtain⟨⟨uv,h1,h2⟩,h3⟩:=h
 exact⟨h1.lt,h2.lt⟩
theorem XMem_c (si m:Nat) (w:World) (h:w.cell? ⟨si,0,none⟩=some (ptrV m)):Calls Tryz.prog 66 #[ptrV si] w fun e w'=>e= .returned (ptrV m)∧w'=w:=by
 go_enter Tryz.func66,Tryz.ntmps66
 go_wp2
 go_ret
 exact⟨rfl,rfl⟩
theorem WkNew_z (si:Nat) (c q l:Int) (w:World):Calls Tryz.prog 71 #[ptrV si,.int .i64 c,.int .u64 q,.int .i64 l] w fun e w'=> ∃g,e= .returned (ptrV g)∧w.heap.size≤g∧(∀m,WkIs w' si m g (wkNew c q l) [])∧Below w.heap.size w w':=by
 have BL:=fun W=>wk_bld si c q l W
 go_enter Tryz.func71,Tryz.ntmps71
 go_wp2_with fail
 go_ret
 exact⟨_,rfl,Nat.le_refl _,fun m=>⟨⟨.nilIface,Blk.new w 232 (walkC si (wkNew c q l) .nilIface (fnV 121 w.heap.size)),rfl,rfl⟩,by simp⟩,by(repeat(first | exact Below.refl _ _ | (refine ba ?_ _) | (refine Below.drew ?_) | (refine below_drewN ?_ _) | (refine Below.alloc ?_ (by first | omega | (simp;done) | (simp;omega)) _) | (refine Below.setCell ?_ (by first | omega | (simp;done) | (simp;omega)) _) | (refine bx ?_ (by assumption)) | (refine Below.trans ?_ (Below.mono (by assumption) (by first | omega | (simp;done) | (simp;omega))))))⟩
theorem Come_z (si m g:Nat) (x:WkP) (uv fv:Value) (a:Int) (w:World) (hs:WkBlk w g si x uv fv) (hsi:w.cell? ⟨si,0,none⟩=some (ptrV m)) (hsl:si<w.heap.size) (hne:si≠g):
  Calls Tryz.prog 154 #[ptrV g,.int .u64 a] w fun e w'=>e= .returned (.tuple #[])∧ ∃b,WkIs w' si m g (x.come a) [b]∧w.heap.size≤b∧Only [g] w w':=by
 obtain⟨W1,hst,k1,o1⟩:=WkBlk.stp hs a zeroN 0 false
 have BL:=fun W=>pl_bld a W
 have hsi1:W1.cell? ⟨si,0,none⟩=some (ptrV m):=(o1.cell (p:=⟨si,0,none⟩) hsl (by simpa using hne)).trans hsi
 have c0:W1.cell? ⟨g,0,none⟩=some (ptrV si):=k1.cell 0
 have MZ:=hid (XMem_c si m W1 hsi1)
 have SZ:=hid (SNew_s m a W1)
 have H1:=hid (⟨k1,o1⟩:_∧_)
 clear hs hsi hsi1 k1 o1
 go_enter Tryz.func154,Tryz.ntmps154
 go_wp2_with fail
 refine MZ.out.mono ?_
 rintro e w2 ⟨rfl,rfl⟩
 go_wp2_with fail
 refine SZ.out.mono ?_
 rintro e w3 ⟨b,rfl,hb,hsn,hbe⟩
 have hB3:=H1.out.1.bel hbe
 have c30:w3.cell? ⟨g,30,none⟩=some uv:=hB3.cell 30
 have c31:w3.cell? ⟨g,31,none⟩=some fv:=hB3.cell 31
 have f30:=hB3.frozen 30
 have f31:=hB3.frozen 31
 have H3:=hid (⟨hB3,hb,hsn,hbe⟩:_∧_∧_∧_)
 clear hB3 hb hsn hbe MZ SZ
 go_wp2_with fail
 refine bodyPost_end (v:= .tuple #[]) (by simp[results,Tryz.results154,go_sem]) rfl ?_
 obtain⟨hB3,hb,hsn,hbe⟩:=H3.out
 obtain⟨V,hV⟩: ∃V,V=(w3.setCell ⟨g,30,none⟩ (.iface 283 (ptrV b))).setCell ⟨g,31,none⟩ (fnV 181 g):=⟨_,rfl⟩
 have hO:Only [g] w3 V:=by rw[hV];exact(by repeat(first | exact Only.refl _ _ | (refine Only.drew ?_) | (refine Only.drewN ?_ _) | (refine Only.setCell ?_ (Or.inl (by simp)) _) | (refine Only.alloc ?_ _)))
 have hgb:g≠b:=fun e=>by have:=H1.out.1.lt;omega
 have hBV:WkBlk V g si { x with pa:=a,pn:=zeroN,ph:=0,phas:=false } (.iface 283 (ptrV b)) (fnV 181 g):=by rw[hV];exact(hB3.set_ 30 _).set_ 31 _
 rw[show _=V from hV.symm]
 refine⟨rfl,b,⟨⟨_,hBV,b,rfl,hO.blk hsn (by simpa using hgb.symm),rfl⟩,by simpa using hgb⟩,Nat.le_trans H1.out.2.size hb,(H1.out.2.trans (Only.of_below hbe [g]) (fun y hy=>Or.inl hy)).trans hO (fun y hy=>Or.inl hy)⟩
structure WkOK (v:List Int) (x:WkP):Prop where
 live:x.over=false
 e0:x.e=0
 level:x.level=0
 client:0≤x.client∧x.client≤64
 key:U64 x.key
 root:x.u= .root→inV v 16
 snap: ∀s,x.u= .snap s→SnOK v s∧((s.next v).over=true→0≤(s.next v).nd.lv)
 hop: ∀l,x.u= .hop l→l.over=false∧(0≤l.client∧l.client≤64)∧ ∀a∈l.lines,inV v a
def WkP.eff (x:WkP) (A:MA):MA:=if x.over=true then A else match x.u with
 | .hop l=>l.eff A
 | _=>A
theorem MSt.new {m:Nat} {B:MB} {K:Nat} {w w1:World} {M M':MemS} {ta:MA} {ks:List Nat} (h:MSt m B K w M w1 M' ta ks) {y:Nat} (hy:w1.heap.size≤y):w.heap.size≤y∧y∉footM m B M':=
 ⟨Nat.le_trans h.only.size hy,fun hc=>by have:=h.mems.is.foot_lt y hc;omega⟩
def WkPart (si m g:Nat) (B:MB) (M:MemS) (K:Nat) (x:WkP) (f:List Nat) (w:World) (e:Ending) (w':World):Prop:=
 e= .returned (.tuple #[.bool (x.next M.view).over,.int .i64 (x.next M.view).e])∧ ∃M' f',MSt m B K w M w' M' (x.eff (absM M)) (g::f)∧WkIs w' si m g { x.next M.view with over:=false,e:=0 } f'∧ ∀y∈f',y∈f∨(w.heap.size≤y∧y∉footM m B M')
structure WkIn (w:World) (si m g:Nat) (B:MB) (M:MemS) (K:Nat) (f:List Nat):Prop where
 mem:Mems w m B M K
 st:St64 M.st
 few:K≤1000000000
 sc:w.cell? ⟨si,0,none⟩=some (ptrV m)
 sil:si<w.heap.size
 sig:si≠g
 sif:si∉f
 sim:si∉footM m B M
 gm:g∉footM m B M
 fm: ∀y∈f,y∉footM m B M
theorem WRoot_z (si m g:Nat) (B:MB) (M:MemS) (K:Nat) (x:WkP) (f:List Nat) (hu:x.u= .root) (hok:WkOK M.view x) (w:World) (hin:WkIn w si m g B M K f) (hs:WkIs w si m g x f):
  Calls Tryz.prog 121 #[ptrV g] w (WkPart si m g B M K x f w):=by
 obtain⟨⟨uv,hb,hat⟩,hgf⟩:=hs
 obtain⟨q1,q2,q3,q4,q5,q6,q7,q8,q9,q10⟩:=hin
 have hinv:=hok.root hu
 have hn:x.next M.view=x.come (wdV M.view 16):=by unfold WkP.next;rw[if_neg (by rw[hok.live];simp),hu]
 have heff:x.eff (absM M)=absM M:=by unfold WkP.eff;rw[if_neg (by rw[hok.live];simp),hu]
 unfold WkPart
 rw[hn,heff]
 have hov:(x.come (wdV M.view 16)).over=false:=hok.live
 have he0:(x.come (wdV M.view 16)).e=0:=hok.e0
 rw[hov,he0]
 have MZ:=hid (XMem_c si m w q4)
 have RZ:=hid (RootAt_z w)
 have LZ:=hid (Load_a m B M 16 hinv w q1.is)
 obtain⟨A,hA⟩: ∃A,A=wdV M.view 16:=⟨_,rfl⟩
 rw[←hA] at LZ ⊢
 have c0:w.cell? ⟨g,0,none⟩=some (ptrV si):=hb.cell 0
 have HX:=hid (⟨q1,q2,hb,hgf,hok.live,hok.e0,q9⟩:_∧_∧_∧_∧_∧_∧_)
 have HSI:=hid (⟨q4,q5,q6,q8⟩:_∧_∧_∧_)
 clear hb hat hgf q1 q2 q3 q4 q5 q6 q7 q8 q9 q10 hok hinv hn heff hov he0 hA hu
 go_enter Tryz.func121,Tryz.ntmps121
 go_wp2_with fail
 refine MZ.out.mono ?_
 rintro e w1 ⟨rfl,rfl⟩
 go_wp2_with fail
 refine RZ.out.mono ?_
 rintro e w1 ⟨rfl,rfl⟩
 go_wp2_with fail
 refine LZ.out.mono ?_
 rintro e w2 ⟨rfl,hL⟩
 have hho:Only [m] w1 w2:=by obtain⟨_,_,_,_,_,_,ho⟩:=hL;exact ho
 have hgm:g≠m:=fun e=>HX.out.2.2.2.2.2.2 (by rw[e];simp[footM])
 have hB2:WkBlk w2 g si x uv (fnV (wkFn x.u) g):=hho.blk HX.out.2.2.1 (by simpa using hgm)
 have hsi2:w2.cell? ⟨si,0,none⟩=some (ptrV m):=(hho.cell (p:=⟨si,0,none⟩) HSI.out.2.1 (by simp only[List.mem_singleton];exact fun e=>HSI.out.2.2.2 (by rw[e];simp[footM]))).trans HSI.out.1
 have CZ:=hid (Come_z si m g x uv (fnV (wkFn x.u) g) A w2 hB2 hsi2 (Nat.lt_of_lt_of_le HSI.out.2.1 hho.size) HSI.out.2.2.1)
 obtain⟨M1,hM1⟩:=MSt.of_load (ks:=[]) HX.out.1 HX.out.2.1 hL
 have H2:=hid (⟨hM1,hho⟩:_∧_)
 clear hho hB2 hsi2 hM1 hL LZ RZ MZ
 go_wp2_with fail
 refine CZ.out.mono ?_
 rintro e w3 ⟨rfl,b,hW,hb3,ho3⟩
 have H3:=hid (⟨hW,hb3,ho3⟩:_∧_∧_)
 clear hW hb3 ho3 CZ
 go_wp2_with fail
 go_ret2
 obtain⟨hW,hb3,ho3⟩:=H3.out
 obtain⟨hM1,hho⟩:=H2.out
 refine⟨rfl,M1,[b],?_,?_,fun y hy=>Or.inr (hM1.new (by rw[List.mem_singleton.1 hy];exact hb3))⟩
 ·refine(hM1.mono (js:=g::f) (by simp)).turn (js:=[g]) ho3 (fun y hy=>⟨Or.inl (by rw[List.mem_singleton.1 hy];simp),?_⟩)
  rw[List.mem_singleton.1 hy]
  exact hM1.far HX.out.2.2.1.lt HX.out.2.2.2.2.2.2
 ·have e:({ x.come A with over:=false,e:=0 }:WkP)=x.come A:=by
   rw[show({ x.come A with over:=false,e:=0 }:WkP)={ x.come A with over:=x.over,e:=x.e } by rw[HX.out.2.2.2.2.1,HX.out.2.2.2.2.2.1]];rfl
  rw[e]
  exact hW
end Go.Proofs.YtjmaicckkkdjpaaGreat
