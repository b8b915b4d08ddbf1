/- The document's nodes: Len, Is, Places, Valid. -/
import Derived.Test.YtibiekfjbibpbaaGreatNodM
import Derived.Deep.CutBlock
import Derived.StillTailTactics
set_option maxRecDepth 100000
set_option maxHeartbeats 4000000
set_option linter.unusedVariables false
set_option linter.unusedSimpArgs false
namespace Go.Proofs.YtibiekfjbibpbaaGreat
open Go.RowKit
section
attribute [local go_sem ↓ high] nodeLoadAt nodeLoadVar nodeStoreAt ptrsLoadAt append_shut2
attribute [local go_sem] ldM_run lvM_run stM_run Oper.semAt_some appM2_run
theorem nodeBox (n:NodeA) (w:World): ∃W1,W1=w.alloc (.cells (nodeC n) 55)∧Blk W1 w.heap.size 55 (nodeC n)∧Below w.heap.size w W1:=⟨_,rfl,Blk.new _ _ _,ba (Below.refl _ _) _⟩
theorem RNLen_r (n:NodeA) (w:World):Calls Tryz.prog 20 #[.agg (nodeC n)] w fun e W'=>e= .returned (.int .i64 (lenN n:Int))∧Below w.heap.size w W':=by
 obtain⟨W1,hW1,k1,hb1⟩:=nodeBox n w
 have HK:=hid (⟨k1,hb1⟩:_∧_)
 have HW:=hid hW1
 clear k1 hb1 hW1
 go_enter Tryz.func20,Tryz.ntmps20
 go_upto_region 1 with fail
 rw[←HW.out]
 clear HW
 go_wp2
 go_loopw [3] (fun iv wr=> ∃k:Nat,k≤lenN n∧iv= .int .i64 k∧Hid (wr=W1)) (fun iv _=>(8- (intOf iv).toNat))
 case atStart=>exact⟨0,by omega,rfl,rfl⟩
 case round=>
  obtain⟨k,hk,rfl,hwr⟩:=hrel
  obtain rfl:=hwr.out
  have h8:=lenN_le n
  have k0:(0:Int)≤(k:Int):=by omega
  by_cases hk8:k<8
  ·have i1:(k:Int)<8:=by omega
   have c1:wr.cell? ⟨w.heap.size,13+k,none⟩=some (.int .u64 (n.p k)):=(HK.out.1.cell _).trans (nodeC_p n hk8)
   by_cases hlt:k<lenN n
   ·have hne:=lenN_lt n hlt
    have hb0:(n.p k !=0)=true:=by simpa using hne
    have HLT:=hid hlt
    clear hlt hk hne
    go_wp2
    go_roundw
    case rel=>exact⟨k+1,HLT.out,by go_num,(by first | exact hid rfl | exact hid trivial)⟩
    case measure=>simp[intOf];omega
   ·obtain rfl:k=lenN n:=by omega
    have h0:=lenN_at n hk8
    have hb0:(n.p (lenN n) !=0)=false:=by simpa using h0
    clear hlt hk h0
    go_wp2
    go_ret
    exact⟨rfl,HK.out.2⟩
  ·obtain rfl:k=8:=by omega
   have hl:lenN n=8:=by omega
   have i1: ¬((8:Nat):Int)<8:=by omega
   have HL:=hid hl
   clear hk hl hk8
   go_wp2
   go_ret
   exact⟨by rw[HL.out];rfl,HK.out.2⟩
theorem RNIs_r (n:NodeA) (i:Nat) (hi:i<8) (w:World):Calls Tryz.prog 249 #[.agg (nodeC n),.int .i64 (i:Int)] w fun e W'=>e= .returned (.bool (isN n i))∧Below w.heap.size w W':=by
 obtain⟨W1,hW1,k1,hb1⟩:=nodeBox n w
 have HB:=hid hb1
 have HW:=hid hW1
 by_cases h0:i=0
 ·subst h0
  have c1:W1.cell? ⟨w.heap.size,13,none⟩=some (.int .u64 (n.p 0)):=k1.cell 13
  have c2:W1.cell? ⟨w.heap.size,4,none⟩=some (.int .u64 n.fi):=k1.cell 4
  have he:(n.p 0 !=n.fi)=isN n 0:=rfl
  clear k1 hb1 hW1 hi
  go_enter Tryz.func249,Tryz.ntmps249
  go_upto_region 1 with fail
  rw[←HW.out]
  go_wp2
  go_ret
  exact⟨rfl,HB.out⟩
 ·obtain⟨j,hj⟩: ∃j,j=i-1:=⟨_,rfl⟩
  have c1:W1.cell? ⟨w.heap.size,13+i,none⟩=some (.int .u64 (n.p i)):=(k1.cell _).trans (nodeC_p n hi)
  have c2:W1.cell? ⟨w.heap.size,13+j,none⟩=some (.int .u64 (n.p j)):=(k1.cell _).trans (nodeC_p n (by omega))
  have he:(n.p i !=n.p j)=isN n i:=by unfold isN prevN;rw[if_neg h0,hj]
  have e0:((i:Int)==0)=false:=by simp;omega
  have e1:(i:Int)-1=(j:Int):=by omega
  have e2:IntKind.i64.wrap ((i:Int)-1)=(j:Int):=by rw[e1];exact IntWalk.i64_in _ (by constructor<;>omega)
  have j0:(0:Int)≤(i:Int):=by omega
  have j8:(i:Int)<8:=by omega
  have l0:(0:Int)≤(j:Int):=by omega
  have l8:(j:Int)<8:=by omega
  clear k1 hb1 hW1 hj
  go_enter Tryz.func249,Tryz.ntmps249
  go_upto_region 1 with fail
  rw[←HW.out]
  go_upto_region 3 with fail
  go_region
  go_wp2
  go_ret
  exact⟨rfl,HB.out.trans ((show Below W1.heap.size W1 W1.drew from⟨rfl,rfl,rfl,Nat.le_refl _,fun _ _=>rfl⟩).mono HB.out.size)⟩
structure RPlI (n:NodeA) (w w1:World) (k:Nat) (v:Value) (W:World):Prop where
 row:W.ownsRow w.heap.size 3 1 v (((List.range k).filter (isN n)).length) (((List.range k).filter (isN n)).map fun i:Nat=> .int .i64 (i:Int))
 new: ∀b,v.ownBlock=some b→w1.heap.size≤b
 bel:Below w1.heap.size w1 W
theorem RNPlaces_r (n:NodeA) (w:World):Calls Tryz.prog 213 #[.agg (nodeC n)] w fun e W'=> ∃v,e= .returned v∧W'.ownsRow w.heap.size 3 1 v (placesN n).length ((placesN n).map fun i:Nat=> .int .i64 (i:Int))∧Below w.heap.size w W':=by
 obtain⟨W1,hW1,k1,hb1⟩:=nodeBox n w
 have HK:=hid (⟨k1,hb1⟩:_∧_)
 have HW:=hid hW1
 have HI0:Hid (RPlI n w W1 0 (.slice none 0 0) W1):=⟨World.ownsRow_nil _ _ _ _,fun b hb=>by simp[Value.ownBlock] at hb,Below.refl _ _⟩
 clear k1 hb1 hW1
 go_enter Tryz.func213,Tryz.ntmps213
 go_upto_region 1 with fail
 rw[←HW.out]
 clear HW
 go_wp2
 go_loopw [3,4] (fun rv iv wr=> ∃k:Nat,k≤lenN n∧iv= .int .i64 k∧Hid (RPlI n w W1 k rv wr)) (fun _ iv _=>(lenN n- (intOf iv).toNat))
 case atStart=>exact⟨0,by omega,rfl,HI0⟩
 case round=>
  obtain⟨k,hk,rfl,hI⟩:=hrel
  have h8:=lenN_le n
  have k0:(0:Int)≤(k:Int):=by omega
  have kb:=HK.out.1.bel hI.out.bel
  have hld:=node_ld kb
  have LN:=hid (RNLen_r n wr)
  have HB0:=hid (HK.out.2.trans (hI.out.bel.mono HK.out.2.size))
  by_cases hlt:k<lenN n
  ·have i1:(k:Int)< (lenN n:Int):=by omega
   have IS:=hid (fun X=>RNIs_r n k (by omega) X)
   have HLT:=hid hlt
   have HKB:=hid kb
   clear kb hlt hk
   obtain⟨q,hq⟩: ∃q,q=lenN n:=⟨_,rfl⟩
   rw[←hq] at i1 LN
   have HQ:=hid hq
   have hq8:q≤8:=by rw[hq];exact lenN_le n
   clear hq
   go_wp2_with fail
   refine LN.out.mono ?_
   rintro e w5 ⟨rfl,hb5⟩
   have hld5:=node_ld (HKB.out.bel hb5)
   have HB5:=hid hb5
   clear hb5 hld
   go_wp2_with fail
   refine(IS.out _).mono ?_
   rintro e w6 ⟨rfl,hb6⟩
   have HB6:=hid (HB5.out.trans (hb6.mono HB5.out.size))
   clear hb6 hld5
   have er:List.range (k+1)=List.range k++[k]:=List.range_succ
   have hI6:=hid (⟨(Only.of_below HB6.out []).own hI.out.row (by simp),hI.out.new,hI.out.bel.trans (HB6.out.mono hI.out.bel.size)⟩:RPlI n w W1 k u3 w6)
   cases hv:isN n k
   ·have hI1:Hid (RPlI n w W1 (k+1) u3 w6):=by
     have e:(List.range (k+1)).filter (isN n)=(List.range k).filter (isN n):=by rw[er,List.filter_append,List.filter_cons_of_neg (by rw[hv];decide)];simp
     exact⟨by rw[e];exact hI6.out.row,hI6.out.new,hI6.out.bel⟩
    clear hv er
    go_wp2
    go_roundw
    case rel=>exact⟨k+1,by have h1:=HLT.out;have h2:=HQ.out;omega,by go_num,hI1⟩
    case measure=>simp[intOf];have:=HLT.out;have:=HQ.out;omega
   ·have hlen:=List.length_filter_le (isN n) (List.range k)
    obtain⟨v',w9,hrun,hown,hgr,hob⟩:=app_int w.heap.size (w6.alloc (.cells #[.int .i64 (k:Int)] 3)) (.slice (some ⟨w6.heap.size,0,none⟩) 1 1) (((List.range k).filter (isN n)).map fun i:Nat=>Value.int .i64 (i:Int)) [Value.int .i64 (k:Int)] u3 (Or.inr ⟨w6.heap.size,0,1,rfl,fun j u hj=>by
     rw[(Blk.new w6 3 #[.int .i64 (k:Int)]).cell (0+j),Nat.zero_add];simpa using hj⟩) (fun u hu=>by rw[List.mem_singleton.1 hu];rfl) (by rw[List.length_map];rw[List.length_range] at hlen;have:=HLT.out;simp;omega) (by have:=HB0.out.size;have:=HB6.out.size;simp;omega) ((show w6.ownsRow w.heap.size 3 1 u3 (((List.range k).filter (isN n)).map fun i:Nat=>Value.int .i64 (i:Int)).length (((List.range k).filter (isN n)).map fun i:Nat=>Value.int .i64 (i:Int)) from by rw[List.length_map];exact hI6.out.row).alloc _)
    obtain⟨a9,d9,rfl⟩:=row_form1 hown
    have hI1:Hid (RPlI n w W1 (k+1) (.slice a9 (((List.range k).filter (isN n)).length+1) d9) w9):=by
     have e:(List.range (k+1)).filter (isN n)=(List.range k).filter (isN n)++[k]:=by rw[er,List.filter_append,List.filter_cons_of_pos (by rw[hv])];simp
     have o9:Only u3.ownBlock.toList w6 w9:=((Only.refl _ w6).alloc _).trans (Only.of_grown hgr (fun k hk=>by simp[hk])) (fun k hk=>Or.inl hk)
     refine⟨?_,fun y hy=> ?_,hI6.out.bel.trans (o9.below (fun y hy=>hI6.out.new y (by simpa using hy)) hI6.out.bel.size)⟩
     ·rw[e,List.map_append,List.length_append]
      simpa using hown
     ·replace hy:(Value.slice a9 ((((List.range k).filter (isN n)).map fun i:Nat=>Value.int .i64 (i:Int))++[Value.int .i64 (k:Int)]).length d9).ownBlock=some y:=by
       rw[List.length_append,List.length_map];exact hy
      rcases hob with h | h
      ·exact hI6.out.new y (h▸hy)
      ·rw[h] at hy
       injection hy with hy
       have h1:=hI6.out.bel.size
       have h2:(w6.alloc (.cells #[.int .i64 (k:Int)] 3)).heap.size=w6.heap.size+1:=World.size_alloc _ _
       omega
    clear hv er hown hgr hob
    go_wp2
    go_roundw
    case rel=>exact⟨k+1,by have h1:=HLT.out;have h2:=HQ.out;omega,by go_num,hI1⟩
    case measure=>simp[intOf];have:=HLT.out;have:=HQ.out;omega
  ·obtain rfl:k=lenN n:=by omega
   have i1: ¬(lenN n:Int)< (lenN n:Int):=by omega
   clear hlt hk kb
   go_wp2_with fail
   refine LN.out.mono ?_
   rintro e w5 ⟨rfl,hb5⟩
   have HB5:=hid hb5
   clear hb5 hld
   go_wp2
   go_ret
   exact⟨_,rfl,(Only.of_below HB5.out []).own hI.out.row (by simp),HB0.out.trans (HB5.out.mono HB0.out.size)⟩
structure RVaI (n:NodeA) (w w2:World) (k:Nat) (v:Value) (W:World):Prop where
 row:W.ownsRow w.heap.size 166 2 v k (((validN n).take k).flatMap entC)
 new: ∀b,v.ownBlock=some b→w2.heap.size≤b
 bel:Below w2.heap.size w2 W
theorem RNValid_r (n:NodeA) (w:World):
  Calls Tryz.prog 160 #[.agg (nodeC n)] w fun e W'=> ∃v,e= .returned v∧W'.ownsRow w.heap.size 166 2 v (validN n).length ((validN n).flatMap entC)∧Below w.heap.size w W':=by
 obtain⟨W1,hW1,k1,hb1⟩:=nodeBox n w
 have hld:=node_ld k1
 have HP:=hid (RNPlaces_r n W1)
 have HW:=hid hW1
 have HK:=hid (⟨k1,hb1⟩:_∧_)
 clear k1 hb1 hW1
 go_enter Tryz.func160,Tryz.ntmps160
 go_upto_region 1 with fail
 rw[←HW.out]
 go_wp2_with fail
 refine HP.out.mono ?_
 rintro e w2 ⟨v,rfl,hrow,hb2⟩
 obtain⟨va,vc,rfl⟩:=row_form1 hrow
 have hnum:NumsAt .i64 w2 (.slice va (placesN n).length vc) ((placesN n).map fun i:Nat=>(i:Int)):=NumsAt.of_own (by rw[List.length_map,List.map_map];exact hrow)
 obtain⟨va',vc',hv',hcl⟩:=hnum
 rw[List.length_map] at hv'
 injection hv' with hv1 hv2 hv3
 subst hv1
 have kb:=HK.out.1.bel hb2
 have HC:=hid (⟨hcl,kb,HK.out.2.trans (hb2.mono HK.out.2.size),hb2⟩:_∧_∧_∧_)
 obtain⟨q,hq⟩: ∃q,q=(placesN n).length:=⟨_,rfl⟩
 have hq8:q≤8:=by rw[hq];exact places_len n
 rw[←hq]
 have HQ:=hid hq
 have HI0:Hid (RVaI n w w2 0 (.slice none 0 0) w2):=⟨World.ownsRow_nil _ _ _ _,fun b hb=>by simp[Value.ownBlock] at hb,Below.refl _ _⟩
 clear hrow hb2 hcl kb hq hld HP HW
 go_wp2
 go_loopw [3,5] (fun rv iv wr=> ∃k:Nat,k≤q∧iv= .int .i64 k∧Hid (RVaI n w w2 k rv wr)) (fun _ iv _=>(q- (intOf iv).toNat))
 case atStart=>exact⟨0,by omega,rfl,HI0⟩
 case round=>
  obtain⟨k,hk,rfl,hI⟩:=hrel
  by_cases hlt:k<q
  ·have i1:(k:Int)< (q:Int):=by omega
   have i0:(0:Int)≤(k:Int):=by omega
   have hkp:k< (placesN n).length:=by rw[←HQ.out];exact hlt
   obtain⟨i,hi⟩: ∃i,(placesN n)[k]?=some i:=⟨_,List.getElem?_eq_getElem hkp⟩
   have hi8:i<8:=places_lt n i (List.mem_of_getElem? hi)
   obtain⟨g,off,hva,hgl,hcl⟩:=HC.out.1.resolve_left (fun e=>by have h:=congrArg List.length e;simp at h;rw[h] at hi;simp at hi)
   subst hva
   have ci:wr.cell? ⟨g,off+k,none⟩=some (.int .i64 (i:Nat)):=(hI.out.bel.cell (p:=⟨g,off+k,none⟩) hgl).trans (hcl k _ (by rw[List.getElem?_map,hi];rfl))
   have kb:=HC.out.2.1.bel hI.out.bel
   obtain⟨W5,hW5⟩: ∃W5,W5=(wr.alloc (.cells #[.int .u64 (n.k i),.int .u64 (n.p i)] 166)).drew:=⟨_,rfl⟩
   have o5:Only [] wr W5:=by rw[hW5];exact((Only.refl [] wr).alloc _).drew
   have c1:wr.cell? ⟨w.heap.size,5+i,none⟩=some (.int .u64 (n.k i)):=(kb.cell _).trans (nodeC_k n hi8)
   have c2:wr.cell? ⟨w.heap.size,13+i,none⟩=some (.int .u64 (n.p i)):=(kb.cell _).trans (nodeC_p n hi8)
   have j0:(0:Int)≤(i:Int):=by omega
   have j8:(i:Int)<8:=by omega
   have hvl:((validN n).take k).length=k:=by rw[List.length_take];unfold validN;rw[List.length_map];omega
   obtain⟨v',w9,hrun,hown,hgr,hob⟩:=app_ent w.heap.size W5 (.slice (some ⟨wr.heap.size,0,none⟩) 1 1) _ k (by rw[entL_len,hvl]) (n.k i) (n.p i) _ (Or.inr ⟨wr.heap.size,0,1,rfl,fun j u hj=>by
    rw[hW5,((Blk.new wr 166 #[.int .u64 (n.k i),.int .u64 (n.p i)]).drew).cell (0+j),Nat.zero_add];simpa using hj⟩) (by omega) (by have:=o5.size;have:=HC.out.2.2.1.size;have:=hI.out.bel.size;omega) (o5.own hI.out.row (by simp))
   obtain⟨a9,d9,rfl⟩:=row_form1 hown
   have HN:=hid (⟨hown,hgr,hob,o5,hi,hkp⟩:_∧_∧_∧_∧_∧_)
   rw[hW5] at hrun
   clear hown hgr hob o5 hi hkp hcl
   go_upto_region 6 with fail
   go_region
   have oW:Only (u3.ownBlock.toList) wr w9:=(HN.out.2.2.2.1.mono (fun _ h=>by cases h)).trans (Only.of_grown HN.out.2.1 (fun k hk=>by simp[hk])) (fun k hk=>Or.inl hk)
   have hI1:Hid (RVaI n w w2 (k+1) (.slice a9 (k+1) d9) w9):=by
    refine⟨?_,fun b hb=> ?_,hI.out.bel.trans (oW.below (fun y hy=>hI.out.new y (by simpa using hy)) hI.out.bel.size)⟩
    ·have e:(validN n).take (k+1)=(validN n).take k++[(n.k i,n.p i)]:=by
      rw[List.take_add_one]
      have:(validN n)[k]?=some (n.k i,n.p i):=by unfold validN;rw[List.getElem?_map,HN.out.2.2.2.2.1];rfl
      rw[this];rfl
     rw[e,List.flatMap_append]
     exact HN.out.1
    ·rcases HN.out.2.2.1 with h | h
     ·exact hI.out.new b (h▸hb)
     ·rw[h] at hb
      injection hb with hb
      have h1:=HN.out.2.2.2.1.size
      have h2:=hI.out.bel.size
      omega
   have HLT:=hid hlt
   clear hrun oW ci c1 c2 hlt
   go_wp2
   go_roundw
   case rel=>exact⟨k+1,HLT.out,by go_num,hI1⟩
   case measure=>simp[intOf];have:=HLT.out;omega
  ·obtain rfl:k=q:=by omega
   have i1: ¬(k:Int)< (k:Int):=by omega
   clear hlt hk
   go_wp2
   go_ret
   have hl:(validN n).length=k:=by unfold validN;rw[List.length_map,HQ.out]
   have hr:=hI.out.row
   rw[List.take_of_length_le (by omega)] at hr
   exact⟨_,rfl,by rw[hl];exact hr,HC.out.2.2.1.trans (hI.out.bel.mono HC.out.2.2.1.size)⟩
end
section
attribute [local go_sem ↓ high] nodeLoadAt nodeLoadVar nodeStoreAt ptrsLoadAt append_shut2
attribute [local go_sem] ldM_run lvM_run stM_run Oper.semAt_some appM2_run
def EntsAt (w:World) (v:Value) (l:List (Int×Int)):Prop:=
 ∃ao cap,v= .slice ao l.length cap∧(l=[]∨ ∃b off,ao=some ⟨b,off,none⟩∧b<w.heap.size∧ ∀i x,l[i]?=some x→w.cell? ⟨b,off+i*2,none⟩=some (.int .u64 x.1)∧w.cell? ⟨b,off+i*2+1,none⟩=some (.int .u64 x.2))
theorem EntsAt.bel {w w':World} {v:Value} {l:List (Int×Int)} (h:EntsAt w v l) (hb:Below w.heap.size w w'):EntsAt w' v l:=by
 obtain⟨ao,cap,h1,h2⟩:=h
 refine⟨ao,cap,h1,?_⟩
 rcases h2 with h2 | ⟨b,off,h3,h4,h5⟩
 ·exact Or.inl h2
 ·exact Or.inr ⟨b,off,h3,Nat.lt_of_lt_of_le h4 hb.size,fun i x hi=>⟨(hb.cell (p:=⟨b,off+i*2,none⟩) h4).trans (h5 i x hi).1,(hb.cell (p:=⟨b,off+i*2+1,none⟩) h4).trans (h5 i x hi).2⟩⟩
theorem entL_at: ∀(l:List (Int×Int)) (i:Nat) (x:Int×Int),l[i]?=some x→(l.flatMap entC)[i*2]?=some (.int .u64 x.1)∧(l.flatMap entC)[i*2+1]?=some (.int .u64 x.2)
 | [],i,x,h=>by simp at h
 | y::l,0,x,h=>by
  simp at h;subst h
  exact⟨rfl,rfl⟩
 | y::l,i+1,x,h=>by
  have:=entL_at l i x (by simpa using h)
  rw[List.flatMap_cons,show(i+1)*2=(i*2)+1+1 by omega]
  exact this
theorem EntsAt.of_own {w:World} {base:Nat} {e:TypeId} {v:Value} {l:List (Int×Int)} (h:w.ownsRow base e 2 v l.length (l.flatMap entC)):EntsAt w v l:=by
 rcases h.2 with⟨rfl,h2⟩ | ⟨g,cap,cur,rfl,h2,h3,h4,h5,h6,h7⟩
 ·exact⟨none,0,by rw[h2],Or.inl (List.length_eq_zero_iff.1 h2)⟩
 ·refine⟨some ⟨g,0,none⟩,cap,rfl,Or.inr ⟨g,0,rfl,(Array.getElem?_eq_some_iff.1 h3).1,fun i x hi=> ?_⟩⟩
  have hl:i<l.length:=(List.getElem?_eq_some_iff.1 hi).1
  have hc:Blk w g e cur:=h3
  have key: ∀j v,j<l.length*2→(l.flatMap entC)[j]?=some v→w.cell? ⟨g,0+j,none⟩=some v:=fun j v hj hv=>by
   rw[hc.cell,Nat.zero_add,←Array.getElem?_toList]
   have:(cur.toList.take (l.length*2))[j]?=some v:=by rw[h7];exact hv
   rw[List.getElem?_take,if_pos hj] at this
   exact this
  exact⟨key _ _ (by omega) (entL_at l i x hi).1,key (i*2+1) _ (by omega) (entL_at l i x hi).2⟩
def t1N (lv low:Int) (x:Int×Int):Bool:=decide (x.1<low) || (decide (0<lv)&&decide (x.1=low))
def t2N (fi:Int) (l:List (Int×Int)) (x:Int×Int) (i:Nat):Bool:=(decide (0<i)&&decide (x.1≤(l.getD (i-1) (0,0)).1)) || decide (x.2=fi)
def badN (lv low fi:Int) (l:List (Int×Int)) (i:Nat):Bool:=
 let x:=l.getD i (0,0)
 t1N lv low x || t2N fi l x i || (l.take i).any fun y=>decide (y.2=x.2)
def riseN (lv low fi:Int) (l:List (Int×Int)):Bool:=(List.range l.length).all fun i=> !badN lv low fi l i
theorem rise_no {lv low fi:Int} {l:List (Int×Int)} {i:Nat} (hi:i<l.length) (h:badN lv low fi l i=true):riseN lv low fi l=false:=by
 unfold riseN
 rw[List.all_eq_false]
 exact⟨i,List.mem_range.2 hi,by simp[h]⟩
theorem rise_yes {lv low fi:Int} {l:List (Int×Int)} (h: ∀i,i<l.length→badN lv low fi l i=false):riseN lv low fi l=true:=by
 unfold riseN
 rw[List.all_eq_true]
 intro i hi
 rw[h i (List.mem_range.1 hi)];rfl
theorem getD_some {α:Type} {l:List α} {i:Nat} {x d:α} (h:l[i]?=some x):l.getD i d=x:=by rw[List.getD_eq_getElem?_getD,h];rfl
theorem belN2 (w:World) (n:Nat):Below w.heap.size w (w.drewN n):=⟨rfl,rfl,rfl,Nat.le_refl _,fun _ _=>rfl⟩
theorem RNRise_r (lv low fi:Int) (v:Value) (l:List (Int×Int)) (w:World) (h:EntsAt w v l) (h8:l.length≤8):
  Calls Tryz.prog 169 #[.int .i64 lv,.int .u64 low,.int .u64 fi,v] w fun e W'=>e= .returned (.bool (riseN lv low fi l))∧Below w.heap.size w W':=by
 obtain⟨ao,cap,rfl,hcl⟩:=h
 obtain⟨q,hq⟩: ∃q,q=l.length:=⟨_,rfl⟩
 rw[←hq] at h8 ⊢
 have HQ:=hid hq
 have HC:=hid hcl
 clear hcl hq
 go_enter Tryz.func169,Tryz.ntmps169
 go_wp2
 go_loopw [9,10] (fun iv kv wr=> ∃k:Nat,k≤q∧iv= .int .i64 k∧Hid (Below w.heap.size w wr)∧Hid (∀i,i<k→badN lv low fi l i=false)) (fun iv _ _=>(q- (intOf iv).toNat))
 case atStart=>exact⟨0,by omega,rfl,Below.refl _ _,fun i hi=>by omega⟩
 case round=>
  obtain⟨k,hk,rfl,hI,hOK⟩:=hrel
  by_cases hlt:k<q
  ·have i1:(k:Int)< (q:Int):=by omega
   have i0:(0:Int)≤(k:Int):=by omega
   obtain⟨x,hx⟩: ∃x,l[k]?=some x:=⟨_,List.getElem?_eq_getElem (by rw[←HQ.out];exact hlt)⟩
   obtain⟨g,off,hva,hgl,hcl⟩:=HC.out.resolve_left (fun e=>by rw[e] at hx;simp at hx)
   subst hva
   have HB:=hid (fun W (hb:Below w.heap.size w W) i y (hi:l[i]?=some y)=>(⟨(hb.cell (p:=⟨g,off+i*2,none⟩) hgl).trans (hcl i y hi).1,(hb.cell (p:=⟨g,off+i*2+1,none⟩) hgl).trans (hcl i y hi).2⟩:W.cell? ⟨g,off+i*2,none⟩=some (.int .u64 y.1)∧W.cell? ⟨g,off+i*2+1,none⟩=some (.int .u64 y.2)))
   have HX:=hid hx
   have HLT:=hid hlt
   have HBAD:=hid (show badN lv low fi l k=(t1N lv low x || t2N fi l x k || (l.take k).any fun y=>decide (y.2=x.2)) by unfold badN;rw[getD_some hx])
   obtain⟨c1,c2⟩:=HB.out wr hI.out k x hx
   clear hcl hx hlt hk HC
   go_upto_region 4 with fail
   go_cut [36] from 11 to 77 (fun s36 wc=>s36= .bool (t1N lv low x)∧Hid (wc=wr))
   case first=>
    by_cases b1:x.1<low
    ·go_wp2_with fail
     go_meet
     exact⟨by unfold t1N;simp[b1],rfl⟩
    ·by_cases b2:0<lv
     ·by_cases b3:x.1=low
      ·have b3':(x.1==low)=true:=by simpa using b3
       go_wp2_with fail
       go_meet
       exact⟨by unfold t1N;simp[b2,b3],rfl⟩
      ·have b3':(x.1==low)=false:=by simpa using b3
       go_wp2_with fail
       go_meet
       exact⟨by unfold t1N;simp;exact⟨by omega,fun _=>by omega⟩,rfl⟩
     ·go_wp2_with fail
      go_meet
      exact⟨by unfold t1N;simp;exact⟨by omega,fun _=>by omega⟩,rfl⟩
   case rest=>
    obtain⟨rfl,hwc⟩:=hcut
    obtain rfl:=hwc.out
    clear hwc
    obtain⟨b1,hb1⟩: ∃b1,b1=t1N lv low x:=⟨_,rfl⟩
    rw[←hb1] at HBAD ⊢
    clear hb1
    cases b1
    ·go_upto_region 6 with fail
     go_cut [61] from 37 to 77 (fun s61 wd=>s61= .bool (t2N fi l x k)∧Hid (Below w.heap.size w wd))
     case first=>
      have BD:=hid (fun nq=>hI.out.trans ((belN2 wc nq).mono hI.out.size))
      by_cases b2:0<k
      ·have d2:(0:Int)< (k:Int):=by omega
       have d3:((k:Int)-1).toNat=k-1:=by omega
       have d5:(k:Int)-1< (q:Int):=by omega
       have d6:(0:Int)≤(k:Int)-1:=by omega
       obtain⟨y,hy⟩: ∃y,l[k-1]?=some y:=⟨_,List.getElem?_eq_getElem (by have:=HLT.out;have:=HQ.out;omega)⟩
       obtain⟨c3,c4⟩:=HB.out wc hI.out (k-1) y hy
       have ht:t2N fi l x k=(decide (x.1≤y.1) || decide (x.2=fi)):=by unfold t2N;rw[getD_some hy];simp[b2]
       have HT:=hid ht
       clear hy ht c4
       by_cases b3:x.1≤y.1
       ·go_quiet (fail)
        go_wp2_with fail
        go_meet
        exact⟨by rw[HT.out];simp[b3],BD.out _⟩
       ·by_cases b4:x.2=fi
        ·have b4':(x.2==fi)=true:=by simpa using b4
         go_quiet (fail)
         go_wp2_with fail
         go_meet
         exact⟨by rw[HT.out];simp[b4],BD.out _⟩
        ·have b4':(x.2==fi)=false:=by simpa using b4
         go_quiet (fail)
         go_wp2_with fail
         go_meet
         exact⟨by rw[HT.out];simp[b3,b4],BD.out _⟩
      ·obtain rfl:k=0:=by omega
       have d2: ¬(0:Int)< ((0:Nat):Int):=by omega
       by_cases b4:x.2=fi
       ·have b4':(x.2==fi)=true:=by simpa using b4
        go_quiet (fail)
        go_wp2_with fail
        go_meet
        exact⟨by unfold t2N;simp[b4],BD.out _⟩
       ·have b4':(x.2==fi)=false:=by simpa using b4
        go_quiet (fail)
        go_wp2_with fail
        go_meet
        exact⟨by unfold t2N;simp[b4],BD.out _⟩
     case rest=>
      obtain⟨rfl,hI1⟩:=hcut
      clear c1 c2
      obtain⟨b2,hb2⟩: ∃b2,b2=t2N fi l x k:=⟨_,rfl⟩
      rw[←hb2] at HBAD ⊢
      clear hb2
      cases b2
      ·have HAT:=hid hgl
       clear hgl
       go_wp2
       go_loopw [10] (fun jv wj=> ∃j:Nat,j≤k∧jv= .int .i64 j∧Hid (Below w.heap.size w wj)∧Hid (∀i y,i<j→l[i]?=some y→y.2≠x.2)) (fun jv _=>(k- (intOf jv).toNat))
       case atStart=>exact⟨0,by omega,rfl,hI1,fun i y hi=>by omega⟩
       case round=>
        obtain⟨j,hj,rfl,hI2,hNE⟩:=hrel
        obtain⟨c1,c2⟩:=HB.out wr hI2.out k x HX.out
        by_cases hjk:j<k
        ·have e1:(j:Int)< (k:Int):=by omega
         have e0:(0:Int)≤(j:Int):=by omega
         have e2:(j:Int)< (q:Int):=by omega
         obtain⟨y,hy⟩: ∃y,l[j]?=some y:=⟨_,List.getElem?_eq_getElem (by have:=HLT.out;have:=HQ.out;omega)⟩
         obtain⟨c3,c4⟩:=HB.out wr hI2.out j y hy
         have HY:=hid hy
         have HJK:=hid hjk
         have BD:=hid (fun nq=>hI2.out.trans ((belN2 wr nq).mono hI2.out.size))
         clear hy hj hjk c1 c3
         by_cases h4:y.2=x.2
         ·have h4':(y.2==x.2)=true:=by simpa using h4
          have H4:=hid h4
          clear h4
          go_upto_region 11 with fail
          go_quiet (fail)
          go_wp2
          go_ret
          refine⟨?_,BD.out _⟩
          rw[rise_no (by rw[←HQ.out];exact HLT.out) (by
           rw[HBAD.out,Bool.or_eq_true];right
           rw[List.any_eq_true]
           exact⟨y,List.mem_of_getElem? (i:=j) (by rw[List.getElem?_take,if_pos HJK.out];exact HY.out),by simpa using H4.out⟩)]
          rfl
         ·have h4':(y.2==x.2)=false:=by simpa using h4
          have H4:=hid h4
          clear h4
          go_upto_region 11 with fail
          go_quiet (fail)
          go_wp2
          go_roundw
          case rel=>
           refine⟨j+1,HJK.out,by go_num,BD.out _,fun i z hi hz=> ?_⟩
           by_cases hij:i=j
           ·subst hij;rw[HY.out] at hz;injection hz with hz;subst hz;exact H4.out
           ·exact hNE.out i z (by omega) hz
          case measure=>simp[intOf];have:=HJK.out;omega
        ·obtain rfl:j=k:=by omega
         have e1: ¬(j:Int)< (j:Int):=by omega
         clear hjk hj
         go_wp2
         go_roundw
         case rel=>
          refine⟨j+1,HLT.out,by go_num,hI2,fun i hi=> ?_⟩
          by_cases hij:i=j
          ·subst hij
           rw[HBAD.out]
           simp only[Bool.false_or]
           rw[List.any_eq_false]
           intro y hy
           obtain⟨i2,h2⟩:=List.mem_iff_getElem?.1 hy
           rw[List.getElem?_take] at h2
           split at h2
           ·next h3=>simpa using hNE.out i2 y h3 h2
           ·cases h2
          ·exact hOK.out i (by omega)
         case measure=>simp[intOf];have:=HLT.out;omega
      ·go_wp2
       go_ret
       exact⟨by rw[rise_no (by rw[←HQ.out];exact HLT.out) (by rw[HBAD.out];rfl)];rfl,hI1.out⟩
    ·go_wp2
     go_ret
     exact⟨by rw[rise_no (by rw[←HQ.out];exact HLT.out) (by rw[HBAD.out];rfl)];rfl,hI.out⟩
  ·obtain rfl:k=q:=by omega
   have i1: ¬(k:Int)< (k:Int):=by omega
   clear hlt hk
   go_wp2
   go_ret
   exact⟨by rw[rise_yes (by rw[←HQ.out];exact hOK.out)];rfl,hI.out⟩
end
section
attribute [local go_sem ↓ high] nodeLoadAt nodeLoadVar nodeStoreAt ptrsLoadAt append_shut2
attribute [local go_sem] ldM_run lvM_run stM_run Oper.semAt_some appM2_run
def actE (high:Int) (has:Bool) (x:Int×Int):Bool:= !has || decide (x.1<high)
def activeN (n:NodeA) (high:Int) (has:Bool):List (Int×Int):=(validN n).filter (actE high has)
theorem valid_len (n:NodeA):(validN n).length≤8:=by unfold validN;rw[List.length_map];exact places_len n
def mayA (n:NodeA) (high:Int) (has:Bool):Bool:=decide (n.lv<0) || decide (15<n.lv) || decide (n.fi=0) || (has&&decide (high≤n.low))
def mayN (n:NodeA) (high:Int) (has:Bool):Bool:= !mayA n high has&&decide (lenN n≤(validN n).length+1)&&riseN n.lv n.low n.fi (validN n)
structure RAcI (n:NodeA) (high:Int) (has:Bool) (w w2:World) (k:Nat) (v:Value) (W:World):Prop where
 row:W.ownsRow w.heap.size 166 2 v (((validN n).take k).filter (actE high has)).length ((((validN n).take k).filter (actE high has)).flatMap entC)
 new: ∀b,v.ownBlock=some b→w2.heap.size≤b
 bel:Below w2.heap.size w2 W
theorem RNActive_r (n:NodeA) (high:Int) (has:Bool) (w:World):
  Calls Tryz.prog 74 #[.agg (nodeC n),.int .u64 high,.bool has] w fun e W'=> ∃v,e= .returned v∧W'.ownsRow w.heap.size 166 2 v (activeN n high has).length ((activeN n high has).flatMap entC)∧Below w.heap.size w W':=by
 obtain⟨W1,hW1,k1,hb1⟩:=nodeBox n w
 have hld:=node_ld k1
 have HP:=hid (RNValid_r n W1)
 have HW:=hid hW1
 have HK:=hid (⟨k1,hb1⟩:_∧_)
 clear k1 hb1 hW1
 go_enter Tryz.func74,Tryz.ntmps74
 go_upto_region 1 with fail
 rw[←HW.out]
 go_wp2_with fail
 refine HP.out.mono ?_
 rintro e w2 ⟨v,rfl,hrow,hb2⟩
 have hen:=EntsAt.of_own hrow
 obtain⟨va,vc,rfl,hcl⟩:=hen
 have HC:=hid (⟨hcl,HK.out.2.trans (hb2.mono HK.out.2.size)⟩:_∧_)
 obtain⟨q,hq⟩: ∃q,q=(validN n).length:=⟨_,rfl⟩
 have hq8:q≤8:=by rw[hq];exact valid_len n
 rw[←hq]
 have HQ:=hid hq
 have HI0:Hid (RAcI n high has w w2 0 (.slice none 0 0) w2):=⟨World.ownsRow_nil _ _ _ _,fun b hb=>by simp[Value.ownBlock] at hb,Below.refl _ _⟩
 clear hrow hb2 hcl hq hld HP HW
 go_wp2
 go_loopw [7,9] (fun rv iv wr=> ∃k:Nat,k≤q∧iv= .int .i64 k∧(∃m:Nat,m≤8∧ ∃ra rc,rv= .slice ra m rc∧Hid (m=(((validN n).take k).filter (actE high has)).length))∧Hid (RAcI n high has w w2 k rv wr)) (fun _ iv _=>(q- (intOf iv).toNat))
 case atStart=>exact⟨0,by omega,rfl,⟨0,by omega,none,0,rfl,rfl⟩,HI0⟩
 case round=>
  obtain⟨k,hk,rfl,⟨m,hm8,ra,rc,rfl,hm⟩,hI⟩:=hrel
  by_cases hlt:k<q
  ·have i1:(k:Int)< (q:Int):=by omega
   have i0:(0:Int)≤(k:Int):=by omega
   obtain⟨x,hx⟩: ∃x,(validN n)[k]?=some x:=⟨_,List.getElem?_eq_getElem (by rw[←HQ.out];exact hlt)⟩
   obtain⟨g,off,hva,hgl,hcl⟩:=HC.out.1.resolve_left (fun e=>by rw[e] at hx;simp at hx)
   subst hva
   have c1:wr.cell? ⟨g,off+k*2,none⟩=some (.int .u64 x.1):=(hI.out.bel.cell (p:=⟨g,off+k*2,none⟩) hgl).trans (hcl k x hx).1
   have c2:wr.cell? ⟨g,off+k*2+1,none⟩=some (.int .u64 x.2):=(hI.out.bel.cell (p:=⟨g,off+k*2+1,none⟩) hgl).trans (hcl k x hx).2
   have et:(validN n).take (k+1)=(validN n).take k++[x]:=by rw[List.take_add_one,hx];rfl
   have HE:=hid et
   have HLT:=hid hlt
   clear hcl hx hlt hk et hgl
   go_upto_region 6 with fail
   go_cut [28] from 12 to 35 (fun s28 wc=>s28= .bool (actE high has x)∧Hid (wc=wr))
   case first=>
    cases has
    ·go_wp2_with fail
     go_meet
     exact⟨rfl,rfl⟩
    ·by_cases b1:x.1<high
     ·go_wp2_with fail
      go_meet
      exact⟨by unfold actE;simp[b1],rfl⟩
     ·go_wp2_with fail
      go_meet
      exact⟨by unfold actE;simp;omega,rfl⟩
   case rest=>
    obtain⟨rfl,hwc⟩:=hcut
    obtain rfl:=hwc.out
    clear hwc
    obtain⟨b1,hb1⟩: ∃b1,b1=actE high has x:=⟨_,rfl⟩
    rw[←hb1]
    have HB1:=hid hb1
    clear hb1
    cases b1
    ·have ef:((validN n).take (k+1)).filter (actE high has)=((validN n).take k).filter (actE high has):=by
      rw[HE.out,List.filter_append,List.filter_cons_of_neg (by rw[←HB1.out];decide)];simp
     have hI1:Hid (RAcI n high has w w2 (k+1) (.slice ra m rc) wc):=⟨by rw[ef];exact hI.out.row,hI.out.new,hI.out.bel⟩
     have hm1:Hid (m=(((validN n).take (k+1)).filter (actE high has)).length):=by show m=_;rw[ef];exact hm.out
     clear ef c1 c2
     go_wp2
     go_roundw
     case rel=>exact⟨k+1,HLT.out,by go_num,⟨m,hm8,ra,rc,rfl,hm1⟩,hI1⟩
     case measure=>simp[intOf];have:=HLT.out;omega
    ·have ef:((validN n).take (k+1)).filter (actE high has)=((validN n).take k).filter (actE high has)++[x]:=by
      rw[HE.out,List.filter_append,List.filter_cons_of_pos (by rw[←HB1.out])];simp
     have hm7:m+1≤8:=by
      have h1:=List.length_filter_le (actE high has) ((validN n).take k)
      rw[List.length_take] at h1
      have:=hm.out;have:=HLT.out;omega
     obtain⟨W5,hW5⟩: ∃W5,W5=(wc.alloc (.cells #[.int .u64 x.1,.int .u64 x.2] 166)):=⟨_,rfl⟩
     have o5:Only [] wc W5:=by rw[hW5];exact((Only.refl [] wc).alloc _)
     obtain⟨v',w9,hrun,hown,hgr,hob⟩:=app_ent w.heap.size W5 (.slice (some ⟨wc.heap.size,0,none⟩) 1 1) _ m (by rw[entL_len,hm.out]) x.1 x.2 _ (Or.inr ⟨wc.heap.size,0,1,rfl,fun j u hj=>by
      rw[hW5,((Blk.new wc 166 #[.int .u64 x.1,.int .u64 x.2])).cell (0+j),Nat.zero_add];simpa using hj⟩) (by omega) (by have:=o5.size;have:=HC.out.2.size;have:=hI.out.bel.size;omega) (o5.own (by have:=hI.out.row;rw[←hm.out] at this;exact this) (by simp))
     obtain⟨a9,d9,rfl⟩:=row_form1 hown
     have HN:=hid (⟨hown,hgr,hob,o5⟩:_∧_∧_∧_)
     rw[hW5] at hrun
     have HM:=hid hm7
     clear hown hgr hob o5
     have oW:Only ((Value.slice ra m rc).ownBlock.toList) wc w9:=(HN.out.2.2.2.mono (fun _ h=>by cases h)).trans (Only.of_grown HN.out.2.1 (fun k hk=>by simp[hk])) (fun k hk=>Or.inl hk)
     have hI1:Hid (RAcI n high has w w2 (k+1) (.slice a9 (m+1) d9) w9):=by
      refine⟨?_,fun b hb=> ?_,hI.out.bel.trans (oW.below (fun y hy=>hI.out.new y (by simpa using hy)) hI.out.bel.size)⟩
      ·rw[ef,List.flatMap_append,List.length_append,←hm.out]
       exact HN.out.1
      ·rcases HN.out.2.2.1 with h | h
       ·exact hI.out.new b (h▸hb)
       ·rw[h] at hb
        injection hb with hb
        have h1:=HN.out.2.2.2.size
        have h2:=hI.out.bel.size
        omega
     have hm1:Hid (m+1=(((validN n).take (k+1)).filter (actE high has)).length):=by show m+1=_;rw[ef,List.length_append,←hm.out];rfl
     clear oW ef hm7
     go_wp2
     go_roundw
     case rel=>exact⟨k+1,HLT.out,by go_num,⟨m+1,HM.out,a9,d9,rfl,hm1⟩,hI1⟩
     case measure=>simp[intOf];have:=HLT.out;omega
  ·obtain rfl:k=q:=by omega
   have i1: ¬(k:Int)< (k:Int):=by omega
   clear hlt hk
   go_wp2
   go_ret
   have hr:=hI.out.row
   rw[List.take_of_length_le (by have:=HQ.out;omega)] at hr
   exact⟨_,rfl,hr,HC.out.2.trans (hI.out.bel.mono HC.out.2.size)⟩
theorem RNMay_r (n:NodeA) (high:Int) (has:Bool) (w:World):
  Calls Tryz.prog 96 #[.agg (nodeC n),.int .u64 high,.bool has] w fun e W'=>e= .returned (.bool (mayN n high has))∧Below w.heap.size w W':=by
 obtain⟨W1,hW1,k1,hb1⟩:=nodeBox n w
 have hld:=node_ld k1
 have c0:W1.cell? ⟨w.heap.size,0,none⟩=some (.int .i64 n.lv):=k1.cell 0
 have c1:W1.cell? ⟨w.heap.size,1,none⟩=some (.int .u64 n.low):=k1.cell 1
 have c4:W1.cell? ⟨w.heap.size,4,none⟩=some (.int .u64 n.fi):=k1.cell 4
 have HP:=hid (RNValid_r n W1)
 have HW:=hid hW1
 have HK:=hid (⟨k1,hb1⟩:_∧_)
 clear k1 hb1 hW1
 go_enter Tryz.func96,Tryz.ntmps96
 go_upto_region 1 with fail
 rw[←HW.out]
 go_cut [29] from 8 (fun s29 wc=>s29= .bool (mayA n high has)∧Hid (wc=W1))
 case first=>
  by_cases b1:n.lv<0
  ·go_wp2_with fail
   go_meet
   exact⟨by unfold mayA;simp[b1],rfl⟩
  ·by_cases b2:15<n.lv
   ·go_wp2_with fail
    go_meet
    exact⟨by unfold mayA;simp[b2],rfl⟩
   ·by_cases b3:n.fi=0
    ·have b3':(n.fi==0)=true:=by simpa using b3
     go_wp2_with fail
     go_meet
     exact⟨by unfold mayA;simp[b3],rfl⟩
    ·have b3':(n.fi==0)=false:=by simpa using b3
     cases has
     ·go_wp2_with fail
      go_meet
      exact⟨by unfold mayA;simp;refine⟨⟨by omega,by omega⟩,by omega⟩,rfl⟩
     ·by_cases b4:high≤n.low
      ·go_wp2_with fail
       go_meet
       exact⟨by unfold mayA;simp[b4],rfl⟩
      ·go_wp2_with fail
       go_meet
       exact⟨by unfold mayA;simp;refine⟨⟨⟨by omega,by omega⟩,by omega⟩,by omega⟩,rfl⟩
 case rest=>
  obtain⟨rfl,hwc⟩:=hcut
  obtain rfl:=hwc.out
  clear hwc c0 c1 c4
  obtain⟨b1,hb1⟩: ∃b1,b1=mayA n high has:=⟨_,rfl⟩
  rw[←hb1]
  have HM:=hid (show mayN n high has=(!b1&&decide (lenN n≤(validN n).length+1)&&riseN n.lv n.low n.fi (validN n)) by unfold mayN;rw[hb1])
  clear hb1
  cases b1
  ·go_wp2_with fail
   refine HP.out.mono ?_
   rintro e w2 ⟨v,rfl,hrow,hb2⟩
   have hen:=EntsAt.of_own hrow
   have LN:=hid (RNLen_r n w2)
   have kb:=HK.out.1.bel hb2
   have HB2:=hid (HK.out.2.trans (hb2.mono HK.out.2.size))
   have hld2:=node_ld kb
   have RI:=hid (fun W hb=>RNRise_r n.lv n.low n.fi v (validN n) W (hen.bel hb) (valid_len n))
   have HB:=hid (fun(W:World) (hb:Below w2.heap.size w2 W)=>kb.bel hb)
   obtain⟨va,vc,rfl,hcl⟩:=hen
   obtain⟨q,hq⟩: ∃q,q=(validN n).length:=⟨_,rfl⟩
   have hq8:q≤8:=by rw[hq];exact valid_len n
   rw[←hq] at RI HM ⊢
   have hl8:=lenN_le n
   clear hrow hb2 hcl hq hld kb
   go_wp2_with fail
   refine LN.out.mono ?_
   rintro e w3 ⟨rfl,hb3⟩
   have k3:=HB.out w3 hb3
   have c0:w3.cell? ⟨w.heap.size,0,none⟩=some (.int .i64 n.lv):=k3.cell 0
   have c1:w3.cell? ⟨w.heap.size,1,none⟩=some (.int .u64 n.low):=k3.cell 1
   have c4:w3.cell? ⟨w.heap.size,4,none⟩=some (.int .u64 n.fi):=k3.cell 4
   have RI3:=hid (RI.out w3 hb3)
   have HB3:=hid (HB2.out.trans (hb3.mono HB2.out.size))
   clear hb3 k3 RI
   by_cases b2:lenN n≤q+1
   ·have b2':(lenN n:Int)≤(q:Int)+1:=by omega
    go_wp2_with fail
    refine RI3.out.mono ?_
    rintro e w4 ⟨rfl,hb4⟩
    have HB4:=hid (HB3.out.trans (hb4.mono HB3.out.size))
    clear hb4
    go_wp2
    go_ret
    exact⟨by rw[HM.out,decide_eq_true b2];rfl,HB4.out⟩
   ·have b2': ¬(lenN n:Int)≤(q:Int)+1:=by omega
    go_wp2
    go_ret
    exact⟨by rw[HM.out,decide_eq_false (by omega)];rfl,HB3.out⟩
  ·go_wp2
   go_ret
   exact⟨by rw[HM.out];rfl,HK.out.2⟩
end
section
attribute [local go_sem ↓ high] nodeLoadAt nodeLoadVar nodeStoreAt ptrsLoadAt append_shut2
attribute [local go_sem] ldM_run lvM_run stM_run Oper.semAt_some appM2_run
def AsksE (F:Nat) (caps:Array Value) (l:List (Int×Int)) (p:Int×Int→Bool) (w:World):Prop:=
 ∀W,Below w.heap.size w W→ ∀x∈l,Calls Tryz.prog F (#[.agg #[.int .u64 x.1,.int .u64 x.2]]++caps) W fun e W'=>e= .returned (.bool (p x))∧Below W.heap.size W W'
theorem AsksE.bel {F:Nat} {caps:Array Value} {l:List (Int×Int)} {p:Int×Int→Bool} {w w':World} (h:AsksE F caps l p w) (hb:Below w.heap.size w w'):AsksE F caps l p w':=fun W hW x hx=>h W (hb.trans (hW.mono hb.size)) x hx
def idxE (l:List (Int×Int)) (p:Int×Int→Bool):Int:=if l.any p then(l.findIdx p:Int) else-1
theorem idxE_at {l:List (Int×Int)} {p:Int×Int→Bool} {k:Nat} {x:Int×Int} (hx:l[k]?=some x) (h0: ∀j y,j<k→l[j]?=some y→p y=false) (h1:p x=true):idxE l p=(k:Int):=by
 have hk:k<l.length:=(List.getElem?_eq_some_iff.1 hx).1
 have hk2:l[k]=x:=(List.getElem?_eq_some_iff.1 hx).2
 rw[idxE,if_pos (List.any_eq_true.2 ⟨x,List.mem_of_getElem? hx,h1⟩)]
 congr 1
 rw[List.findIdx_eq hk]
 exact⟨by rw[hk2];exact h1,fun j hj=>by simpa using h0 j l[j] hj (List.getElem?_eq_getElem (by omega))⟩
theorem idxE_no {l:List (Int×Int)} {p:Int×Int→Bool} (h0: ∀y∈l,p y=false):idxE l p= -1:=by
 rw[idxE,if_neg]
 rw[List.any_eq_true]
 rintro⟨y,hy,hp⟩
 rw[h0 y hy] at hp;cases hp
theorem idxE_z (F:Nat) (caps:Array Value) (l:List (Int×Int)) (p:Int×Int→Bool) (v:Value) (h8:l.length≤8) (w:World) (h:EntsAt w v l) (hF:AsksE F caps l p w) (hfc:(∃c,F=264∧caps= #[c])∨ ∃c d,F=267∧caps= #[c,d]):
  Calls Tryz.prog 274 #[v,.func (.func F) #[] caps] w fun e w'=>e= .returned (.int .i64 (idxE l p))∧Below w.heap.size w w':=by
 obtain⟨ao,cap,rfl,hcl⟩:=h
 obtain⟨n,hn⟩: ∃n,n=l.length:=⟨_,rfl⟩
 rw[←hn] at h8 ⊢
 have HN:=hid hn
 have HC:=hid hcl
 have HF:=hid hF
 clear hn hcl hF
 go_enter Tryz.func274,Tryz.ntmps274
 go_wp2
 go_loopw [8] (fun i wr=> ∃k:Nat,k≤n∧i= .int .i64 k∧Hid (Below w.heap.size w wr)∧Hid (∀j y,j<k→l[j]?=some y→p y=false)) (fun i _=>n- (intOf i).toNat)
 case atStart=>exact⟨0,Nat.zero_le _,rfl,Below.refl _ _,fun j y hj=>absurd hj (Nat.not_lt_zero _)⟩
 case round=>
  obtain⟨k,hk,rfl,hI,hA⟩:=hrel
  by_cases hkn:k<n
  ·have i1:(0:Int)≤(k:Int):=by omega
   have i2:(k:Int)< (n:Int):=by omega
   obtain⟨x,hx⟩: ∃x,l[k]?=some x:=⟨_,List.getElem?_eq_getElem (by rw[←HN.out];exact hkn)⟩
   obtain⟨g,off,hva,hgl,hcl⟩:=HC.out.resolve_left (fun e=>by rw[e] at hx;simp at hx)
   subst hva
   have c1:wr.cell? ⟨g,off+k*2,none⟩=some (.int .u64 x.1):=(hI.out.cell (p:=⟨g,off+k*2,none⟩) hgl).trans (hcl k x hx).1
   have c2:wr.cell? ⟨g,off+k*2+1,none⟩=some (.int .u64 x.2):=(hI.out.cell (p:=⟨g,off+k*2+1,none⟩) hgl).trans (hcl k x hx).2
   have HX:=hid hx
   have HK:=hid hkn
   have CF:=hid (HF.out wr hI.out x (List.mem_of_getElem? hx))
   clear hx hcl hkn hk HF HC
   rcases hfc with⟨c,rfl,rfl⟩ | ⟨c,d,rfl,rfl⟩
   all_goals
    go_wp2_with fail
    refine CF.out.mono ?_
    rintro e w2 ⟨rfl,hb2⟩
    have H2:=hid (hI.out.trans (hb2.mono hI.out.size))
    obtain⟨b,hb⟩: ∃b,b=p x:=⟨_,rfl⟩
    rw[←hb]
    have HB:=hid hb
    clear hb hb2 CF
    cases b
    ·go_wp2
     go_roundw
     case rel=>
      refine⟨k+1,HK.out,by go_num,H2,fun j y hj hy=> ?_⟩
      by_cases hjk:j=k
      ·subst hjk;rw[HX.out] at hy;injection hy with hy;subst hy;exact HB.out.symm
      ·exact hA.out j y (by omega) hy
     case measure=>simp[intOf];have:=HK.out;omega
    ·go_wp2
     go_ret
     exact⟨by rw[idxE_at HX.out hA.out HB.out.symm];rfl,H2.out⟩
  ·obtain rfl:k=n:=by omega
   have i2: ¬(k:Int)< (k:Int):=by omega
   clear hkn hk
   go_wp2
   go_ret
   exact⟨by
    rw[idxE_no (fun y hy=>by
     obtain⟨j,hj⟩:=List.mem_iff_getElem?.1 hy
     exact hA.out j y (by have:=(List.getElem?_eq_some_iff.1 hj).1;have:=HN.out;omega) hj)]
    rfl,hI.out⟩
theorem hasE_z (F:Nat) (caps:Array Value) (l:List (Int×Int)) (p:Int×Int→Bool) (v:Value) (h8:l.length≤8) (w:World) (h:EntsAt w v l) (hF:AsksE F caps l p w) (hfc:(∃c,F=264∧caps= #[c])∨ ∃c d,F=267∧caps= #[c,d]):
  Calls Tryz.prog 265 #[v,.func (.func F) #[] caps] w fun e w'=>e= .returned (.bool (l.any p))∧Below w.heap.size w w':=by
 have HI:=hid (idxE_z F caps l p v h8 w h hF hfc)
 obtain⟨ao,cap,rfl,_⟩:=h
 clear hF
 go_enter Tryz.func265,Tryz.ntmps265
 go_wp2_with fail
 refine HI.out.mono ?_
 rintro e w2 ⟨rfl,hb2⟩
 have HB:=hid hb2
 clear hb2
 obtain⟨i,hi⟩: ∃i,i=idxE l p:=⟨_,rfl⟩
 rw[←hi]
 cases hb:l.any p
 ·have e1:i<0:=by rw[hi,idxE,if_neg (by rw[hb];decide)];omega
  have H:=hid hb
  clear hi hb
  go_wp2
  go_ret
  refine⟨?_,HB.out⟩
  show Ending.returned (.bool (decide (0≤i)))=_
  rw[H.out,decide_eq_false (by omega)]
 ·have e1:0≤i:=by rw[hi,idxE,if_pos hb];omega
  have H:=hid hb
  clear hi hb
  go_wp2
  go_ret
  exact⟨by rw[H.out];rfl,HB.out⟩
theorem same1_z (B:Nat) (xk xp:Int) (k p:Int) (w:World) (h:w.cell? ⟨B,1,none⟩=some (.int .u64 xp)):Calls Tryz.prog 264 #[.agg #[.int .u64 k,.int .u64 p],.pointer (some ⟨B,0,none⟩)] w fun e w'=>e= .returned (.bool (decide (p=xp)))∧Below w.heap.size w w':=by
 have hBlt:=World.block_lt_of_cell? w _ h
 have hb1:Below w.heap.size w (w.alloc (.cells #[.int .u64 k,.int .u64 p] 166)):=ba (Below.refl _ _) _
 have c1:(w.alloc (.cells #[.int .u64 k,.int .u64 p] 166)).cell? ⟨B,1,none⟩=some (.int .u64 xp):=(hb1.cell (p:=⟨B,1,none⟩) hBlt).trans h
 have HB:=hid hb1
 clear hb1 hBlt
 go_enter Tryz.func264,Tryz.ntmps264
 by_cases hp:p=xp
 ·have e1:(p==xp)=true:=by simpa using hp
  have H:=hid hp
  clear hp
  go_wp2
  go_ret
  refine⟨?_,HB.out⟩
  show Ending.returned (.bool _)=_
  rw[decide_eq_true H.out]
 ·have e1:(p==xp)=false:=by simpa using hp
  have H:=hid hp
  clear hp
  go_wp2
  go_ret
  refine⟨?_,HB.out⟩
  show Ending.returned (.bool _)=_
  rw[decide_eq_false H.out]
end
section
attribute [local go_sem ↓ high] nodeLoadAt nodeLoadVar nodeStoreAt ptrsLoadAt append_shut2
attribute [local go_sem] ldM_run lvM_run stM_run Oper.semAt_some appM2_run
section
variable {P:Program} {ops:Array Oper} {w:World}
theorem wpStill_want {Q:Act→Prop} {a:Act} {o:Oper} {rest:List Oper} (hw:Region.wanted o (yielded ops a.tmps)=true) (h: ∀K:Act→Prop,(∀a,wpStill P ops w Q rest a→K a)→o.still P a w K):wpStill P ops w Q (o::rest) a:=
 wpStill_step fun K hK=>by rw[if_pos hw];exact h K hK
theorem wpStill_skip {Q:Act→Prop} {a:Act} {o:Oper} {rest:List Oper} (hw:Region.wanted o (yielded ops a.tmps)=false) (h: ∀K:Act→Prop,(∀a,wpStill P ops w Q rest a→K a)→K (a.put o.dst undef)):wpStill P ops w Q (o::rest) a:=
 wpStill_step fun K hK=>by rw[if_neg (by rw[hw];exact Bool.false_ne_true)];exact h K hK
end
theorem EntsAt.take {w:World} {v:Value} {l:List (Int×Int)} {ao:Option Addr} {cap:Nat} (h:EntsAt w v l) (hv:v= .slice ao l.length cap) (k:Nat) (hk:k≤l.length) (c:Nat):EntsAt w (.slice ao k c) (l.take k):=by
 obtain⟨ao',cap',rfl,h2⟩:=h
 injection hv with e1 e2 e3
 subst e1
 have hl:(l.take k).length=k:=by rw[List.length_take];omega
 refine⟨ao',c,by rw[hl],?_⟩
 rcases h2 with h2 | ⟨b,off,h3,h4,h5⟩
 ·left;rw[h2,List.take_nil]
 ·refine Or.inr ⟨b,off,h3,h4,fun i x hi=>h5 i x ?_⟩
  rw[List.getElem?_take] at hi
  split at hi
  ·exact hi
  ·cases hi
def CapOK (v:Value):Prop:= ∀ao n cap,v= .slice ao n cap→n≤cap
theorem CapOK.of_own {w:World} {base size n:Nat} {e:TypeId} {v:Value} {xs:List Value} (h:w.ownsRow base e size v n xs):CapOK v:=by
 intro ao m cap hv
 rcases h.2 with⟨rfl,_⟩ | ⟨g,c,cur,rfl,_,_,h4,_⟩
 ·injection hv with _ e1 e2;omega
 ·injection hv with _ e1 e2;omega
theorem NRise_z (lv low fi:Int) (v:Value) (l:List (Int×Int)) (w:World) (h:EntsAt w v l) (h8:l.length≤8) (hcv:CapOK v):
  Calls Tryz.prog 244 #[.int .i64 lv,.int .u64 low,.int .u64 fi,v] w fun e W'=>e= .returned (.bool (riseN lv low fi l))∧Below w.heap.size w W':=by
 have HEN:=hid h
 obtain⟨ao,cap,rfl,hcl⟩:=h
 have hqc:=hcv _ _ _ rfl
 clear hcv
 obtain⟨q,hq⟩: ∃q,q=l.length:=⟨_,rfl⟩
 rw[←hq] at h8 hqc ⊢
 have HEN2:=hid (fun(W:World) (hb:Below w.heap.size w W) (k:Nat) (hk:k≤q)=>(HEN.out.bel hb).take rfl k (by omega) cap)
 clear HEN
 have HQ:=hid hq
 have HC:=hid hcl
 clear hcl hq
 go_enter Tryz.func244,Tryz.ntmps244
 go_wp2
 go_loopw [9,10,11,14] (fun s9 s10 s11 iv wr=> ∃k:Nat,k≤q∧iv= .int .i64 k∧Hid (Below w.heap.size w wr)∧Hid (∀i,i<k→badN lv low fi l i=false)) (fun _ _ _ iv _=>(q- (intOf iv).toNat))
 case atStart=>exact⟨0,by omega,rfl,Below.refl _ _,fun i hi=>by omega⟩
 case round=>
  obtain⟨k,hk,rfl,hI,hOK⟩:=hrel
  by_cases hlt:k<q
  ·have i1:(k:Int)< (q:Int):=by omega
   have i0:(0:Int)≤(k:Int):=by omega
   obtain⟨x,hx⟩: ∃x,l[k]?=some x:=⟨_,List.getElem?_eq_getElem (by rw[←HQ.out];exact hlt)⟩
   obtain⟨g,off,hva,hgl,hcl⟩:=HC.out.resolve_left (fun e=>by rw[e] at hx;simp at hx)
   subst hva
   have HB:=hid (fun W (hb:Below w.heap.size w W) i y (hi:l[i]?=some y)=>(⟨(hb.cell (p:=⟨g,off+i*2,none⟩) hgl).trans (hcl i y hi).1,(hb.cell (p:=⟨g,off+i*2+1,none⟩) hgl).trans (hcl i y hi).2⟩:W.cell? ⟨g,off+i*2,none⟩=some (.int .u64 y.1)∧W.cell? ⟨g,off+i*2+1,none⟩=some (.int .u64 y.2)))
   have HX:=hid hx
   have HLT:=hid hlt
   have HBAD:=hid (show badN lv low fi l k=(t1N lv low x || t2N fi l x k || (l.take k).any fun y=>decide (y.2=x.2)) by unfold badN;rw[getD_some hx])
   obtain⟨c1,c2⟩:=HB.out wr hI.out k x hx
   clear hcl hx hlt hk HC
   obtain⟨W,hW⟩: ∃W,W=wr.alloc (.cells #[.int .u64 x.1,.int .u64 x.2] 166):=⟨_,rfl⟩
   have kB:Blk W wr.heap.size 166 #[.int .u64 x.1,.int .u64 x.2]:=by rw[hW];exact Blk.new _ _ _
   have hbW:Below w.heap.size w W:=by rw[hW];exact hI.out.trans ((ba (Below.refl _ _) _).mono hI.out.size)
   have d0:W.cell? ⟨wr.heap.size,0,none⟩=some (.int .u64 x.1):=kB.cell 0
   have d1:W.cell? ⟨wr.heap.size,1,none⟩=some (.int .u64 x.2):=kB.cell 1
   have i3:(k:Int)≤(cap:Int):=by omega
   have BD:=hid (show Below w.heap.size w W.drew from hbW.trans ((belDrew W).mono hbW.size))
   have CF:=hid (hasE_z 264 #[.pointer (some ⟨wr.heap.size,0,none⟩)] (l.take k) (fun y=>decide (y.2=x.2)) (.slice (some ⟨g,off,none⟩) k cap) (by rw[List.length_take];have:=HLT.out;omega) W.drew (HEN2.out _ BD.out k (Nat.le_of_lt HLT.out)) (fun W' hb' y _=>same1_z wr.heap.size x.1 x.2 y.1 y.2 W' ((hb'.cell (p:=⟨wr.heap.size,1,none⟩) (World.block_lt_of_cell? W.drew _ d1)).trans d1)) (Or.inl ⟨_,rfl,rfl⟩))
   have HW:=hid hW
   have HBW:=hid hbW
   go_upto_region 5 with fail
   rw[←HW.out]
   clear hW kB hbW c1 c2 hqc
   go_cut [61] from 20 (fun s61 wc=>s61= .bool (badN lv low fi l k)∧Hid (Below w.heap.size w wc))
   case first=>
    by_cases b1:x.1<low
    ·have HT:=hid (show badN lv low fi l k=true by rw[HBAD.out,show t1N lv low x=true by unfold t1N;simp[b1]];rfl)
     refine wp_region_still_tail 40 (by kernel_rfl) (by kernel_rfl) ?_
     simp only[List.take_succ_cons,List.take_zero,List.drop_succ_cons,List.drop_zero]
     iterate 5 (with_reducible refine wpStill_want ?_ (fun K hK=> ?_);(· kernel_rfl);go_simp;with_reducible refine hK _ ?_;clear hK K)
     iterate 8 (with_reducible refine wpStill_skip ?_ (fun K hK=> ?_);(· kernel_rfl);go_simp;with_reducible refine hK _ ?_;clear hK K)
     iterate 2 (with_reducible refine wpStill_want ?_ (fun K hK=> ?_);(· kernel_rfl);go_simp;with_reducible refine hK _ ?_;clear hK K)
     iterate 13 (with_reducible refine wpStill_skip ?_ (fun K hK=> ?_);(· kernel_rfl);go_simp;with_reducible refine hK _ ?_;clear hK K)
     iterate 2 (with_reducible refine wpStill_want ?_ (fun K hK=> ?_);(· kernel_rfl);go_simp;with_reducible refine hK _ ?_;clear hK K)
     iterate 4 (with_reducible refine wpStill_skip ?_ (fun K hK=> ?_);(· kernel_rfl);go_simp;with_reducible refine hK _ ?_;clear hK K)
     iterate 2 (with_reducible refine wpStill_want ?_ (fun K hK=> ?_);(· kernel_rfl);go_simp;with_reducible refine hK _ ?_;clear hK K)
     iterate 4 (with_reducible refine wpStill_skip ?_ (fun K hK=> ?_);(· kernel_rfl);go_simp;with_reducible refine hK _ ?_;clear hK K)
     with_reducible refine wpStill_nil ?_
     change wpList _ _ _ _ _ W.drew
     generalize W.drew=W2 at BD CF ⊢
     go_wp2_with fail
     go_meet
     exact⟨by rw[HT.out],BD.out⟩
    ·by_cases b2:0<lv
     ·by_cases b3:x.1=low
      ·have HT:=hid (show badN lv low fi l k=true by rw[HBAD.out,show t1N lv low x=true by unfold t1N;simp[b2,b3]];rfl)
       have b3':(x.1==low)=true:=by simpa using b3
       clear b3
       refine wp_region_still_tail 40 (by kernel_rfl) (by kernel_rfl) ?_
       simp only[List.take_succ_cons,List.take_zero,List.drop_succ_cons,List.drop_zero]
       iterate 15 (with_reducible refine wpStill_want ?_ (fun K hK=> ?_);(· kernel_rfl);go_simp;with_reducible refine hK _ ?_;clear hK K)
       iterate 13 (with_reducible refine wpStill_skip ?_ (fun K hK=> ?_);(· kernel_rfl);go_simp;with_reducible refine hK _ ?_;clear hK K)
       iterate 2 (with_reducible refine wpStill_want ?_ (fun K hK=> ?_);(· kernel_rfl);go_simp;with_reducible refine hK _ ?_;clear hK K)
       iterate 4 (with_reducible refine wpStill_skip ?_ (fun K hK=> ?_);(· kernel_rfl);go_simp;with_reducible refine hK _ ?_;clear hK K)
       iterate 2 (with_reducible refine wpStill_want ?_ (fun K hK=> ?_);(· kernel_rfl);go_simp;with_reducible refine hK _ ?_;clear hK K)
       iterate 4 (with_reducible refine wpStill_skip ?_ (fun K hK=> ?_);(· kernel_rfl);go_simp;with_reducible refine hK _ ?_;clear hK K)
       with_reducible refine wpStill_nil ?_
       change wpList _ _ _ _ _ W.drew
       generalize W.drew=W2 at BD CF ⊢
       go_wp2_with fail
       go_meet
       exact⟨by rw[HT.out],BD.out⟩
      ·have HT1:=hid (show t1N lv low x=false by unfold t1N;simp[decide_eq_false b1,decide_eq_false b3])
       have b3':(x.1==low)=false:=by simpa using b3
       clear b3
       by_cases b4:0<k
       ·obtain⟨m,hm⟩: ∃m,m=k-1:=⟨_,rfl⟩
        have d5:(m:Int)< (q:Int):=by omega
        have d6:(0:Int)≤(m:Int):=by omega
        have dw:IntKind.i64.wrap ((k:Int)-1)=(m:Int):=by rw[IntWalk.i64_in _ (by omega)];omega
        obtain⟨y,hy⟩: ∃y,l[m]?=some y:=⟨_,List.getElem?_eq_getElem (by have:=HLT.out;have:=HQ.out;omega)⟩
        have c3:W.cell? ⟨g,off+m*2,none⟩=some (.int .u64 y.1):=(HB.out W HBW.out m y hy).1
        have H2:=hid (show t2N fi l x k=(decide (x.1≤y.1) || decide (x.2=fi)) by unfold t2N;rw[←hm,getD_some hy];simp[b4])
        clear hy hm
        by_cases b5:x.1≤y.1
        ·have HT:=hid (show badN lv low fi l k=true by rw[HBAD.out,H2.out,decide_eq_true b5];simp)
         refine wp_region_still_tail 40 (by kernel_rfl) (by kernel_rfl) ?_
         simp only[List.take_succ_cons,List.take_zero,List.drop_succ_cons,List.drop_zero]
         iterate 30 (with_reducible refine wpStill_want ?_ (fun K hK=> ?_);(· kernel_rfl);go_simp;with_reducible refine hK _ ?_;clear hK K)
         iterate 4 (with_reducible refine wpStill_skip ?_ (fun K hK=> ?_);(· kernel_rfl);go_simp;with_reducible refine hK _ ?_;clear hK K)
         iterate 2 (with_reducible refine wpStill_want ?_ (fun K hK=> ?_);(· kernel_rfl);go_simp;with_reducible refine hK _ ?_;clear hK K)
         iterate 4 (with_reducible refine wpStill_skip ?_ (fun K hK=> ?_);(· kernel_rfl);go_simp;with_reducible refine hK _ ?_;clear hK K)
         with_reducible refine wpStill_nil ?_
         change wpList _ _ _ _ _ W.drew
         generalize W.drew=W2 at BD CF ⊢
         go_wp2_with fail
         go_meet
         exact⟨by rw[HT.out],BD.out⟩
        ·by_cases b6:x.2=fi
         ·have HT:=hid (show badN lv low fi l k=true by rw[HBAD.out,H2.out,decide_eq_true b6];simp)
          have b6':(x.2==fi)=true:=by simpa using b6
          clear b6
          refine wp_region_still_tail 40 (by kernel_rfl) (by kernel_rfl) ?_
          simp only[List.take_succ_cons,List.take_zero,List.drop_succ_cons,List.drop_zero]
          iterate 36 (with_reducible refine wpStill_want ?_ (fun K hK=> ?_);(· kernel_rfl);go_simp;with_reducible refine hK _ ?_;clear hK K)
          iterate 4 (with_reducible refine wpStill_skip ?_ (fun K hK=> ?_);(· kernel_rfl);go_simp;with_reducible refine hK _ ?_;clear hK K)
          with_reducible refine wpStill_nil ?_
          change wpList _ _ _ _ _ W.drew
          generalize W.drew=W2 at BD CF ⊢
          go_wp2_with fail
          go_meet
          exact⟨by rw[HT.out],BD.out⟩
         ·have HT:=hid (show badN lv low fi l k=(l.take k).any fun y=>decide (y.2=x.2) by rw[HBAD.out,HT1.out,H2.out,decide_eq_false b5,decide_eq_false b6];rfl)
          have b6':(x.2==fi)=false:=by simpa using b6
          clear b6
          refine wp_region_still_tail 40 (by kernel_rfl) (by kernel_rfl) ?_
          simp only[List.take_succ_cons,List.take_zero,List.drop_succ_cons,List.drop_zero]
          iterate 40 (with_reducible refine wpStill_want ?_ (fun K hK=> ?_);(· kernel_rfl);go_simp;with_reducible refine hK _ ?_;clear hK K)
          with_reducible refine wpStill_nil ?_
          change wpList _ _ _ _ _ W.drew
          generalize W.drew=W2 at BD CF ⊢
          go_wp2_with fail
          refine CF.out.mono ?_
          rintro e w3 ⟨rfl,hb3⟩
          have BD3:=hid (BD.out.trans (hb3.mono BD.out.size))
          clear hb3
          go_wp2_with fail
          go_meet
          exact⟨by rw[HT.out],BD3.out⟩
       ·obtain rfl:k=0:=by omega
        by_cases b6:x.2=fi
        ·have HT:=hid (show badN lv low fi l 0=true by rw[HBAD.out,show t2N fi l x 0=true by unfold t2N;simp[b6]];simp)
         have b6':(x.2==fi)=true:=by simpa using b6
         clear b6
         refine wp_region_still_tail 40 (by kernel_rfl) (by kernel_rfl) ?_
         simp only[List.take_succ_cons,List.take_zero,List.drop_succ_cons,List.drop_zero]
         iterate 18 (with_reducible refine wpStill_want ?_ (fun K hK=> ?_);(· kernel_rfl);go_simp;with_reducible refine hK _ ?_;clear hK K)
         iterate 9 (with_reducible refine wpStill_skip ?_ (fun K hK=> ?_);(· kernel_rfl);go_simp;with_reducible refine hK _ ?_;clear hK K)
         iterate 9 (with_reducible refine wpStill_want ?_ (fun K hK=> ?_);(· kernel_rfl);go_simp;with_reducible refine hK _ ?_;clear hK K)
         iterate 4 (with_reducible refine wpStill_skip ?_ (fun K hK=> ?_);(· kernel_rfl);go_simp;with_reducible refine hK _ ?_;clear hK K)
         with_reducible refine wpStill_nil ?_
         change wpList _ _ _ _ _ W.drew
         generalize W.drew=W2 at BD CF ⊢
         go_wp2_with fail
         go_meet
         exact⟨by rw[HT.out],BD.out⟩
        ·have HT:=hid (show badN lv low fi l 0=(l.take 0).any fun y=>decide (y.2=x.2) by rw[HBAD.out,HT1.out,show t2N fi l x 0=false by unfold t2N;simp[b6]];rfl)
         have b6':(x.2==fi)=false:=by simpa using b6
         clear b6
         refine wp_region_still_tail 40 (by kernel_rfl) (by kernel_rfl) ?_
         simp only[List.take_succ_cons,List.take_zero,List.drop_succ_cons,List.drop_zero]
         iterate 18 (with_reducible refine wpStill_want ?_ (fun K hK=> ?_);(· kernel_rfl);go_simp;with_reducible refine hK _ ?_;clear hK K)
         iterate 9 (with_reducible refine wpStill_skip ?_ (fun K hK=> ?_);(· kernel_rfl);go_simp;with_reducible refine hK _ ?_;clear hK K)
         iterate 13 (with_reducible refine wpStill_want ?_ (fun K hK=> ?_);(· kernel_rfl);go_simp;with_reducible refine hK _ ?_;clear hK K)
         with_reducible refine wpStill_nil ?_
         change wpList _ _ _ _ _ W.drew
         generalize W.drew=W2 at BD CF ⊢
         go_wp2_with fail
         refine CF.out.mono ?_
         rintro e w3 ⟨rfl,hb3⟩
         have BD3:=hid (BD.out.trans (hb3.mono BD.out.size))
         clear hb3
         go_wp2_with fail
         go_meet
         exact⟨by rw[HT.out,List.take_zero];rfl,BD3.out⟩
     ·have HT1:=hid (show t1N lv low x=false by unfold t1N;simp[decide_eq_false b1,decide_eq_false b2])
      by_cases b4:0<k
      ·obtain⟨m,hm⟩: ∃m,m=k-1:=⟨_,rfl⟩
       have d5:(m:Int)< (q:Int):=by omega
       have d6:(0:Int)≤(m:Int):=by omega
       have dw:IntKind.i64.wrap ((k:Int)-1)=(m:Int):=by rw[IntWalk.i64_in _ (by omega)];omega
       obtain⟨y,hy⟩: ∃y,l[m]?=some y:=⟨_,List.getElem?_eq_getElem (by have:=HLT.out;have:=HQ.out;omega)⟩
       have c3:W.cell? ⟨g,off+m*2,none⟩=some (.int .u64 y.1):=(HB.out W HBW.out m y hy).1
       have H2:=hid (show t2N fi l x k=(decide (x.1≤y.1) || decide (x.2=fi)) by unfold t2N;rw[←hm,getD_some hy];simp[b4])
       clear hy hm
       by_cases b5:x.1≤y.1
       ·have HT:=hid (show badN lv low fi l k=true by rw[HBAD.out,H2.out,decide_eq_true b5];simp)
        refine wp_region_still_tail 40 (by kernel_rfl) (by kernel_rfl) ?_
        simp only[List.take_succ_cons,List.take_zero,List.drop_succ_cons,List.drop_zero]
        iterate 8 (with_reducible refine wpStill_want ?_ (fun K hK=> ?_);(· kernel_rfl);go_simp;with_reducible refine hK _ ?_;clear hK K)
        iterate 4 (with_reducible refine wpStill_skip ?_ (fun K hK=> ?_);(· kernel_rfl);go_simp;with_reducible refine hK _ ?_;clear hK K)
        iterate 18 (with_reducible refine wpStill_want ?_ (fun K hK=> ?_);(· kernel_rfl);go_simp;with_reducible refine hK _ ?_;clear hK K)
        iterate 4 (with_reducible refine wpStill_skip ?_ (fun K hK=> ?_);(· kernel_rfl);go_simp;with_reducible refine hK _ ?_;clear hK K)
        iterate 2 (with_reducible refine wpStill_want ?_ (fun K hK=> ?_);(· kernel_rfl);go_simp;with_reducible refine hK _ ?_;clear hK K)
        iterate 4 (with_reducible refine wpStill_skip ?_ (fun K hK=> ?_);(· kernel_rfl);go_simp;with_reducible refine hK _ ?_;clear hK K)
        with_reducible refine wpStill_nil ?_
        change wpList _ _ _ _ _ W.drew
        generalize W.drew=W2 at BD CF ⊢
        go_wp2_with fail
        go_meet
        exact⟨by rw[HT.out],BD.out⟩
       ·by_cases b6:x.2=fi
        ·have HT:=hid (show badN lv low fi l k=true by rw[HBAD.out,H2.out,decide_eq_true b6];simp)
         have b6':(x.2==fi)=true:=by simpa using b6
         clear b6
         refine wp_region_still_tail 40 (by kernel_rfl) (by kernel_rfl) ?_
         simp only[List.take_succ_cons,List.take_zero,List.drop_succ_cons,List.drop_zero]
         iterate 8 (with_reducible refine wpStill_want ?_ (fun K hK=> ?_);(· kernel_rfl);go_simp;with_reducible refine hK _ ?_;clear hK K)
         iterate 4 (with_reducible refine wpStill_skip ?_ (fun K hK=> ?_);(· kernel_rfl);go_simp;with_reducible refine hK _ ?_;clear hK K)
         iterate 24 (with_reducible refine wpStill_want ?_ (fun K hK=> ?_);(· kernel_rfl);go_simp;with_reducible refine hK _ ?_;clear hK K)
         iterate 4 (with_reducible refine wpStill_skip ?_ (fun K hK=> ?_);(· kernel_rfl);go_simp;with_reducible refine hK _ ?_;clear hK K)
         with_reducible refine wpStill_nil ?_
         change wpList _ _ _ _ _ W.drew
         generalize W.drew=W2 at BD CF ⊢
         go_wp2_with fail
         go_meet
         exact⟨by rw[HT.out],BD.out⟩
        ·have HT:=hid (show badN lv low fi l k=(l.take k).any fun y=>decide (y.2=x.2) by rw[HBAD.out,HT1.out,H2.out,decide_eq_false b5,decide_eq_false b6];rfl)
         have b6':(x.2==fi)=false:=by simpa using b6
         clear b6
         refine wp_region_still_tail 40 (by kernel_rfl) (by kernel_rfl) ?_
         simp only[List.take_succ_cons,List.take_zero,List.drop_succ_cons,List.drop_zero]
         iterate 8 (with_reducible refine wpStill_want ?_ (fun K hK=> ?_);(· kernel_rfl);go_simp;with_reducible refine hK _ ?_;clear hK K)
         iterate 4 (with_reducible refine wpStill_skip ?_ (fun K hK=> ?_);(· kernel_rfl);go_simp;with_reducible refine hK _ ?_;clear hK K)
         iterate 28 (with_reducible refine wpStill_want ?_ (fun K hK=> ?_);(· kernel_rfl);go_simp;with_reducible refine hK _ ?_;clear hK K)
         with_reducible refine wpStill_nil ?_
         change wpList _ _ _ _ _ W.drew
         generalize W.drew=W2 at BD CF ⊢
         go_wp2_with fail
         refine CF.out.mono ?_
         rintro e w3 ⟨rfl,hb3⟩
         have BD3:=hid (BD.out.trans (hb3.mono BD.out.size))
         clear hb3
         go_wp2_with fail
         go_meet
         exact⟨by rw[HT.out],BD3.out⟩
      ·obtain rfl:k=0:=by omega
       by_cases b6:x.2=fi
       ·have HT:=hid (show badN lv low fi l 0=true by rw[HBAD.out,show t2N fi l x 0=true by unfold t2N;simp[b6]];simp)
        have b6':(x.2==fi)=true:=by simpa using b6
        clear b6
        refine wp_region_still_tail 40 (by kernel_rfl) (by kernel_rfl) ?_
        simp only[List.take_succ_cons,List.take_zero,List.drop_succ_cons,List.drop_zero]
        iterate 8 (with_reducible refine wpStill_want ?_ (fun K hK=> ?_);(· kernel_rfl);go_simp;with_reducible refine hK _ ?_;clear hK K)
        iterate 4 (with_reducible refine wpStill_skip ?_ (fun K hK=> ?_);(· kernel_rfl);go_simp;with_reducible refine hK _ ?_;clear hK K)
        iterate 6 (with_reducible refine wpStill_want ?_ (fun K hK=> ?_);(· kernel_rfl);go_simp;with_reducible refine hK _ ?_;clear hK K)
        iterate 9 (with_reducible refine wpStill_skip ?_ (fun K hK=> ?_);(· kernel_rfl);go_simp;with_reducible refine hK _ ?_;clear hK K)
        iterate 9 (with_reducible refine wpStill_want ?_ (fun K hK=> ?_);(· kernel_rfl);go_simp;with_reducible refine hK _ ?_;clear hK K)
        iterate 4 (with_reducible refine wpStill_skip ?_ (fun K hK=> ?_);(· kernel_rfl);go_simp;with_reducible refine hK _ ?_;clear hK K)
        with_reducible refine wpStill_nil ?_
        change wpList _ _ _ _ _ W.drew
        generalize W.drew=W2 at BD CF ⊢
        go_wp2_with fail
        go_meet
        exact⟨by rw[HT.out],BD.out⟩
       ·have HT:=hid (show badN lv low fi l 0=(l.take 0).any fun y=>decide (y.2=x.2) by rw[HBAD.out,HT1.out,show t2N fi l x 0=false by unfold t2N;simp[b6]];rfl)
        have b6':(x.2==fi)=false:=by simpa using b6
        clear b6
        refine wp_region_still_tail 40 (by kernel_rfl) (by kernel_rfl) ?_
        simp only[List.take_succ_cons,List.take_zero,List.drop_succ_cons,List.drop_zero]
        iterate 8 (with_reducible refine wpStill_want ?_ (fun K hK=> ?_);(· kernel_rfl);go_simp;with_reducible refine hK _ ?_;clear hK K)
        iterate 4 (with_reducible refine wpStill_skip ?_ (fun K hK=> ?_);(· kernel_rfl);go_simp;with_reducible refine hK _ ?_;clear hK K)
        iterate 6 (with_reducible refine wpStill_want ?_ (fun K hK=> ?_);(· kernel_rfl);go_simp;with_reducible refine hK _ ?_;clear hK K)
        iterate 9 (with_reducible refine wpStill_skip ?_ (fun K hK=> ?_);(· kernel_rfl);go_simp;with_reducible refine hK _ ?_;clear hK K)
        iterate 13 (with_reducible refine wpStill_want ?_ (fun K hK=> ?_);(· kernel_rfl);go_simp;with_reducible refine hK _ ?_;clear hK K)
        with_reducible refine wpStill_nil ?_
        change wpList _ _ _ _ _ W.drew
        generalize W.drew=W2 at BD CF ⊢
        go_wp2_with fail
        refine CF.out.mono ?_
        rintro e w3 ⟨rfl,hb3⟩
        have BD3:=hid (BD.out.trans (hb3.mono BD.out.size))
        clear hb3
        go_wp2_with fail
        go_meet
        exact⟨by rw[HT.out,List.take_zero];rfl,BD3.out⟩
   case rest=>
    obtain⟨rfl,hI1⟩:=hcut
    obtain⟨b,hb⟩: ∃b,b=badN lv low fi l k:=⟨_,rfl⟩
    rw[←hb]
    have HBB:=hid hb
    clear hb d0 d1 CF BD
    cases b
    ·go_wp2
     go_roundw
     case rel=>
      refine⟨k+1,HLT.out,by go_num,hI1,fun i hi=> ?_⟩
      by_cases hik:i=k
      ·subst hik;exact HBB.out.symm
      ·exact hOK.out i (by omega)
     case measure=>simp[intOf];have:=HLT.out;omega
    ·go_wp2
     go_ret
     exact⟨by rw[rise_no (by rw[←HQ.out];exact HLT.out) HBB.out.symm];rfl,hI1.out⟩
  ·obtain rfl:k=q:=by omega
   have i1: ¬(k:Int)< (k:Int):=by omega
   clear hlt hk
   go_wp2
   go_ret
   exact⟨by rw[rise_yes (by rw[←HQ.out];exact hOK.out)];rfl,hI.out⟩
end
section
attribute [local go_sem ↓ high] nodeLoadAt nodeLoadVar nodeStoreAt ptrsLoadAt append_shut2
attribute [local go_sem] ldM_run lvM_run stM_run Oper.semAt_some appM2_run
theorem NMay_z (n:NodeA) (high:Int) (has:Bool) (w:World):
  Calls Tryz.prog 206 #[.agg (nodeC n),.int .u64 high,.bool has] w fun e W'=>e= .returned (.bool (mayN n high has))∧Below w.heap.size w W':=by
 obtain⟨W1,hW1,k1,hb1⟩:=nodeBox n w
 have hld:=node_ld k1
 have HP:=hid (NValid_z n W1)
 have HW:=hid hW1
 have HK:=hid (⟨k1,hb1⟩:_∧_)
 clear k1 hb1 hW1
 go_enter Tryz.func206,Tryz.ntmps206
 go_upto_region 1 with fail
 rw[←HW.out]
 go_wp2_with fail
 refine HP.out.mono ?_
 rintro e w2 ⟨v,rfl,hrow,hb2⟩
 have hen:=EntsAt.of_own hrow
 have hcap:=CapOK.of_own hrow
 have LN:=hid (NLen_z n w2)
 have kb:=HK.out.1.bel hb2
 have HB2:=hid (HK.out.2.trans (hb2.mono HK.out.2.size))
 have hld2:=node_ld kb
 have c0:w2.cell? ⟨w.heap.size,0,none⟩=some (.int .i64 n.lv):=kb.cell 0
 have c1:w2.cell? ⟨w.heap.size,1,none⟩=some (.int .u64 n.low):=kb.cell 1
 have c4:w2.cell? ⟨w.heap.size,4,none⟩=some (.int .u64 n.fi):=kb.cell 4
 have RI:=hid (fun W hb=>NRise_z n.lv n.low n.fi v (validN n) W (hen.bel hb) (valid_len n) hcap)
 have HB:=hid (fun(W:World) (hb:Below w2.heap.size w2 W)=>kb.bel hb)
 obtain⟨va,vc,rfl,hcl⟩:=hen
 obtain⟨q,hq⟩: ∃q,q=(validN n).length:=⟨_,rfl⟩
 have hq8:q≤8:=by rw[hq];exact valid_len n
 have HM:=hid (show mayN n high has=(!mayA n high has&&decide (lenN n≤q+1)&&riseN n.lv n.low n.fi (validN n)) by rw[hq];rfl)
 rw[←hq] at RI ⊢
 have hl8:=lenN_le n
 clear hrow hb2 hcl hq hld kb hcap HW HP
 by_cases b1:n.lv<0
 ·have d1: ¬(0:Int)≤n.lv:=by omega
  have HA:=hid (show mayA n high has=true by unfold mayA;simp[b1])
  clear b1
  go_wp2
  go_ret
  exact⟨by rw[HM.out,HA.out];rfl,HB2.out⟩
 ·have d1:(0:Int)≤n.lv:=by omega
  by_cases b2:15<n.lv
  ·have d2: ¬n.lv≤15:=by omega
   have HA:=hid (show mayA n high has=true by unfold mayA;simp[b2])
   clear b1 b2
   go_wp2
   go_ret
   exact⟨by rw[HM.out,HA.out];rfl,HB2.out⟩
  ·have d2:n.lv≤15:=by omega
   by_cases b3:n.fi=0
   ·have d3:(n.fi !=0)=false:=by simpa using b3
    have HA:=hid (show mayA n high has=true by unfold mayA;simp[b3])
    clear b1 b2 b3
    go_wp2
    go_ret
    exact⟨by rw[HM.out,HA.out];rfl,HB2.out⟩
   ·have d3:(n.fi !=0)=true:=by simpa using b3
    have HA:=hid (show mayA n high has=(has&&decide (high≤n.low)) by unfold mayA;rw[decide_eq_false b1,decide_eq_false b2,decide_eq_false b3];rfl)
    clear b1 b2 b3
    go_wp2_with fail
    refine LN.out.mono ?_
    rintro e w3 ⟨rfl,hb3⟩
    have k3:=HB.out w3 hb3
    clear c0 c1 c4 hld2
    have c0:w3.cell? ⟨w.heap.size,0,none⟩=some (.int .i64 n.lv):=k3.cell 0
    have c1:w3.cell? ⟨w.heap.size,1,none⟩=some (.int .u64 n.low):=k3.cell 1
    have c4:w3.cell? ⟨w.heap.size,4,none⟩=some (.int .u64 n.fi):=k3.cell 4
    have RI3:=hid (RI.out w3 hb3)
    have HB3:=hid (HB2.out.trans (hb3.mono HB2.out.size))
    have HK3:=hid k3
    clear hb3 k3 RI
    by_cases b4:lenN n≤q+1
    ·have d4:(lenN n:Int)- (q:Int)≤1:=by omega
     have H4:=hid b4
     clear b4
     go_wp2_with fail
     refine RI3.out.mono ?_
     rintro e w4 ⟨rfl,hb4⟩
     have HB4:=hid (HB3.out.trans (hb4.mono HB3.out.size))
     have c1':w4.cell? ⟨w.heap.size,1,none⟩=some (.int .u64 n.low):=(HK3.out.bel hb4).cell 1
     clear hb4 c0 c1 c4
     obtain⟨b5,hb5⟩: ∃b5,b5=riseN n.lv n.low n.fi (validN n):=⟨_,rfl⟩
     rw[←hb5]
     have HM2:=hid (show mayN n high has=(!(has&&decide (high≤n.low))&&b5) by rw[HM.out,HA.out,decide_eq_true H4.out,hb5];simp)
     clear hb5
     cases b5
     ·go_wp2
      go_ret
      exact⟨by rw[HM2.out,Bool.and_false];rfl,HB4.out⟩
     ·cases has
      ·go_wp2
       go_ret
       exact⟨by rw[HM2.out];rfl,HB4.out⟩
      ·by_cases b6:n.low<high
       ·have H6:=hid b6
        go_wp2
        go_ret
        exact⟨by rw[HM2.out,decide_eq_false (show ¬high≤n.low by have:=H6.out;omega)];rfl,HB4.out⟩
       ·have H6:=hid b6
        go_wp2
        go_ret
        refine⟨?_,HB4.out⟩
        show Ending.returned (.bool (decide (n.low<high)))=_
        rw[HM2.out,decide_eq_true (show high≤n.low by have:=H6.out;omega),decide_eq_false (show ¬n.low<high by have:=H6.out;omega)];rfl
    ·have d4: ¬(lenN n:Int)- (q:Int)≤1:=by omega
     have H4:=hid b4
     clear b4
     go_wp2
     go_ret
     exact⟨by rw[HM.out,decide_eq_false H4.out,Bool.and_false];rfl,HB3.out⟩
end
end Go.Proofs.YtibiekfjbibpbaaGreat
