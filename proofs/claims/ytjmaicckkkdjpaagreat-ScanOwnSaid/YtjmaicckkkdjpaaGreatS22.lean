import Derived.Test.YtjmaicckkkdjpaaGreatS32
import Derived.ProofKit
import Derived.OpenShut
import Derived.Lib.SmallJoins
import Derived.Below
import Derived.ChangeOld
import Derived.Deep.Slices
import Derived.Deep.Fields
import Derived.ChangeSame
import Derived.SizedLaws
set_option maxRecDepth 100000
set_option maxHeartbeats 8000000
set_option linter.unusedVariables false
set_option linter.unusedSimpArgs false
/- What is laid, as the map has it: the document's map and a scan's answer are alike. -/
namespace Go.Proofs.YtjmaicckkkdjpaaGreat
open Go.RowKit
def prK (ks:List Nat):List (Int×ByteArray):=ks.map fun k:Nat=>((k:Int),strOfNums (numL k))
theorem placeI_all {k:Int}: ∀{ps:List (Int×ByteArray)},(∀p∈ps,p.1<k)→placeI k ps=ps.length
 | [],_=>rfl
 | p::ps,h=>by
  show(if p.1<k then placeI k ps+1 else 0)=_
  rw[if_pos (h p (by simp)),placeI_all (fun q hq=>h q (by simp[hq]))];rfl
theorem putM_end {k:Int} {s:ByteArray} {ps:List (Int×ByteArray)} (h: ∀p∈ps,p.1<k):putM k s ps=ps++[(k,s)]:=by
 have hp:=placeI_all h
 rw[putM_new (placeB_out (by omega)),hp,List.take_length,List.drop_length,List.append_nil]
theorem abs_plL {ks:List Nat} (hr:ks.Pairwise (· < ·)):absLQ (plL ks)=prK ks:=by
 induction ks using snocRec with
 | nil=>rfl
 | snoc L k ih=>
  rw[List.pairwise_append] at hr
  have e:plL (L++[k])=plL L++[((k:Int),strOfNums (numL k),false)]:=by unfold plL;rw[List.map_append];rfl
  rw[e,absL_put,ih hr.1,putM_end]
  ·unfold prK;rw[List.map_append];rfl
  ·intro p hp
   obtain⟨j,hj,rfl⟩:=List.mem_map.1 hp
   have:=hr.2.2 j hj k (by simp)
   show(j:Int)< (k:Int)
   omega
theorem ents_pr (ks:List Nat):(ents0 ks).map txtE2=prK ks:=by
 apply List.ext_getElem?
 intro i
 unfold prK
 rw[List.getElem?_map,List.getElem?_map]
 by_cases h:i<ks.length
 ·rw[ents0_at h,List.getElem?_eq_getElem h]
  show some (txtE2 _)=some _
  unfold txtE2
  rw[List.getD_eq_getElem?_getD,List.getElem?_eq_getElem h];rfl
 ·rw[List.getElem?_eq_none (by rw[ents0_len];omega),List.getElem?_eq_none (by omega)];rfl
theorem ans_all {ks:List Nat} (hk: ∀x∈ks,x<18446744073709551616) (hl:ks.length≤256):ansS ks 0 18446744073709551615 (256:Int).toNat=prK ks:=by
 rw[←ents_pr]
 unfold ansS
 have e:(ents0 ks).filter (rngB 0 18446744073709551615)=ents0 ks:=by
  rw[List.filter_eq_self]
  intro y hy
  obtain⟨i,hi⟩:=List.mem_iff_getElem?.1 hy
  have hlt:=(List.getElem?_eq_some_iff.1 hi).1
  rw[ents0_len] at hlt
  rw[ents0_at hlt] at hi
  injection hi with hi
  have h1:=hk (ks.getD i 0) (by rw[List.getD_eq_getElem?_getD,List.getElem?_eq_getElem hlt];exact List.getElem_mem _)
  rw[←hi]
  show decide ((0:Int)≤(ks.getD i 0:Int)∧(ks.getD i 0:Int)≤18446744073709551615)=true
  exact decide_eq_true ⟨by omega,by omega⟩
 rw[e,List.take_of_length_le (by rw[ents0_len];exact hl)]
theorem pairEq_refl (p:Int×ByteArray):pairEq p p=true:=by unfold pairEq;simp
theorem pairsEq_refl (ps:List (Int×ByteArray)):pairsEq ps ps=true:=pairsEq_all rfl (fun k h1 h2=>pairEq_refl _)
end Go.Proofs.YtjmaicckkkdjpaaGreat
/- The law ScanOwn, walked. -/
namespace Go.Proofs.YtjmaicckkkdjpaaGreat
open Go.RowKit
attribute [local go_sem ↓ high] laLoadAt21
attribute [local go_sem] ldM_run lvM_run stM_run Oper.semAt_some fldP
theorem sk_known (w W:World) (hb:Below w.heap.size w W):Calls Tryz.prog 28 #[] W fun e w'=>e= .returned (.bool true)∧Below w.heap.size w w':=by
 refine(Known21_z W).mono ?_
 rintro e w' ⟨h1,h2⟩
 exact⟨h1,bx hb h2⟩
def OwS (v:Value) (W6 wr:World):Prop:=Only v.ownBlock.toList W6 wr∧ ∀rb n cap,v= .slice (some ⟨rb,0,none⟩) n cap→ ∃cur:Array Value,Blk wr rb 96 cur∧cur.size=cap*2
theorem OwS.start {W6:World} {base n:Nat} {v:Value} {xs:List Value} (h:W6.ownsRow base 96 2 v n xs):OwS v W6 W6:=by
 refine⟨Only.refl _ _,fun rb m cap hv=> ?_⟩
 rcases h.2 with⟨h1,_⟩ | ⟨g,c,cur,h1,_,h3,_,_,h6,_⟩
 ·rw[hv] at h1;cases h1
 ·rw[hv] at h1
  injection h1 with h1 _ h2
  injection h1 with h1
  injection h1 with h1
  subst h1 h2
  exact⟨cur,h3,h6⟩
theorem OwS.put {W6 wr:World} {rb n cap k:Nat} (h:OwS (.slice (some ⟨rb,0,none⟩) n cap) W6 wr) (hk:k<cap) (x y:Value):(∃u,wr.cell? ⟨rb,k*2,none⟩=some u)∧wr.frozen? ⟨rb,k*2,none⟩=false∧(∃u,(wr.setCell ⟨rb,k*2,none⟩ x).cell? ⟨rb,k*2+1,none⟩=some u)∧(wr.setCell ⟨rb,k*2,none⟩ x).frozen? ⟨rb,k*2+1,none⟩=false∧OwS (.slice (some ⟨rb,0,none⟩) n cap) W6 ((wr.setCell ⟨rb,k*2,none⟩ x).setCell ⟨rb,k*2+1,none⟩ y):=by
 obtain⟨h1,h2⟩:=h
 obtain⟨cur,hB,hs⟩:=h2 rb n cap rfl
 have hB2:=hB.set_ (k*2) x
 refine⟨⟨_,(hB.cell (k*2)).trans (Array.getElem?_eq_getElem (by omega))⟩,hB.frozen _,⟨_,(hB2.cell (k*2+1)).trans (Array.getElem?_eq_getElem (by rw[Array.size_setIfInBounds];omega))⟩,hB2.frozen _,(h1.setCell (Or.inl (by simp[Value.ownBlock])) _).setCell (Or.inl (by simp[Value.ownBlock])) _,fun rb' n' cap' hv=> ?_⟩
 injection hv with hv _ h3
 injection hv with hv
 injection hv with hv
 subst hv h3
 exact⟨_,hB2.set_ (k*2+1) y,by rw[Array.size_setIfInBounds,Array.size_setIfInBounds];exact hs⟩
theorem ScanOwn_z (x:La) (kv:Value) (xs:List Int) (hxs: ∀y∈xs,U64 y) (hxl:xs.length≤9223372036854775807) (hx:I64 x.slabs∧I64 x.per∧I64 x.lag) (w:World) (hK:NumsAt .u64 w kv xs):
  Calls Tryz.prog 7 #[.agg (laC x kv)] w fun e w'=>e= .returned (.bool true)∧Below w.heap.size w w':=by
 obtain⟨W1,hW1⟩: ∃W1,W1=w.alloc (.cells (laC x kv) 86):=⟨_,rfl⟩
 have hb1:Below w.heap.size w W1:=by rw[hW1];exact ba (Below.refl _ _) _
 have k1:Blk W1 w.heap.size 86 (laC x kv):=by rw[hW1];exact Blk.new _ _ _
 have hld:=la_ld21 k1
 have AZ:=hid (SBegin_z x kv xs hxs hxl hx W1 (hK.bel hb1))
 have HW1:=hid hW1
 have HB1:=hid hb1
 have HK1:=hid k1
 have HX:=hid (⟨hxs,hK⟩:_∧_)
 clear hW1 hb1 k1 hxs hxl hx hK
 go_enter Tryz.func7,Tryz.ntmps7
 go_upto_region 1 with fail
 rw[show _=W1 from HW1.out.symm]
 go_wp2_with fail
 refine AZ.out.mono ?_
 rintro e W2 ⟨hb2,h2⟩
 have HB2:=hid (bx HB1.out hb2)
 have HB12:=hid hb2
 clear hld hb2 AZ
 rcases h2 with⟨rfl,_⟩ | ⟨wb,g,b,nb,R,lv,rows,K,si,m,MB,rfl,hW⟩
 ·go_wp2_with fail
  refine(sk_known w _ HB2.out).mono ?_
  rintro e w3 ⟨rfl,hb3⟩
  have HB3:=hid hb3
  clear hb3
  go_wp2
  go_ret
  exact⟨rfl,HB3.out⟩
 have hk1:W2.cell? ⟨wb,1,none⟩=some (ptrV si):=by obtain⟨_,_,_,_,_,_,hO,_⟩:=hW.ov;exact hO.blk.cell 1
 have HW:=hid hW
 have NZ:=hid (hW.start.new (Nat.le_refl _) 0 0 18446744073709551615 256)
 obtain⟨ks,hks⟩: ∃ks,ks=risKeys xs:=⟨_,rfl⟩
 have hkr:=risKeys_rise HX.out.1
 rw[←hks] at hkr
 have hkl:ks.length≤40:=by
  have h1:=hW.ok
  unfold LaOK at h1
  have h2:=risTo_len xs xs.length
  rw[hks];unfold risKeys;rw[List.length_map];omega
 have HKS:=hid (⟨hks,hkr,hkl⟩:_∧_∧_)
 clear hW hks hkr hkl
 go_wp2_with fail
 refine NZ.out.mono ?_
 rintro e W3 ⟨sg,f,rfl,hS3,hA3,hf3,hb3⟩
 obtain⟨L,hL⟩: ∃L:Nat,L=(nK (risKeys xs) x.per.toNat x.lag.toNat 0*(70*tK (risKeys xs) x.per.toNat x.lag.toNat (K+1)+40)+17*40):=⟨_,rfl⟩
 have e0:W3.drew.cell? ⟨wb,2,none⟩=some (ptrV m):=by obtain⟨⟨sp,h1⟩,_⟩:=HW.out.now (hS3.bel (Below.refl W3.heap.size W3).drew);exact h1.cell 2
 have KBo:Hid (Calls Tryz.prog 31 #[ptrV wb,.int .i64 40] W3.drew fun e w'=>e= .returned (.int .i64 (L:Int))∧w'=W3.drew):=hid (by
  have:=HW.out.boundAt (hS3.bel (Below.refl W3.heap.size W3).drew) 40 (by omega)
  rw[←hL] at this
  exact this)
 have KD:=HW.out.done (hS3.bel (Below.refl W3.heap.size W3).drew) 40 (by omega) (c:=0) (lo:=0) (hi:=18446744073709551615) (limit:=256) ⟨by omega,by omega⟩ (by omega) (by omega) (by omega) (by omega) (by omega) (hA3.bel (Below.refl W3.heap.size W3).drew) (by exact hb3.size)
 rw[←hL] at KD
 have KD:=hid KD
 have HL:=hid (hb3.size)
 clear hL hS3 hA3 hf3 hb3 NZ hk1
 go_upto_region 5 with fail
 go_region_held3 (fun X=>X.cell? ⟨wb,2,none⟩=some (ptrV m)) (first | go_keep | (exact sC) | (exact e0))
  (first
  | (go_at_call 31;refine KBo.out.mono ?_;rintro e w9 ⟨rfl,rfl⟩)
  | (go_at_call 30;refine KD.out.mono ?_;rintro e w4 ⟨xa,M1,f1,rfl,q1,q2,q3,q4,q5⟩;have sC:w4.cell? ⟨wb,2,none⟩=some (ptrV m):=(by obtain⟨⟨sp,h1⟩,_⟩:=HW.out.now q2;exact h1.cell 2);have HE:=hid (⟨q1,q2,q3,Nat.le_trans HL.out q5⟩:_∧_∧_∧_);clear q1 q2 q3 q4 q5))
 obtain⟨q1,q2,q3,q4⟩:=HE.out
 have hpa:xa.pairs=prK ks:=by
  rw[q1.pairs,←HKS.out.1]
  exact ans_all HKS.out.2.1.2 (by have:=HKS.out.2.2;omega)
 have hpl:(prK ks).length≤1000000:=by unfold prK;rw[List.length_map];have:=HKS.out.2.2;omega
 have HB4:Hid (Below w.heap.size w w4):=hid (HB2.out.trans ((HW.out.now q2).2.2.1.mono HB1.out.size))
 have HB14:Hid (Below W1.heap.size W1 w4):=hid (HB12.out.trans ((HW.out.now q2).2.2.1))
 have RA:Hid (∀X,ScAt W2 si m MB M1 sg xa f1 X→Calls Tryz.prog 32 #[ptrV sg] X (ScRsp (prK ks) X)):=hid fun X h=>by
  rw[←hpa]
  exact SResp_z si m sg xa f1 q1.done q1.e (by rw[hpa];exact hpl) X h.is
 have HA4:=hid q3
 clear q1 q2 q3 q4 hpa hpl HE KBo KD sC e0
 go_wp2_with fail
 refine(RA.out w4 HA4.out).mono ?_
 rintro e w5 ⟨v,rfl,hrow,hb5⟩
 obtain⟨n,hn⟩: ∃n,n=(prK ks).length:=⟨_,rfl⟩
 have hn40:n≤40:=by rw[hn];unfold prK;rw[List.length_map];exact HKS.out.2.2
 rw[←hn] at hrow
 obtain⟨va,vc,rfl⟩:=row_form1 hrow
 obtain⟨W6,hW6⟩: ∃W6,W6=w5.alloc (.cells #[.int .i64 0,.string { data:= #[] },.slice va n vc] 41):=⟨_,rfl⟩
 have hb6:Below w5.heap.size w5 W6:=by rw[hW6];exact ba (Below.refl _ _) _
 have k6:Blk W6 w5.heap.size 41 #[.int .i64 0,.string { data:= #[] },.slice va n vc]:=by rw[hW6];exact Blk.new _ _ _
 have hr6:W6.ownsRow w4.heap.size 96 2 (.slice va n vc) n (pc (prK ks)):=(Only.of_below hb6 []).own hrow (by simp)
 have hlb: ∀z,(Value.slice va n vc).ownBlock=some z→w4.heap.size≤z∧z<w5.heap.size:=fun z hz=>⟨own_base hrow z hz,own_blt hrow hz⟩
 have H6:=hid (⟨hr6,k6,hlb,hb5,hb6,hn⟩:_∧_∧_∧_∧_∧_)
 have HI0:Hid (OwS (.slice va n vc) W6 W6):=hid (OwS.start hr6)
 have HW6:=hid hW6
 obtain⟨b5,hb5e⟩: ∃b5,b5=w5.heap.size:=⟨_,rfl⟩
 have HB5:=hid hb5e
 clear hrow hb5 hb6 k6 hr6 hlb hn hW6
 unfold respP
 go_upto_region 8 with fail
 rw[show _=W6 from HW6.out.symm,←hb5e]
 clear hb5e
 go_wp2
 go_loopw [6] (fun iv wr=> ∃k:Nat,k≤n∧iv= .int .i64 k∧Hid (OwS (.slice va n vc) W6 wr)) (fun iv _=>n- (intOf iv).toNat)
 case atStart=>exact⟨0,Nat.zero_le _,rfl,HI0⟩
 case round=>
  obtain⟨k,hk,rfl,hI⟩:=hrel
  clear HI0
  obtain⟨wA,rfl⟩: ∃z,z=wr:=⟨_,rfl⟩
  have ca0:wA.cell? ⟨b5,2,none⟩=some (.slice va n vc):=by
   have h1:=H6.out.2.1
   rw[←HB5.out] at h1
   exact(hI.out.1.cell (p:=⟨b5,2,none⟩) h1.lt (fun h=>by have:=(H6.out.2.2.1 b5 (by simpa using h)).2;have:=HB5.out;omega)).trans (h1.cell 2)
  by_cases hlt:k<n
  ·have i1:(k:Int)< (n:Int):=by omega
   have i0:(0:Int)≤(k:Int):=by omega
   obtain⟨rb,hva,hcap⟩: ∃rb,va=some ⟨rb,0,none⟩∧n≤vc:=by
    rcases H6.out.1.2 with⟨h1,h0⟩ | ⟨rb,cap,cur,h1,_,_,h4,_⟩
    ·omega
    ·injection h1 with h1 _ h2
     exact⟨rb,h1,by omega⟩
   subst hva
   obtain⟨⟨u0,x0⟩,x1,⟨u1,x2⟩,x3,hI2⟩:=hI.out.put (by omega:k<vc) (.int .u64 1) (.string { data:= #[63] })
   have HI2:=hid hI2
   have kq:(n:Int)≤40:=by omega
   have HLT:=hid hlt
   clear hI2 hI hlt hk hcap
   go_wp2
   go_roundw
   case rel=>exact⟨k+1,by have:=HLT.out;omega,by go_num,HI2⟩
   case measure=>simp[intOf];have:=HLT.out;omega
  ·obtain rfl:k=n:=by omega
   have i1: ¬(k:Int)< (k:Int):=by omega
   obtain⟨hr6,k6,hlb,hb5,hb6,hn⟩:=H6.out
   have hb46:Below w4.heap.size w4 W6:=bx hb5 hb6
   have hbA:Below w4.heap.size w4 wA:=hb46.trans (hI.out.1.below (fun y hy=>(hlb y (by simpa using hy)).1) hb46.size)
   have KL:Hid (∀X,Below w4.heap.size w4 X→ldR Tryz.prog 86 (.pointer (some ⟨w.heap.size,0,none⟩)) X= .ok (.agg (laC x kv)) X):=hid fun X hb=>la_ld21 ((HK1.out.bel HB14.out).bel hb)
   have RA2:Hid (∀X,Below w4.heap.size w4 X→Calls Tryz.prog 32 #[ptrV sg] X fun e w'=> ∃a c,e= .returned (.agg (respP 0 { data:= #[] } (.slice a k c)))∧w'.ownsRow 0 96 2 (.slice a k c) k (pc (prK ks))∧Below X.heap.size X w'):=hid fun X hb=>(RA.out X (HA4.out.bel hb)).mono (by
    rintro e w' ⟨y,rfl,p2,p1⟩
    rw[←hn] at p2
    obtain⟨ya,yc,rfl⟩:=row_form1 p2
    exact⟨ya,yc,rfl,own_less p2 (Nat.zero_le _),p1⟩)
   have PZ:Hid (∀X,Below w4.heap.size w4 X→Calls Tryz.prog 34 #[.agg (laC x kv)] X fun e w'=> ∃r u,e= .returned (ptrV r)∧RefIs w' r u (plL ks)∧Below X.heap.size X w'):=hid fun X hb=>(Plain_z x kv xs HX.out.1 (by have:=HW.out.ok;unfold LaOK at this;omega) X (HX.out.2.bel (bx HB4.out hb))).mono (by
    rintro e w' ⟨r,u,rfl,h1,_,_,h4⟩
    rw[←HKS.out.1] at h1
    exact⟨r,u,rfl,h1,h4⟩)
   have PP:Hid (∀X r u,RefIs X r u (plL ks)→Calls Tryz.prog 35 #[ptrV r] X fun e w'=> ∃a c,e= .returned (.slice a k c)∧w'.ownsRow 0 96 2 (.slice a k c) k (pc (prK ks))∧Below X.heap.size X w'):=hid fun X r u h=>(RPairs_z r u (plL ks) X h).mono (by
    rintro e w' ⟨y,rfl,p2,p1⟩
    rw[abs_plL HKS.out.2.1.1,←hn] at p2
    obtain⟨ya,yc,rfl⟩:=row_form1 p2
    exact⟨ya,yc,rfl,own_less p2 (Nat.zero_le _),p1⟩)
   have SPP:Hid (∀X a c a2 c2,X.ownsRow 0 96 2 (.slice a k c) k (pc (prK ks))→X.ownsRow 0 96 2 (.slice a2 k c2) k (pc (prK ks))→Calls Tryz.prog 33 #[.slice a k c,.slice a2 k c2] X fun e w'=>e= .returned (.bool true)∧Below X.heap.size X w'):=hid fun X a c a2 c2 h1 h2=>by
    rw[hn] at h1 h2 ⊢
    refine(RSamePairs_z _ _ (prK ks) (prK ks) X h1 h2 (by rw[←hn];omega) (by rw[←hn];omega)).mono ?_
    rintro e w' ⟨rfl,h⟩
    rw[pairsEq_refl]
    exact⟨rfl,h⟩
   have KK:=hid (fun X=>Known21_z X)
   have HBA:=hid hbA
   have hbW:Below w4.heap.size w4 wA.drew:=hbA.drew
   have e0:=KL.out wA.drew hbW
   clear hI hr6 k6 hlb hb5 hb6 hn hb46 hbA hlt hk RA H6
   go_upto_region 12 with fail
   clear ca0 i1
   go_region_held3 (fun X=>ldR Tryz.prog 86 (.pointer (some ⟨w.heap.size,0,none⟩)) X= .ok (.agg (laC x kv)) X) (first | (refine KL.out _ ?_;(repeat(first | assumption | exact Below.refl _ _ | refine Below.drew ?_ | refine ba ?_ _));done))
    (first
    | (go_at_call 28;(with_reducible refine(KK.out _).mono ?_);rintro e v5 ⟨rfl,p1⟩;have hv5:Below w4.heap.size w4 v5:=bx hv4 p1;clear p1)
    | (have hq:=SPP.out v3 _ _ _ _ HR1.out HP3.out;go_at_call 33;(with_reducible refine hq.mono ?_);rintro e v4 ⟨rfl,p1⟩;have hv4:Below w4.heap.size w4 v4:=bx hv3 p1;clear p1 hq)
    | (have hq:=PP.out v2 _ _ HP2.out;go_at_call 35;(with_reducible refine hq.mono ?_);rintro e v3 ⟨pa3,pc3,rfl,p2,p1⟩;have HR1:=hid (HR1'.out v3 p1);have HP3:=hid p2;have hv3:Below w4.heap.size w4 v3:=bx hv2 p1;clear p1 p2 hq)
    | (have hq:=PZ.out v1 hv1;go_at_call 34;(with_reducible refine hq.mono ?_);rintro e v2 ⟨r2,u2,rfl,p2,p1⟩;have HP2:=hid p2;have HR1':Hid (∀X,Below v2.heap.size v2 X→X.ownsRow 0 96 2 (.slice ya k yc) k (pc (prK ks))):=hid (fun X h=>(Only.of_below (bx p1 h) []).own HRR.out (by simp));have hv2:Below w4.heap.size w4 v2:=bx hv1 p1;clear p1 p2 hq)
    | (go_at_call 32;(with_reducible refine(RA2.out _ hbW).mono ?_);rintro e v1 ⟨ya,yc,rfl,p2,p1⟩;have HRR:=hid p2;have hv1:Below w4.heap.size w4 v1:=bx hbW p1;clear p1 p2))
   all_goals
    have HE:=hid (HB4.out.trans (hv5.mono HB4.out.size))
    clear hv1 hv2 hv3 hv4 hv5 hbW
    go_wp2
    go_ret
    exact⟨rfl,HE.out⟩
end Go.Proofs.YtjmaicckkkdjpaaGreat
/- How arguments are opened: a slice of structs of one-cell fields; strings. Of no program. -/
namespace Go.Proofs.YtjmaicckkkdjpaaGreat
open Go.ChangeShapes Go.WideShapes Go.ChangeAt Go.RowKit Go.Joins Go.Deep
section
variable {H:Type} {enc:TypeId×Value→H} {P:Program} {w:World} {base:Nat} {spare:Nat→Bool} {held:Bool}
theorem cell_lt {w:World} {a:Addr} {v:Value} (h:w.cell? a=some v):a.block<w.heap.size:=by
 unfold World.cell? at h
 split at h
 ·rename_i hb;exact(Array.getElem?_eq_some_iff.1 hb).1
 ·cases h
end
section
variable {H:Type} {enc:TypeId×Value→H} {w:World} {base:Nat} {spare:Nat→Bool} {held:Bool}
end
end Go.Proofs.YtjmaicckkkdjpaaGreat
/- What is laid (law 21), opened. -/
namespace Go.Proofs.YtjmaicckkkdjpaaGreat
open Go.ChangeShapes Go.WideShapes Go.ChangeAt Go.RowKit Go.Joins Go.Deep
section
variable {H:Type} {enc:TypeId×Value→H} {w:World} {base:Nat} {spare:Nat→Bool} {held:Bool}
theorem structLaid: ∃f0 f1 f2 f3:Field,Tryz.prog.underlying 86=some (.struct #[f0,f1,f2,f3])∧f0.type=3∧f1.type=22∧f2.type=3∧f3.type=3:=
 ⟨_,_,_,_,Tryz.underlying86,rfl,rfl,rfl,rfl⟩
theorem oneLaid: ∀{fs},Tryz.prog.underlying 86=some (.struct fs)→oneCellFields Tryz.prog fs=true:=by
 intro fs h
 rw[Tryz.underlying86] at h
 injection h with h
 injection h with h
 subst h
 kernel_rfl
theorem cellsLaid:Tryz.prog.cellsOf 86=4:=by kernel_rfl
theorem open_words_in {fuel:Nat} {v:Value} {y:DataW H×List MemPlace} (h:DataW.trod enc Tryz.prog w base spare held fuel 22 [v]=some y): ∃xs:List Int,NumsAt .u64 w v xs∧(∀z∈xs,U64 z)∧xs.length≤9223372036854775807:=by
 rcases Go.ChangeShapes.open_ints Tryz.underlying22 Tryz.underlying25 (by kernel_rfl) h with⟨h1,_⟩ | ⟨a,len,cap',zs,h1,hb,hl,hm,hzl,hx,hcell,hwf⟩
 ·obtain rfl:v= .slice none 0 0:=by simpa using h1
  exact⟨[],⟨none,0,rfl,Or.inl rfl⟩,fun z hz=>(by cases hz),by simp⟩
 ·obtain rfl:v= .slice (some a) len cap':=by simpa using h1
  have hlz:len≤zs.length:=by rw[hzl];split<;>omega
  have hlen:(zs.take len).length=len:=by rw[List.length_take];omega
  refine⟨zs.take len,⟨some a,cap',by rw[hlen],?_⟩,fun z hz=>bounds_u64 (hwf z (List.mem_of_mem_take hz)),by rw[hlen];unfold maxLen at hm;omega⟩
  by_cases hn:len=0
  ·left;rw[hn];rfl
  right
  obtain⟨b,off,spot⟩:=a
  have hx0:=hcell 0 (by omega)
  have hsp:spot=none:=by simpa[Addr.add] using World.cell?_spot hx0
  subst hsp
  have hlt:b<w.heap.size:=by
   have:=cell_lt hx0
   rw[add_plain] at this
   exact this
  refine⟨b,off,rfl,hlt,fun i z hi=> ?_⟩
  have hi2:=(List.getElem?_eq_some_iff.1 hi).1
  rw[hlen] at hi2
  have h9:=hcell i (by omega)
  rw[add_plain] at h9
  rw[h9]
  rw[List.getElem?_take,if_pos hi2] at hi
  rw[List.getD_eq_getElem?_getD,hi];rfl
theorem open_laid {r:Reach} {b0:Nat} {v:Value} {d:DataW H} {p:List MemPlace} (hv:Value.okWide Tryz.prog w r b0 86 v) (h:DataW.Trod enc Tryz.prog w base spare held 86 v d p):
  ∃(x:La) (kv:Value) (xs:List Int),v= .agg (laC x kv)∧NumsAt .u64 w kv xs∧(∀z∈xs,U64 z)∧xs.length≤9223372036854775807∧I64 x.slabs∧I64 x.per∧I64 x.lag:=by
 obtain⟨f0,f1,f2,f3,hu,t0,t1,t2,t3⟩:=structLaid
 have hone:=oneLaid hu
 obtain⟨v0,v1,v2,v3,y0,y1,y2,y3,n,rfl,_,_,g0,g1,g2,g3⟩:=open_agg4 hu hone cellsLaid hv h
 rw[t0] at g0;rw[t1] at g1;rw[t2] at g2;rw[t3] at g3
 obtain⟨z0,e0,_,w0⟩:=DataW.trod_int Tryz.underlying3 g0
 obtain⟨z2,e2,_,w2⟩:=DataW.trod_int Tryz.underlying3 g2
 obtain⟨z3,e3,_,w3⟩:=DataW.trod_int Tryz.underlying3 g3
 obtain rfl:v0=_:=by simpa using e0
 obtain rfl:v2=_:=by simpa using e2
 obtain rfl:v3=_:=by simpa using e3
 obtain⟨xs,q1,q2,q3⟩:=open_words_in g1
 exact⟨⟨z0,z2,z3⟩,v1,xs,rfl,q1,q2,q3,bounds_i64 w0,bounds_i64 w2,bounds_i64 w3⟩
end
theorem ScanOwn_l (x:La) (kv:Value) (xs:List Int) (w:World) (hn:NumsAt .u64 w kv xs) (hu: ∀z∈xs,U64 z) (hl:xs.length≤9223372036854775807) (h1:I64 x.slabs) (h2:I64 x.per) (h3:I64 x.lag):
  Calls Tryz.prog 7 #[.agg (laC x kv)] w fun e w'=>e= .returned (.bool true)∧Below w.heap.size w w':=ScanOwn_z x kv xs hu hl ⟨h1,h2,h3⟩ w hn
end Go.Proofs.YtjmaicckkkdjpaaGreat
