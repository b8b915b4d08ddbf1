import Derived.Test.YtjmaicckkkdjpaaGreatF31
import Derived.ProofKit
import Derived.OpenShut
import Derived.Lib.SmallJoins
import Derived.Below
import Derived.ChangeOld
import Derived.Deep.Slices
import Derived.Deep.Fields
import Derived.ChangeSame
import Derived.SizedLaws
set_option maxRecDepth 100000
set_option maxHeartbeats 8000000
set_option linter.unusedVariables false
set_option linter.unusedSimpArgs false
/- The law ScanFinds, walked. -/
namespace Go.Proofs.YtjmaicckkkdjpaaGreat
open Go.RowKit
attribute [local go_sem ↓ high] laLoadAt21 rsLoadAt rsLoadVar rsStoreAt
attribute [local go_sem] ldM_run lvM_run stM_run Oper.semAt_some
def SfF (n k wb sg g m b B6 wc:Nat) (rc:Int) (wa:Option Addr) (ps:List (Int×ByteArray)) (S0:ByteArray):Nat→Value→World→Prop
 | 0,v,_=>v=ptrV sg
 | 1,v,w=> ∃a c,v= .agg (respP rc { data:= #[] } (.slice a k c))∧ ∀X,Below w.heap.size w X→X.ownsRow 0 96 2 (.slice a k c) k (pc ps)
 | 2,v,_=>v= .agg (respP rc { data:= #[] } (.slice wa k wc))
 | 3,v,_=>v= .bool true
 | 4,v,_=>v= .bool true
 | 5,v,_=>v= .int .i64 rc
 | 6,v,_=>v= .pointer (some ⟨B6,0,none⟩)
 | 7,v,_=>v= .int .i64 rc
 | 8,v,_=>v= .bool true
 | 9,v,_=>v= .bool true
 | 10,v,_=>v= .bool true
 | 11,v,_=>v=ptrV sg
 | 12,v,_=>v= .int .i64 0
 | 13,v,_=>v= .bool true
 | 14,v,_=>v= .bool true
 | 15,v,_=>v= .bool true
 | 16,v,_=>v=ptrV wb
 | 17,v,_=>v=ptrV wb
 | 18,v,_=>v= .pointer (some ⟨wb,2,none⟩)
 | 19,v,_=>v=ptrV m
 | 20,v,w=> ∃a c,v= .slice a n c∧ ∀X,Below w.heap.size w X→(convert 47 9 (.slice a n c)).run Tryz.prog X= .ok (.string S0) X
 | 21,v,_=>v= .string S0
 | 22,v,_=>v=ptrV wb
 | 23,v,_=>v=ptrV wb
 | 24,v,_=>v= .pointer (some ⟨wb,0,none⟩)
 | 25,v,_=>v=ptrV g
 | 26,v,_=>v=ptrV g
 | 27,v,_=>v= .pointer (some ⟨g,0,none⟩)
 | 28,v,_=>v= .slice (some ⟨b,0,none⟩) n n
 | 29,v,_=>v= .string S0
 | 30,v,_=>v= .bool true
 | 31,v,_=>v= .bool true
 | 32,v,_=>v= .bool true
 | 33,v,_=>v= .bool true
 | 34,v,_=>v= .bool true
 | _,_,_=>True
theorem SfF.bel {n k wb sg g m b B6 wc:Nat} {rc:Int} {wa:Option Addr} {ps:List (Int×ByteArray)} {S0:ByteArray} {w w':World} (hb:Below w.heap.size w w') (j:Nat) (v:Value) (h:SfF n k wb sg g m b B6 wc rc wa ps S0 j v w):SfF n k wb sg g m b B6 wc rc wa ps S0 j v w':=by
 by_cases hi:j=1
 ·subst hi
  obtain⟨a,c,h1,h2⟩:=h
  exact⟨a,c,h1,fun X hX=>h2 X (bx hb hX)⟩
 by_cases hj:j=20
 ·subst hj
  obtain⟨a,c,h1,h2⟩:=h
  exact⟨a,c,h1,fun X hX=>h2 X (bx hb hX)⟩
 ·unfold SfF at h ⊢
  split at h<;>first | exact h | exact absurd rfl hj | exact absurd rfl hi
theorem sf_known (w W:World) (hb:Below w.heap.size w W):Calls Tryz.prog 28 #[] W fun e w'=>e= .returned (.bool true)∧Below w.heap.size w w':=by
 refine(Known21_z W).mono ?_
 rintro e w' ⟨h1,h2⟩
 exact⟨h1,bx hb h2⟩
theorem ScanFinds_z (x:La) (kv:Value) (xs:List Int) (lo hi lim:Int) (hxs: ∀y∈xs,U64 y) (hxl:xs.length≤9223372036854775807) (hx:I64 x.slabs∧I64 x.per∧I64 x.lag) (hlo:U64 lo) (hhi:U64 hi) (w:World) (hK:NumsAt .u64 w kv xs):
  Calls Tryz.prog 8 #[.agg (laC x kv),.int .u64 lo,.int .u64 hi,.int .i64 lim] w fun e w'=>e= .returned (.bool true)∧Below w.heap.size w w':=by
 obtain⟨W1,hW1⟩: ∃W1,W1=w.alloc (.cells (laC x kv) 86):=⟨_,rfl⟩
 have hb1:Below w.heap.size w W1:=by rw[hW1];exact ba (Below.refl _ _) _
 have k1:Blk W1 w.heap.size 86 (laC x kv):=by rw[hW1];exact Blk.new _ _ _
 have hld:=la_ld21 k1
 have AZ:=hid (SBegin_z x kv xs hxs hxl hx W1 (hK.bel hb1))
 have HW1:=hid hW1
 have HB1:=hid hb1
 have HK1:=hid k1
 have HX:=hid (⟨hxs,hK,hlo,hhi⟩:_∧_∧_∧_)
 clear hW1 hb1 k1 hxs hxl hx hK hlo hhi
 go_enter Tryz.func8,Tryz.ntmps8
 go_upto_region 1 with fail
 rw[show _=W1 from HW1.out.symm]
 go_wp2_with fail
 refine AZ.out.mono ?_
 rintro e W2 ⟨hb2,h2⟩
 have HB2:=hid (bx HB1.out hb2)
 have HB12:=hid hb2
 clear hld hb2 AZ
 rcases h2 with⟨rfl,_⟩ | ⟨wb,g,b,nb,R,lv,rows,K,si,m,MB,rfl,hW⟩
 ·go_wp2_with fail
  refine(sf_known w _ HB2.out).mono ?_
  rintro e w3 ⟨rfl,hb3⟩
  have HB3:=hid hb3
  clear hb3
  go_wp2
  go_ret
  exact⟨rfl,HB3.out⟩
 have hk1:W2.cell? ⟨wb,1,none⟩=some (ptrV si):=by obtain⟨_,_,_,_,_,_,hO,_⟩:=hW.ov;exact hO.blk.cell 1
 have HW:=hid hW
 have NZ:=hid (hW.start.new (Nat.le_refl _) 1 lo hi lim)
 obtain⟨ks,hks⟩: ∃ks,ks=risKeys xs:=⟨_,rfl⟩
 have hkr:=risKeys_rise HX.out.1
 rw[←hks] at hkr
 have hkl:ks.length≤40:=by
  have h1:=hW.ok
  unfold LaOK at h1
  have h2:=risTo_len xs xs.length
  rw[hks];unfold risKeys;rw[List.length_map];omega
 have HKS:=hid (⟨hks,hkr,hkl⟩:_∧_∧_)
 clear hW hks hkr hkl
 go_wp2_with fail
 refine NZ.out.mono ?_
 rintro e W3 ⟨sg,f,rfl,hS3,hA3,hf3,hb3⟩
 obtain⟨L,hL⟩: ∃L:Nat,L=(nK (risKeys xs) x.per.toNat x.lag.toNat 0*(70*tK (risKeys xs) x.per.toNat x.lag.toNat (K+1)+40)+17*40):=⟨_,rfl⟩
 have HS3:=hid hS3
 have HA3:=hid hA3
 have KCc:Hid (∀X,Below W3.heap.size W3 X→X.cell? ⟨wb,2,none⟩=some (ptrV m)):=hid fun X hb=>by obtain⟨⟨sp,h1⟩,_⟩:=HW.out.now (HS3.out.bel hb);exact h1.cell 2
 have KBo:Hid (∀X,Below W3.heap.size W3 X→Calls Tryz.prog 31 #[ptrV wb,.int .i64 40] X fun e w'=>e= .returned (.int .i64 (L:Int))∧w'=X):=hid (by
  intro X hb
  have:=HW.out.boundAt (HS3.out.bel hb) 40 (by omega)
  rw[←hL] at this
  exact this)
 have KD:Hid (∀X,Below W3.heap.size W3 X→Calls Tryz.prog 30 #[ptrV m,ptrV sg,.int .i64 (L:Int)] X fun e w'=> ∃x' M' f',e= .returned (.bool true)∧FinS (boundsErr lo hi lim) (ansB lo hi lim ks) x'∧ScWd W2 si m MB (wordsOf R.bs) M' w'∧ScAt W2 si m MB M' sg x' f' w'∧W2.heap.size≤w'.heap.size):=hid (by
  intro X hb
  have h1:W2.heap.size≤X.heap.size:=Nat.le_trans hb3.size hb.size
  have:=HW.out.fin (HS3.out.bel hb) 40 (by omega) (by omega) (c:=1) ⟨by omega,by omega⟩ HX.out.2.2.1.1 (by have:=HX.out.2.2.2.2;omega) (HA3.out.bel hb) h1
  rw[←hL,←HKS.out.1] at this
  refine this.mono ?_
  rintro e w' ⟨x',M',f',rfl,p1,p2,p3,p4⟩
  exact⟨x',M',f',rfl,p1,p2,p3,Nat.le_trans h1 p4⟩)
 have RZ:Hid (∀X,Below W3.heap.size W3 X→Calls Tryz.prog 32 #[ptrV sg] X fun e w'=>e= .returned (.agg (respP 0 { data:= #[] } nilS))∧Below X.heap.size X w'):=hid fun X hb=>SResp_not si m sg (scNew 1 lo hi lim) f rfl X (HA3.out.bel hb).is
 have SZ:Hid (∀X,Calls Tryz.prog 12 #[.agg (respP 0 { data:= #[] } nilS),.agg #[.int .i64 0,.string { data:= #[] },.slice none 0 0]] X fun e w'=>e= .returned (.bool true)∧Below X.heap.size X w'):=hid fun X=>by
  refine(RSame_z 0 0 { data:= #[] } { data:= #[] } _ _ [] [] X (World.ownsRow_nil _ _ _ _) (World.ownsRow_nil _ _ _ _) (by simp) (by simp)).mono ?_
  rintro e w' ⟨rfl,h⟩
  rw[sm0]
  exact⟨rfl,h⟩
 have e0:=KCc.out W3 (Below.refl _ _)
 have e0d:=KCc.out W3.drew (Below.refl _ _).drew
 clear hL hS3 hA3 hf3 hb3 NZ hk1
 go_upto_region 5 with fail
 go_region_held3 (fun X=>X.cell? ⟨wb,2,none⟩=some (ptrV m)) (first | (exact e0) | (exact e0d) | (refine KCc.out _ ?_;(repeat(first | assumption | exact Below.refl _ _ | refine Below.drew ?_));done) | (exact sC))
  (first
  | (go_at_call 32;(with_reducible refine(RZ.out _ (by first | exact Below.refl _ _ | exact(Below.refl _ _).drew)).mono ?_);rintro e v1 ⟨rfl,p1⟩;have hv1:Below W3.heap.size W3 v1:=bx (by first | exact Below.refl _ _ | exact(Below.refl _ _).drew) p1;clear p1)
  | (go_at_call 12;(with_reducible refine(SZ.out _).mono ?_);rintro e v2 ⟨rfl,p1⟩;have hv2:Below W3.heap.size W3 v2:=bx (by first | exact hv1 | exact hv1.drew) p1;clear p1)
  | (go_at_call 31;(with_reducible refine(KBo.out _ (by first | exact hv2 | exact hv2.drew)).mono ?_);rintro e v3 ⟨rfl,rfl⟩)
  | (go_at_call 30;(with_reducible refine(KD.out _ (by first | exact hv2 | exact hv2.drew)).mono ?_);rintro e w4 ⟨xa,M1,f1,rfl,q1,q2,q3,q4⟩;have sC:w4.cell? ⟨wb,2,none⟩=some (ptrV m):=(by obtain⟨⟨sp,h1⟩,_⟩:=HW.out.now q2;exact h1.cell 2);have HE:=hid (⟨q1,q2,q3,q4⟩:_∧_∧_∧_);clear q1 q2 q3 q4))
 obtain⟨q1,q2,q3,q4⟩:=HE.out
 obtain⟨rc,hrc⟩: ∃rc,rc=boundsErr lo hi lim:=⟨_,rfl⟩
 obtain⟨ps,hps⟩: ∃ps,ps=ansB lo hi lim ks:=⟨_,rfl⟩
 obtain⟨n,hn⟩: ∃n,n=ps.length:=⟨_,rfl⟩
 have hn40:n≤40:=by
  rw[hn,hps]
  unfold ansB
  split
  ·have h1:=List.length_filter_le (rngB lo hi) (ents0 ks)
   have h2:=HKS.out.2.2
   rw[ents0_len] at h1
   unfold ansS
   rw[List.length_map,List.length_take];omega
  ·simp
 have h0:rc≠0→ps=[]:=fun h=>by rw[hps];unfold ansB;rw[if_neg (by rw[←hrc];exact h)]
 rw[←hrc,←hps] at q1
 have HB4:Hid (Below w.heap.size w w4):=hid (HB2.out.trans ((HW.out.now q2).2.2.1.mono HB1.out.size))
 have HB14:Hid (Below W1.heap.size W1 w4):=hid (HB12.out.trans ((HW.out.now q2).2.2.1))
 have HD:=hid q2
 have RF0:Hid (∀X,Below w4.heap.size w4 X→Calls Tryz.prog 32 #[ptrV sg] X fun e w'=> ∃a c,e= .returned (.agg (respP rc { data:= #[] } (.slice a n c)))∧w'.ownsRow 0 96 2 (.slice a n c) n (pc ps)∧Below X.heap.size X w'):=hid fun X hb=>by
  rw[hn]
  refine(SRespF_z si m sg xa f1 q1 h0 (by rw[←hn];omega) X (q3.bel hb).is).mono ?_
  rintro e w' ⟨a,c,rfl,h1,h2⟩
  exact⟨a,c,rfl,own_less h1 (Nat.zero_le _),h2⟩
 have TF0:Hid (∀X,Below w4.heap.size w4 X→Calls Tryz.prog 38 #[ptrV sg] X fun e w'=>e= .returned (.int .i64 0)∧Below X.heap.size X w'):=hid fun X hb=>by
  refine(STries_z si m sg xa f1 X (q3.bel hb).is).mono ?_
  rintro e w' ⟨rfl,rfl⟩
  rw[q1.tries]
  exact⟨rfl,Below.refl _ _⟩
 have OZ:Hid (∀X,Below w4.heap.size w4 X→Calls Tryz.prog 37 #[ptrV sg] X fun e w'=>e= .returned (.tuple #[.bool true,.int .i64 rc])∧Below X.heap.size X w'):=hid fun X hb=>by
  refine(SOver_z si m sg xa f1 q1.done X (q3.bel hb).is (cell_bel hb q2.sc)).mono ?_
  rintro e w' ⟨rfl,h⟩
  rw[q1.e]
  exact⟨rfl,h⟩
 have PZ:Hid (∀X,Below w4.heap.size w4 X→Calls Tryz.prog 34 #[.agg (laC x kv)] X fun e w'=> ∃r u,e= .returned (ptrV r)∧RefIs w' r u (plL ks)∧w4.heap.size≤r∧(∀k,u.ownBlock=some k→w4.heap.size≤k)∧Below X.heap.size X w'):=hid fun X hb=>(Plain_z x kv xs HX.out.1 (by have:=HW.out.ok;unfold LaOK at this;omega) X (HX.out.2.1.bel (bx HB4.out hb))).mono (by
  rintro e w' ⟨r,u,rfl,h1,h2,h3,h4⟩
  rw[←HKS.out.1] at h1
  exact⟨r,u,rfl,h1,Nat.le_trans hb.size h2,fun k hk=>Nat.le_trans hb.size (h3 k hk),h4⟩)
 have DZ:Hid (∀X r u,Below w4.heap.size w4 X→RefIs X r u (plL ks)→w4.heap.size≤r→(∀k,u.ownBlock=some k→w4.heap.size≤k)→Calls Tryz.prog 36 #[ptrV r,.agg #[.int .i64 4,.int .u64 lo,.int .u64 hi,.int .i64 lim,.string { data:= #[] }]] X fun e w'=> ∃a c,e= .returned (.agg (respP rc { data:= #[] } (.slice a n c)))∧w'.ownsRow 0 96 2 (.slice a n c) n (pc ps)∧Below w4.heap.size w4 w'):=hid fun X r u hb h1 h2 h3=>by
  have hq:Calls Tryz.prog 36 #[ptrV r,.agg #[.int .i64 4,.int .u64 lo,.int .u64 hi,.int .i64 lim,.string { data:= #[] }]] X (RPost X r u (plL ks) rc ⟨#[]⟩ ps):=by
   by_cases hr:boundsErr lo hi lim=0
   ·have:=RDo_scan r u lo hi lim { data:= #[] } (plL ks) X h1 hr
    rw[abs_plL HKS.out.2.1.1,scan_ans] at this
    rw[hrc,hps]
    unfold ansB
    rw[if_pos hr,hr]
    exact this
   ·have:=RDo_bad r u 4 lo hi lim { data:= #[] } (plL ks) X h1 (by rw[bounds_may];exact hr)
    rw[bounds_may] at this
    rw[hrc,hps]
    unfold ansB
    rw[if_neg hr]
    exact this
  refine hq.mono ?_
  rintro e w' ⟨v',pv,rfl,_,p2,_,p4,_⟩
  rw[←hn] at p4
  obtain⟨a,c,rfl⟩:=row_form1 p4
  refine⟨a,c,rfl,own_less p4 (Nat.zero_le _),hb.trans (p2.below (fun y hy=> ?_) hb.size)⟩
  rcases List.mem_cons.1 hy with rfl | hy
  ·exact h2
  ·exact h3 y (by simpa using hy)
 have hld4:=la_ld21 (HK1.out.bel HB14.out)
 have HPS:=hid (⟨hn40,h0,hn⟩:_∧_∧_)
 clear q1 q2 q3 q4 HE KBo KD KCc RZ SZ sC e0 e0d hv1 hv2 hrc hps hn hn40 h0
 go_wp2_with fail
 refine(PZ.out w4 (Below.refl _ _)).mono ?_
 rintro e w5 ⟨r,u,rfl,h1,h2,h3,hb5⟩
 have HDo:=hid (DZ.out w5 r u hb5 h1 h2 h3)
 clear h1 h2 h3 hb5 hld4
 go_wp2_with fail
 refine HDo.out.mono ?_
 rintro e w6 ⟨wa,wc,rfl,hrow,hb6⟩
 obtain⟨V1,hV1⟩: ∃V1,V1=w6.alloc (.cells #[.int .i64 0,.string { data:= #[] },.slice none 0 0] 41):=⟨_,rfl⟩
 have kv1:Blk V1 w6.heap.size 41 (respP 0 { data:= #[] } nilS):=by rw[hV1];exact respP_new w6
 have hbv1:Below w6.heap.size w6 V1:=by rw[hV1];exact ba (Below.refl _ _) _
 obtain⟨V2,hst,kv2,ov2⟩:=respP_stA kv1 rc { data:= #[] } wa n wc
 have hbv2:Below w6.heap.size w6 V2:=hbv1.trans (ov2.below (fun y hy=>by simp at hy;omega) hbv1.size)
 have hst':stR Tryz.prog 41 (.pointer (some ⟨w6.heap.size,0,none⟩)) (.agg (respP rc { data:= #[] } (.slice wa n wc))) (w6.alloc (.cells #[.int .i64 0,.string { data:= #[] },.slice none 0 0] 41))= .ok () V2:=by rw[←hV1];exact hst
 have HV:=hid (⟨kv2,(Only.of_below hbv2 []).own hrow (by simp),bx hb6 hbv2⟩:_∧_∧_)
 have OZ2:=hid (OZ.out V2 HV.out.2.2)
 unfold respP at hst' ⊢
 clear kv1 hbv1 hbv2 kv2 ov2 hst hrow hb6 hV1 HDo PZ DZ OZ
 go_wp2_with fail
 refine OZ2.out.mono ?_
 rintro e w7 ⟨rfl,hb7⟩
 have HB7:=hid hb7
 clear hb7
 go_upto_region 9 with fail
 obtain⟨W7,rfl⟩: ∃y,y=w7:=⟨_,rfl⟩
 obtain⟨k,hk⟩: ∃k,k=n:=⟨_,rfl⟩
 obtain⟨n1,hn⟩: ∃n1,n1=nb:=⟨_,rfl⟩
 obtain⟨S0,hS0⟩: ∃S0,S0=strOfNums R.bs:=⟨_,rfl⟩
 obtain⟨B6,hB6⟩: ∃B6,B6=w6.heap.size:=⟨_,rfl⟩
 rw[←hB6] at HV
 subst hk
 have hb7:Below w4.heap.size w4 W7:=bx HV.out.2.2 HB7.out
 obtain⟨hwb,hAr,hbW,_⟩:=HW.out.now HD.out
 obtain⟨sp,hwb⟩:=hwb
 have hbN:Below W2.heap.size W2 w4→True:=fun _=>trivial
 have hnl:n1=R.bs.length:=by rw[hn];exact hAr.ln
 have hbl:R.bs.length=8*(128*(x.slabs.toNat+1)):=by rw[HW.out.built.len];omega
 have hmx:n1≤maxLen:=by have:=hAr.big;unfold maxLen;omega
 have KS:Hid (∀X,Below W7.heap.size W7 X→ldR Tryz.prog 41 (.pointer (some ⟨B6,0,none⟩)) X= .ok (.agg (respP rc { data:= #[] } (.slice wa k wc))) X∧X.cell? ⟨B6,0,none⟩=some (.int .i64 rc)∧X.cell? ⟨wb,2,none⟩=some (ptrV m)∧X.cell? ⟨wb,0,none⟩=some (ptrV g)∧X.cell? ⟨g,0,none⟩=some (.slice (some ⟨b,0,none⟩) n1 n1)∧(convert 47 9 (.slice (some ⟨b,0,none⟩) n1 n1)).run Tryz.prog X= .ok (.string S0) X):=by
  refine hid fun X hb=>⟨respP_ldS ((HV.out.1.bel HB7.out).bel hb),((HV.out.1.bel HB7.out).bel hb).cell 0,cell_bel (bx hb7 hb) (hwb.cell 2),cell_bel (bx hb7 hb) (hwb.cell 0),cell_bel (bx hb7 hb) (by rw[hn];exact hAr.blk.cell 0),?_⟩
  have h1:=arg_of_in (bytesIn_blk (hAr.by'.bel (bx hb7 hb)) hAr.byt (Nat.le_refl _)) (by rw[←hnl];exact hmx) (by omega)
  have h2:=by_conv h1
  rw[←hnl] at h2
  rw[hS0]
  exact h2
 have RF:Hid (∀X,Below W7.heap.size W7 X→Calls Tryz.prog 32 #[ptrV sg] X fun e w'=> ∃a c,e= .returned (.agg (respP rc { data:= #[] } (.slice a k c)))∧w'.ownsRow 0 96 2 (.slice a k c) k (pc ps)∧Below X.heap.size X w'):=hid fun X hb=>RF0.out X (bx hb7 hb)
 have TF:Hid (∀X,Below W7.heap.size W7 X→Calls Tryz.prog 38 #[ptrV sg] X fun e w'=>e= .returned (.int .i64 0)∧Below X.heap.size X w'):=hid fun X hb=>TF0.out X (bx hb7 hb)
 have EF:Hid (∀X a c,Below W7.heap.size W7 X→X.ownsRow 0 96 2 (.slice a k c) k (pc ps)→Calls Tryz.prog 12 #[.agg (respP rc { data:= #[] } (.slice a k c)),.agg (respP rc { data:= #[] } (.slice wa k wc))] X fun e w'=>e= .returned (.bool true)∧Below X.heap.size X w'):=hid fun X a c hb h1=>by
  have h2:=(Only.of_below (bx HB7.out hb) []).own HV.out.2.1 (by simp)
  have hkl:=HPS.out.2.2
  have hk4:=HPS.out.1
  rw[hkl] at h1 h2 ⊢
  refine(RSame_z rc rc { data:= #[] } { data:= #[] } _ _ ps ps X h1 h2 (by omega) (by omega)).mono ?_
  rintro e w' ⟨rfl,h⟩
  rw[pairsEq_refl]
  exact⟨by simp[strBQ],h⟩
 have IF:Hid (∀X,Below W7.heap.size W7 X→Calls Tryz.prog 21 #[ptrV m] X fun e w'=> ∃p c,e= .returned (.slice p n1 c)∧(∀Y,Below w'.heap.size w' Y→(convert 47 9 (.slice p n1 c)).run Tryz.prog Y= .ok (.string S0) Y)∧Below X.heap.size X w'):=by
  have hmem:=HD.out.mem.is
  refine hid fun X hb=>(Image_z m MB M1 X (hmem.only (Only.of_below (bx hb7 hb) []) (by simp)) (by rw[HD.out.quiet.1];exact words_rng hAr.byt)).mono ?_
  rintro e w' ⟨ip,ic,rfl,h1,h2,h3⟩
  have hbw:bytesW M1.image=R.bs:=by rw[HD.out.quiet.1];exact bytes_words _ hAr.byt hbl
  rw[hbw] at h1 ⊢
  have h4:=arg_of_in h1 h2 (by omega)
  rw[hnl,hS0]
  exact⟨ip,ic,rfl,fun Y hY=>by_conv (h4.bel hY),h3⟩
 have KF:Hid (∀X,Below W7.heap.size W7 X→Calls Tryz.prog 28 #[] X fun e w'=>e= .returned (.bool true)∧Below X.heap.size X w'):=hid fun X _=>Known21_z X
 have bs1:(S0.toList==S0.toList)=true:=by simp
 have bs2:(rc==rc)=true:=by simp
 have HZB:=hid (show Below w.heap.size w W7 from bx HB4.out hb7)
 obtain⟨n,hn2⟩: ∃n2,n2=n1:=⟨_,rfl⟩
 rw[←hn2] at KS IF
 clear hn2
 clear hwb hAr hbW hbN hnl hbl hmx hb7 RF0 TF0 HV hn hS0 hst' OZ2
 rw[←hB6]
 clear hB6
 refine wp_region_inv 35 (fun listed a X=>Below W7.heap.size W7 X∧ ∃vv:Nat→Value,FactsE (SfF n k wb sg g m b B6 wc rc wa ps S0) listed vv X∧a={ tmps:= #[Value.agg (laC x kv),Value.int IntKind.u64 lo,Value.int IntKind.u64 hi,Value.int IntKind.i64 lim,Value.pointer (some { block:=w.heap.size,off:=0 }),undef,undef,undef,Value.bool false,ptrV wb,ptrV sg,Value.pointer (some { block:=B6,off:=0 }),Value.bool true,Value.int IntKind.i64 rc,Value.agg (laC x kv),ptrV wb,ptrV wb,Value.bool false,undef,ptrV wb,Value.pointer (some { block:=wb,off:=0 }),Value.pointer (some { block:=wb,off:=1 }),ptrV si,Value.int IntKind.u64 lo,Value.int IntKind.u64 hi,Value.int IntKind.i64 lim,ptrV sg,ptrV sg,Value.agg #[Value.int IntKind.i64 0,Value.string { data:= #[] },nilS],Value.agg #[Value.int IntKind.i64 0,Value.string { data:= #[] },Value.slice none 0 0],Value.bool true,Value.bool false,Value.bool false,ptrV wb,Value.pointer (some { block:=wb,off:=0 }),Value.pointer (some { block:=wb,off:=2 }),ptrV m,ptrV sg,ptrV wb,Value.int IntKind.i64 (L:Int),Value.bool true,Value.bool false,Value.bool false,Value.agg (laC x kv),ptrV r,Value.int IntKind.u64 lo,Value.int IntKind.u64 hi,Value.int IntKind.i64 lim,Value.agg #[Value.int IntKind.i64 4,Value.int IntKind.u64 lo,Value.int IntKind.u64 hi,Value.int IntKind.i64 lim,Value.string { data:= #[] }],Value.agg #[Value.int IntKind.i64 rc,Value.string { data:= #[] },Value.slice wa k wc],Value.tuple #[Value.bool true,Value.int IntKind.i64 rc],ptrV sg,Value.tuple #[Value.bool true,Value.int IntKind.i64 rc],Value.bool true,Value.int IntKind.i64 rc,vv 0,vv 1,vv 2,vv 3,vv 4,vv 5,vv 6,vv 7,vv 8,vv 9,vv 10,vv 11,vv 12,vv 13,vv 14,vv 15,vv 16,vv 17,vv 18,vv 19,vv 20,vv 21,vv 22,vv 23,vv 24,vv 25,vv 26,vv 27,vv 28,vv 29,vv 30,vv 31,vv 32,vv 33,vv 34],defers:=[] }) rfl (by kernel_rfl) ?_ ?_ ?_
 ·exact⟨(Below.refl _ _).drew,fun _=>undef,fun i hi=>(by rw[getD_replicate_false] at hi;cases hi),rfl⟩
 ·rintro listed a X i op hi ho hun hdep ⟨hbX,vv,hx,rfl⟩
  rcases(by omega:i=0∨i=1∨i=2∨i=3∨i=4∨i=5∨i=6∨i=7∨i=8∨i=9∨i=10∨i=11∨i=12∨i=13∨i=14∨i=15∨i=16∨i=17∨i=18∨i=19∨i=20∨i=21∨i=22∨i=23∨i=24∨i=25∨i=26∨i=27∨i=28∨i=29∨i=30∨i=31∨i=32∨i=33∨i=34) with rfl | rfl | rfl | rfl | rfl | rfl | rfl | rfl | rfl | rfl | rfl | rfl | rfl | rfl | rfl | rfl | rfl | rfl | rfl | rfl | rfl | rfl | rfl | rfl | rfl | rfl | rfl | rfl | rfl | rfl | rfl | rfl | rfl | rfl | rfl
  ·cases ho
   refine wpOp_at rfl rfl (wp_value (v:=ptrV sg) ?_ ⟨hbX,updR vv 0 _,hx.step (fun j v h=>h) rfl,rfl⟩)
   go_simp
  ·cases ho
   have e55:vv 0=ptrV sg:=hx 0 (hdep { on:=0,ground:= .data } (by simp) rfl)
   refine wpOp_at rfl rfl (wp_enter (f:=32) (args:= #[vv 0]) (by kernel_rfl) ?_)
   have C:=RF.out X hbX
   rw[show(#[ptrV sg]:Array Value)= #[vv 0] from(by rw[e55])] at C
   refine C.mono ?_
   rintro e X' ⟨ia,ic,rfl,h2,hb1⟩
   exact⟨_,rfl,bx hbX hb1,updR vv 1 _,hx.step (SfF.bel hb1) ⟨ia,ic,rfl,fun Y hY=>(Only.of_below hY []).own h2 (by simp)⟩,rfl⟩
  ·cases ho
   have hl:=(KS.out X hbX).1
   refine wpOp_at rfl rfl (wp_value (v:= .agg (respP rc { data:= #[] } (.slice wa k wc))) ?_ ⟨hbX,updR vv 2 _,hx.step (fun j v h=>h) rfl,rfl⟩)
   go_simp
  ·cases ho
   obtain⟨ia,ic,e56,hown⟩:=hx 1 (hdep { on:=1,ground:= .data } (by simp) rfl)
   have e57:vv 2= .agg (respP rc { data:= #[] } (.slice wa k wc)):=hx 2 (hdep { on:=2,ground:= .data } (by simp) rfl)
   refine wpOp_at rfl rfl (wp_enter (f:=12) (args:= #[vv 1,vv 2]) (by kernel_rfl) ?_)
   have C:=EF.out X ia ic hbX (hown X (Below.refl _ _))
   rw[show(#[.agg (respP rc { data:= #[] } (.slice ia k ic)),.agg (respP rc { data:= #[] } (.slice wa k wc))]:Array Value)= #[vv 1,vv 2] from(by rw[e56,e57])] at C
   refine C.mono ?_
   rintro e X' ⟨rfl,hb1⟩
   exact⟨_,rfl,bx hbX hb1,updR vv 3 _,hx.step (SfF.bel hb1) rfl,rfl⟩
  ·cases ho
   have e58:vv 3= .bool true:=hx 3 (hdep { on:=3,ground:= .data } (by simp) rfl)
   refine wpOp_at rfl rfl (wp_value (v:= .bool true) ?_ ⟨hbX,updR vv 4 _,hx.step (fun j v h=>h) rfl,rfl⟩)
   rw[e58]
   go_simp
  ·cases ho
   have eg:vv 4= .bool true:=hx 4 (hdep { on:=4,ground:= .guard } (by simp) rfl)
   refine wpOp_ok rfl (by rw[eg];rfl) (wp_value (v:= .int .i64 rc) ?_ ⟨hbX,updR vv 5 _,hx.step (fun j v h=>h) rfl,rfl⟩)
   go_simp
  ·cases ho
   have eg:vv 4= .bool true:=hx 4 (hdep { on:=4,ground:= .guard } (by simp) rfl)
   refine wpOp_ok rfl (by rw[eg];rfl) (wp_value (v:= .pointer (some ⟨B6,0,none⟩)) ?_ ⟨hbX,updR vv 6 _,hx.step (fun j v h=>h) rfl,rfl⟩)
   go_simp
  ·cases ho
   have eg:vv 4= .bool true:=hx 4 (hdep { on:=4,ground:= .guard } (by simp) rfl)
   have e61:vv 6= .pointer (some ⟨B6,0,none⟩):=hx 6 (hdep { on:=6,ground:= .data } (by simp) rfl)
   have hl:=(KS.out X hbX).2.1
   refine wpOp_ok rfl (by rw[eg];rfl) (wp_value (v:= .int .i64 rc) ?_ ⟨hbX,updR vv 7 _,hx.step (fun j v h=>h) rfl,rfl⟩)
   rw[e61]
   go_simp
  ·cases ho
   have eg:vv 4= .bool true:=hx 4 (hdep { on:=4,ground:= .guard } (by simp) rfl)
   have e60:vv 5= .int .i64 rc:=hx 5 (hdep { on:=5,ground:= .data } (by simp) rfl)
   have e62:vv 7= .int .i64 rc:=hx 7 (hdep { on:=7,ground:= .data } (by simp) rfl)
   refine wpOp_ok rfl (by rw[eg];rfl) (wp_value (v:= .bool true) ?_ ⟨hbX,updR vv 8 _,hx.step (fun j v h=>h) rfl,rfl⟩)
   rw[e60,e62]
   go_simp
  ·cases ho
   have e59:vv 4= .bool true:=hx 4 (hdep { on:=4,ground:= .data } (by simp) rfl)
   have e63:vv 8= .bool true:=hx 8 (hdep { on:=8,ground:= .data } (by simp) rfl)
   refine wpOp_at rfl rfl (wp_value (v:= .bool true) ?_ ⟨hbX,updR vv 9 _,hx.step (fun j v h=>h) rfl,rfl⟩)
   rw[e59,e63]
   go_simp
  ·cases ho
   have e64:vv 9= .bool true:=hx 9 (hdep { on:=9,ground:= .data } (by simp) rfl)
   refine wpOp_at rfl rfl (wp_value (v:= .bool true) ?_ ⟨hbX,updR vv 10 _,hx.step (fun j v h=>h) rfl,rfl⟩)
   rw[e64]
   go_simp
  ·cases ho
   have eg:vv 10= .bool true:=hx 10 (hdep { on:=10,ground:= .guard } (by simp) rfl)
   refine wpOp_ok rfl (by rw[eg];rfl) (wp_value (v:=ptrV sg) ?_ ⟨hbX,updR vv 11 _,hx.step (fun j v h=>h) rfl,rfl⟩)
   go_simp
  ·cases ho
   have eg:vv 10= .bool true:=hx 10 (hdep { on:=10,ground:= .guard } (by simp) rfl)
   have e66:vv 11=ptrV sg:=hx 11 (hdep { on:=11,ground:= .data } (by simp) rfl)
   refine wpOp_ok rfl (by rw[eg];rfl) (wp_enter (f:=38) (args:= #[vv 11]) (by kernel_rfl) ?_)
   have C:=TF.out X hbX
   rw[show(#[ptrV sg]:Array Value)= #[vv 11] from(by rw[e66])] at C
   refine C.mono ?_
   rintro e X' ⟨rfl,hb1⟩
   exact⟨_,rfl,bx hbX hb1,updR vv 12 _,hx.step (SfF.bel hb1) rfl,rfl⟩
  ·cases ho
   have eg:vv 10= .bool true:=hx 10 (hdep { on:=10,ground:= .guard } (by simp) rfl)
   have e67:vv 12= .int .i64 0:=hx 12 (hdep { on:=12,ground:= .data } (by simp) rfl)
   refine wpOp_ok rfl (by rw[eg];rfl) (wp_value (v:= .bool true) ?_ ⟨hbX,updR vv 13 _,hx.step (fun j v h=>h) rfl,rfl⟩)
   rw[e67]
   go_simp
  ·cases ho
   have e65:vv 10= .bool true:=hx 10 (hdep { on:=10,ground:= .data } (by simp) rfl)
   have e68:vv 13= .bool true:=hx 13 (hdep { on:=13,ground:= .data } (by simp) rfl)
   refine wpOp_at rfl rfl (wp_value (v:= .bool true) ?_ ⟨hbX,updR vv 14 _,hx.step (fun j v h=>h) rfl,rfl⟩)
   rw[e65,e68]
   go_simp
  ·cases ho
   have e69:vv 14= .bool true:=hx 14 (hdep { on:=14,ground:= .data } (by simp) rfl)
   refine wpOp_at rfl rfl (wp_value (v:= .bool true) ?_ ⟨hbX,updR vv 15 _,hx.step (fun j v h=>h) rfl,rfl⟩)
   rw[e69]
   go_simp
  ·cases ho
   have eg:vv 15= .bool true:=hx 15 (hdep { on:=15,ground:= .guard } (by simp) rfl)
   refine wpOp_ok rfl (by rw[eg];rfl) (wp_value (v:=ptrV wb) ?_ ⟨hbX,updR vv 16 _,hx.step (fun j v h=>h) rfl,rfl⟩)
   go_simp
  ·cases ho
   have eg:vv 15= .bool true:=hx 15 (hdep { on:=15,ground:= .guard } (by simp) rfl)
   have e71:vv 16=ptrV wb:=hx 16 (hdep { on:=16,ground:= .data } (by simp) rfl)
   refine wpOp_ok rfl (by rw[eg];rfl) (wp_value (v:=ptrV wb) ?_ ⟨hbX,updR vv 17 _,hx.step (fun j v h=>h) rfl,rfl⟩)
   rw[e71]
   go_simp
  ·cases ho
   have eg:vv 15= .bool true:=hx 15 (hdep { on:=15,ground:= .guard } (by simp) rfl)
   have e72:vv 17=ptrV wb:=hx 17 (hdep { on:=17,ground:= .data } (by simp) rfl)
   refine wpOp_ok rfl (by rw[eg];rfl) (wp_value (v:= .pointer (some ⟨wb,2,none⟩)) ?_ ⟨hbX,updR vv 18 _,hx.step (fun j v h=>h) rfl,rfl⟩)
   rw[e72]
   go_simp
  ·cases ho
   have eg:vv 15= .bool true:=hx 15 (hdep { on:=15,ground:= .guard } (by simp) rfl)
   have e73:vv 18= .pointer (some ⟨wb,2,none⟩):=hx 18 (hdep { on:=18,ground:= .data } (by simp) rfl)
   have hl:=(KS.out X hbX).2.2.1
   refine wpOp_ok rfl (by rw[eg];rfl) (wp_value (v:=ptrV m) ?_ ⟨hbX,updR vv 19 _,hx.step (fun j v h=>h) rfl,rfl⟩)
   rw[e73]
   go_simp
  ·cases ho
   have eg:vv 15= .bool true:=hx 15 (hdep { on:=15,ground:= .guard } (by simp) rfl)
   have e74:vv 19=ptrV m:=hx 19 (hdep { on:=19,ground:= .data } (by simp) rfl)
   refine wpOp_ok rfl (by rw[eg];rfl) (wp_enter (f:=21) (args:= #[vv 19]) (by kernel_rfl) ?_)
   have C:=IF.out X hbX
   rw[show(#[ptrV m]:Array Value)= #[vv 19] from(by rw[e74])] at C
   refine C.mono ?_
   rintro e X' ⟨ia,ic,rfl,hcv,hb1⟩
   exact⟨_,rfl,bx hbX hb1,updR vv 20 _,hx.step (SfF.bel hb1) ⟨ia,ic,rfl,hcv⟩,rfl⟩
  ·cases ho
   have eg:vv 15= .bool true:=hx 15 (hdep { on:=15,ground:= .guard } (by simp) rfl)
   obtain⟨ia,ic,e75,hcv⟩:=hx 20 (hdep { on:=20,ground:= .data } (by simp) rfl)
   have hl:=hcv X (Below.refl _ _)
   refine wpOp_ok rfl (by rw[eg];rfl) (wp_value (v:= .string S0) ?_ ⟨hbX,updR vv 21 _,hx.step (fun j v h=>h) rfl,rfl⟩)
   rw[e75]
   go_simp
  ·cases ho
   have eg:vv 15= .bool true:=hx 15 (hdep { on:=15,ground:= .guard } (by simp) rfl)
   refine wpOp_ok rfl (by rw[eg];rfl) (wp_value (v:=ptrV wb) ?_ ⟨hbX,updR vv 22 _,hx.step (fun j v h=>h) rfl,rfl⟩)
   go_simp
  ·cases ho
   have eg:vv 15= .bool true:=hx 15 (hdep { on:=15,ground:= .guard } (by simp) rfl)
   have e77:vv 22=ptrV wb:=hx 22 (hdep { on:=22,ground:= .data } (by simp) rfl)
   refine wpOp_ok rfl (by rw[eg];rfl) (wp_value (v:=ptrV wb) ?_ ⟨hbX,updR vv 23 _,hx.step (fun j v h=>h) rfl,rfl⟩)
   rw[e77]
   go_simp
  ·cases ho
   have eg:vv 15= .bool true:=hx 15 (hdep { on:=15,ground:= .guard } (by simp) rfl)
   have e78:vv 23=ptrV wb:=hx 23 (hdep { on:=23,ground:= .data } (by simp) rfl)
   refine wpOp_ok rfl (by rw[eg];rfl) (wp_value (v:= .pointer (some ⟨wb,0,none⟩)) ?_ ⟨hbX,updR vv 24 _,hx.step (fun j v h=>h) rfl,rfl⟩)
   rw[e78]
   go_simp
  ·cases ho
   have eg:vv 15= .bool true:=hx 15 (hdep { on:=15,ground:= .guard } (by simp) rfl)
   have e79:vv 24= .pointer (some ⟨wb,0,none⟩):=hx 24 (hdep { on:=24,ground:= .data } (by simp) rfl)
   have hl:=(KS.out X hbX).2.2.2.1
   refine wpOp_ok rfl (by rw[eg];rfl) (wp_value (v:=ptrV g) ?_ ⟨hbX,updR vv 25 _,hx.step (fun j v h=>h) rfl,rfl⟩)
   rw[e79]
   go_simp
  ·cases ho
   have eg:vv 15= .bool true:=hx 15 (hdep { on:=15,ground:= .guard } (by simp) rfl)
   have e80:vv 25=ptrV g:=hx 25 (hdep { on:=25,ground:= .data } (by simp) rfl)
   refine wpOp_ok rfl (by rw[eg];rfl) (wp_value (v:=ptrV g) ?_ ⟨hbX,updR vv 26 _,hx.step (fun j v h=>h) rfl,rfl⟩)
   rw[e80]
   go_simp
  ·cases ho
   have eg:vv 15= .bool true:=hx 15 (hdep { on:=15,ground:= .guard } (by simp) rfl)
   have e81:vv 26=ptrV g:=hx 26 (hdep { on:=26,ground:= .data } (by simp) rfl)
   refine wpOp_ok rfl (by rw[eg];rfl) (wp_value (v:= .pointer (some ⟨g,0,none⟩)) ?_ ⟨hbX,updR vv 27 _,hx.step (fun j v h=>h) rfl,rfl⟩)
   rw[e81]
   go_simp
  ·cases ho
   have eg:vv 15= .bool true:=hx 15 (hdep { on:=15,ground:= .guard } (by simp) rfl)
   have e82:vv 27= .pointer (some ⟨g,0,none⟩):=hx 27 (hdep { on:=27,ground:= .data } (by simp) rfl)
   have hl:=(KS.out X hbX).2.2.2.2.1
   refine wpOp_ok rfl (by rw[eg];rfl) (wp_value (v:= .slice (some ⟨b,0,none⟩) n n) ?_ ⟨hbX,updR vv 28 _,hx.step (fun j v h=>h) rfl,rfl⟩)
   rw[e82]
   go_simp
  ·cases ho
   have eg:vv 15= .bool true:=hx 15 (hdep { on:=15,ground:= .guard } (by simp) rfl)
   have e83:vv 28= .slice (some ⟨b,0,none⟩) n n:=hx 28 (hdep { on:=28,ground:= .data } (by simp) rfl)
   have hl:=(KS.out X hbX).2.2.2.2.2
   refine wpOp_ok rfl (by rw[eg];rfl) (wp_value (v:= .string S0) ?_ ⟨hbX,updR vv 29 _,hx.step (fun j v h=>h) rfl,rfl⟩)
   rw[e83]
   go_simp
  ·cases ho
   have eg:vv 15= .bool true:=hx 15 (hdep { on:=15,ground:= .guard } (by simp) rfl)
   have e76:vv 21= .string S0:=hx 21 (hdep { on:=21,ground:= .data } (by simp) rfl)
   have e84:vv 29= .string S0:=hx 29 (hdep { on:=29,ground:= .data } (by simp) rfl)
   refine wpOp_ok rfl (by rw[eg];rfl) (wp_value (v:= .bool true) ?_ ⟨hbX,updR vv 30 _,hx.step (fun j v h=>h) rfl,rfl⟩)
   rw[e76,e84]
   go_simp
  ·cases ho
   have e70:vv 15= .bool true:=hx 15 (hdep { on:=15,ground:= .data } (by simp) rfl)
   have e85:vv 30= .bool true:=hx 30 (hdep { on:=30,ground:= .data } (by simp) rfl)
   refine wpOp_at rfl rfl (wp_value (v:= .bool true) ?_ ⟨hbX,updR vv 31 _,hx.step (fun j v h=>h) rfl,rfl⟩)
   rw[e70,e85]
   go_simp
  ·cases ho
   have e86:vv 31= .bool true:=hx 31 (hdep { on:=31,ground:= .data } (by simp) rfl)
   refine wpOp_at rfl rfl (wp_value (v:= .bool true) ?_ ⟨hbX,updR vv 32 _,hx.step (fun j v h=>h) rfl,rfl⟩)
   rw[e86]
   go_simp
  ·cases ho
   have eg:vv 32= .bool true:=hx 32 (hdep { on:=32,ground:= .guard } (by simp) rfl)
   refine wpOp_ok rfl (by rw[eg];rfl) (wp_enter (f:=28) (args:= #[]) (by kernel_rfl) ?_)
   have C:=KF.out X hbX
   refine C.mono ?_
   rintro e X' ⟨rfl,hb1⟩
   exact⟨_,rfl,bx hbX hb1,updR vv 33 _,hx.step (SfF.bel hb1) rfl,rfl⟩
  ·cases ho
   have e87:vv 32= .bool true:=hx 32 (hdep { on:=32,ground:= .data } (by simp) rfl)
   have e88:vv 33= .bool true:=hx 33 (hdep { on:=33,ground:= .data } (by simp) rfl)
   refine wpOp_at rfl rfl (wp_value (v:= .bool true) ?_ ⟨hbX,updR vv 34 _,hx.step (fun j v h=>h) rfl,rfl⟩)
   rw[e87,e88]
   go_simp
 ·rintro a X ⟨hbX,vv,hx,rfl⟩
  have el:vv 34= .bool true:=hx 34 rfl
  rw[el]
  simp only[List.drop_succ_cons,List.drop_zero]
  have HBX:=hid (HZB.out.trans (hbX.mono HZB.out.size))
  clear hx hbX
  go_wp2
  go_ret
  exact⟨rfl,HBX.out⟩
end Go.Proofs.YtjmaicckkkdjpaaGreat
/- How arguments are opened: a slice of structs of one-cell fields; strings. Of no program. -/
namespace Go.Proofs.YtjmaicckkkdjpaaGreat
open Go.ChangeShapes Go.WideShapes Go.ChangeAt Go.RowKit Go.Joins Go.Deep
section
variable {H:Type} {enc:TypeId×Value→H} {P:Program} {w:World} {base:Nat} {spare:Nat→Bool} {held:Bool}
theorem cell_lt {w:World} {a:Addr} {v:Value} (h:w.cell? a=some v):a.block<w.heap.size:=by
 unfold World.cell? at h
 split at h
 ·rename_i hb;exact(Array.getElem?_eq_some_iff.1 hb).1
 ·cases h
end
section
variable {H:Type} {enc:TypeId×Value→H} {w:World} {base:Nat} {spare:Nat→Bool} {held:Bool}
end
end Go.Proofs.YtjmaicckkkdjpaaGreat
/- What is laid (law 21), opened. -/
namespace Go.Proofs.YtjmaicckkkdjpaaGreat
open Go.ChangeShapes Go.WideShapes Go.ChangeAt Go.RowKit Go.Joins Go.Deep
section
variable {H:Type} {enc:TypeId×Value→H} {w:World} {base:Nat} {spare:Nat→Bool} {held:Bool}
theorem structLaid: ∃f0 f1 f2 f3:Field,Tryz.prog.underlying 86=some (.struct #[f0,f1,f2,f3])∧f0.type=3∧f1.type=22∧f2.type=3∧f3.type=3:=
 ⟨_,_,_,_,Tryz.underlying86,rfl,rfl,rfl,rfl⟩
theorem oneLaid: ∀{fs},Tryz.prog.underlying 86=some (.struct fs)→oneCellFields Tryz.prog fs=true:=by
 intro fs h
 rw[Tryz.underlying86] at h
 injection h with h
 injection h with h
 subst h
 kernel_rfl
theorem cellsLaid:Tryz.prog.cellsOf 86=4:=by kernel_rfl
theorem open_words_in {fuel:Nat} {v:Value} {y:DataW H×List MemPlace} (h:DataW.trod enc Tryz.prog w base spare held fuel 22 [v]=some y): ∃xs:List Int,NumsAt .u64 w v xs∧(∀z∈xs,U64 z)∧xs.length≤9223372036854775807:=by
 rcases Go.ChangeShapes.open_ints Tryz.underlying22 Tryz.underlying25 (by kernel_rfl) h with⟨h1,_⟩ | ⟨a,len,cap',zs,h1,hb,hl,hm,hzl,hx,hcell,hwf⟩
 ·obtain rfl:v= .slice none 0 0:=by simpa using h1
  exact⟨[],⟨none,0,rfl,Or.inl rfl⟩,fun z hz=>(by cases hz),by simp⟩
 ·obtain rfl:v= .slice (some a) len cap':=by simpa using h1
  have hlz:len≤zs.length:=by rw[hzl];split<;>omega
  have hlen:(zs.take len).length=len:=by rw[List.length_take];omega
  refine⟨zs.take len,⟨some a,cap',by rw[hlen],?_⟩,fun z hz=>bounds_u64 (hwf z (List.mem_of_mem_take hz)),by rw[hlen];unfold maxLen at hm;omega⟩
  by_cases hn:len=0
  ·left;rw[hn];rfl
  right
  obtain⟨b,off,spot⟩:=a
  have hx0:=hcell 0 (by omega)
  have hsp:spot=none:=by simpa[Addr.add] using World.cell?_spot hx0
  subst hsp
  have hlt:b<w.heap.size:=by
   have:=cell_lt hx0
   rw[add_plain] at this
   exact this
  refine⟨b,off,rfl,hlt,fun i z hi=> ?_⟩
  have hi2:=(List.getElem?_eq_some_iff.1 hi).1
  rw[hlen] at hi2
  have h9:=hcell i (by omega)
  rw[add_plain] at h9
  rw[h9]
  rw[List.getElem?_take,if_pos hi2] at hi
  rw[List.getD_eq_getElem?_getD,hi];rfl
theorem open_laid {r:Reach} {b0:Nat} {v:Value} {d:DataW H} {p:List MemPlace} (hv:Value.okWide Tryz.prog w r b0 86 v) (h:DataW.Trod enc Tryz.prog w base spare held 86 v d p):
  ∃(x:La) (kv:Value) (xs:List Int),v= .agg (laC x kv)∧NumsAt .u64 w kv xs∧(∀z∈xs,U64 z)∧xs.length≤9223372036854775807∧I64 x.slabs∧I64 x.per∧I64 x.lag:=by
 obtain⟨f0,f1,f2,f3,hu,t0,t1,t2,t3⟩:=structLaid
 have hone:=oneLaid hu
 obtain⟨v0,v1,v2,v3,y0,y1,y2,y3,n,rfl,_,_,g0,g1,g2,g3⟩:=open_agg4 hu hone cellsLaid hv h
 rw[t0] at g0;rw[t1] at g1;rw[t2] at g2;rw[t3] at g3
 obtain⟨z0,e0,_,w0⟩:=DataW.trod_int Tryz.underlying3 g0
 obtain⟨z2,e2,_,w2⟩:=DataW.trod_int Tryz.underlying3 g2
 obtain⟨z3,e3,_,w3⟩:=DataW.trod_int Tryz.underlying3 g3
 obtain rfl:v0=_:=by simpa using e0
 obtain rfl:v2=_:=by simpa using e2
 obtain rfl:v3=_:=by simpa using e3
 obtain⟨xs,q1,q2,q3⟩:=open_words_in g1
 exact⟨⟨z0,z2,z3⟩,v1,xs,rfl,q1,q2,q3,bounds_i64 w0,bounds_i64 w2,bounds_i64 w3⟩
end
theorem ScanFinds_l (x:La) (kv:Value) (xs:List Int) (lo hi lim:Int) (w:World) (hn:NumsAt .u64 w kv xs) (hu: ∀z∈xs,U64 z) (hl:xs.length≤9223372036854775807) (h1:I64 x.slabs) (h2:I64 x.per) (h3:I64 x.lag) (a0:0≤lo) (a1:lo≤18446744073709551615) (b0:0≤hi) (b1:hi≤18446744073709551615) (c0: -9223372036854775808≤lim) (c1:lim≤9223372036854775807):
  Calls Tryz.prog 8 #[.agg (laC x kv),.int .u64 lo,.int .u64 hi,.int .i64 lim] w fun e w'=>e= .returned (.bool true)∧Below w.heap.size w w':=ScanFinds_z x kv xs lo hi lim hu hl ⟨h1,h2,h3⟩ ⟨a0,a1⟩ ⟨b0,b1⟩ w hn
end Go.Proofs.YtjmaicckkkdjpaaGreat
