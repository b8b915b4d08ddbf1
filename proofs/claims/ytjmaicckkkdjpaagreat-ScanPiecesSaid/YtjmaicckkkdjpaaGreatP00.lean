import Derived.Test.YtjmaicckkkdjpaaGreatF31
import Derived.ProofKit
import Derived.OpenShut
import Derived.Lib.SmallJoins
import Derived.Below
import Derived.ChangeOld
import Derived.Deep.Slices
import Derived.Deep.Fields
import Derived.ChangeSame
import Derived.SizedLaws
set_option maxRecDepth 100000
set_option maxHeartbeats 8000000
set_option linter.unusedVariables false
set_option linter.unusedSimpArgs false
/- Scans of so many pairs, one behind the other, plainly. -/
namespace Go.Proofs.YtjmaicckkkdjpaaGreat
open Go.RowKit
def frK (ks:List Nat) (lo:Int):List Nat:=ks.filter fun k:Nat=>decide (lo≤(k:Int))
theorem frK_rise {ks:List Nat} (h:ks.Pairwise (· < ·)) (lo:Int):(frK ks lo).Pairwise (· < ·):=h.filter _
theorem frK_len (ks:List Nat) (lo:Int):(frK ks lo).length≤ks.length:=List.length_filter_le _ _
theorem ansS_fr {ks:List Nat} (hk: ∀x∈ks,x<18446744073709551616) (lo lim:Int):ansS ks lo 18446744073709551615 lim.toNat=prK ((frK ks lo).take lim.toNat):=by
 rw[←scan_ans]
 unfold scanL prK frK
 rw[List.filter_map,List.map_take]
 congr 2
 refine List.filter_congr fun x hx=> ?_
 have h1:=hk x hx
 have h2:(x:Int)≤18446744073709551615:=by omega
 show decide (lo≤(x:Int)∧(x:Int)≤18446744073709551615)=decide (lo≤(x:Int))
 simp[h2]
theorem fr_behind: ∀{ls:List Nat},ls.Pairwise (· < ·)→ ∀{i k:Nat},ls[i]?=some k→frK ls ((k:Int)+1)=ls.drop (i+1):=by
 intro ls hr i k hi
 obtain⟨hlt,hk⟩:=List.getElem?_eq_some_iff.1 hi
 have hp:=List.pairwise_iff_getElem.1 hr
 have e:ls=ls.take (i+1)++ls.drop (i+1):=(List.take_append_drop ..).symm
 unfold frK
 conv=>lhs;rw[e]
 rw[List.filter_append]
 have h1:(ls.take (i+1)).filter (fun x:Nat=>decide ((k:Int)+1≤(x:Int)))=[]:=by
  rw[List.filter_eq_nil_iff]
  intro y hy
  obtain⟨j,hj,rfl⟩:=List.mem_iff_getElem.1 hy
  rw[List.length_take] at hj
  rw[List.getElem_take,decide_eq_true_eq]
  by_cases hji:j=i
  ·subst hji;omega
  ·have:=hp j i (by omega) hlt (by omega);omega
 have h2:(ls.drop (i+1)).filter (fun x:Nat=>decide ((k:Int)+1≤(x:Int)))=ls.drop (i+1):=by
  rw[List.filter_eq_self]
  intro y hy
  obtain⟨j,hj,rfl⟩:=List.mem_iff_getElem.1 hy
  rw[List.length_drop] at hj
  rw[List.getElem_drop,decide_eq_true_eq]
  have:=hp i (i+1+j) hlt (by omega) (by omega);omega
 rw[h1,h2,List.nil_append]
theorem fr_fr {ks:List Nat} {lo q:Int} (h:lo≤q):frK (frK ks lo) q=frK ks q:=by
 unfold frK
 rw[List.filter_filter]
 refine List.filter_congr fun x _=> ?_
 by_cases hx:q≤(x:Int)
 ·have:lo≤(x:Int):=by omega
  simp[hx,this]
 ·simp[hx]
structure PcS (ks:List Nat) (lo:Int) (j:Nat) (q:Int):Prop where
 jl:j≤(frK ks lo).length
 q0:0≤q∧q≤18446744073709551615
 fr:frK ks q=(frK ks lo).drop j
theorem PcS.start (ks:List Nat) {lo:Int} (h:0≤lo∧lo≤18446744073709551615):PcS ks lo 0 lo:=⟨Nat.zero_le _,h,rfl⟩
theorem PcS.piece {ks:List Nat} {lo q:Int} {j:Nat} (h:PcS ks lo j q) (hk: ∀x∈ks,x<18446744073709551616) (per:Nat):ansS ks q 18446744073709551615 per=prK (((frK ks lo).drop j).take per):=by
 have:=ansS_fr hk q (per:Int)
 rw[Int.toNat_natCast,h.fr] at this
 exact this
theorem prK_app (a b:List Nat):prK a++prK b=prK (a++b):=by unfold prK;rw[List.map_append]
theorem prK_len (a:List Nat):(prK a).length=a.length:=by unfold prK;rw[List.length_map]
theorem take_drop_app (ls:List Nat) (j per:Nat):ls.take j++(ls.drop j).take per=ls.take (j+per):=by rw[List.take_add]
theorem PcS.last {ks:List Nat} {lo q:Int} {j per:Nat} (h:PcS ks lo j q) (hp:1≤per) (hl:(((frK ks lo).drop j).take per).length=per): ∃k,(frK ks lo)[j+per-1]?=some k∧(((frK ks lo).drop j).take per)[per-1]?=some k∧j+per≤(frK ks lo).length:=by
 rw[List.length_take,List.length_drop] at hl
 have h1:j+per-1< (frK ks lo).length:=by omega
 refine⟨_,List.getElem?_eq_getElem h1,?_,by omega⟩
 rw[List.getElem?_take,if_pos (by omega),List.getElem?_drop,show j+(per-1)=j+per-1 by omega,List.getElem?_eq_getElem h1]
theorem PcS.step {ks:List Nat} (hr:ks.Pairwise (· < ·)) {lo q:Int} {j per k:Nat} (h:PcS ks lo j q) (hp:1≤per) (hk:(frK ks lo)[j+per-1]?=some k) (hk2:(k:Int)<18446744073709551615):PcS ks lo (j+per) ((k:Int)+1):=by
 obtain⟨hlt,hg⟩:=List.getElem?_eq_some_iff.1 hk
 have hm:k∈frK ks lo:=hg▸List.getElem_mem hlt
 have h1:lo≤(k:Int):=by
  have:=(List.mem_filter.1 hm).2
  exact of_decide_eq_true this
 refine⟨by omega,⟨by omega,by omega⟩,?_⟩
 rw[←fr_fr (lo:=lo) (q:=(k:Int)+1) (by omega),fr_behind (frK_rise hr lo) hk,show j+per-1+1=j+per by omega]
theorem PcS.max {ks:List Nat} (hr:ks.Pairwise (· < ·)) (hks: ∀x∈ks,x<18446744073709551616) {lo:Int} {i k:Nat} (hk:(frK ks lo)[i]?=some k) (hk2:(k:Int)=18446744073709551615):(frK ks lo).take (i+1)=frK ks lo:=by
 obtain⟨hlt,hg⟩:=List.getElem?_eq_some_iff.1 hk
 refine List.take_of_length_le ?_
 rcases Nat.lt_or_ge (i+1) (frK ks lo).length with h1 | h1
 ·have h2:=List.pairwise_iff_getElem.1 (frK_rise hr lo) i (i+1) hlt h1 (by omega)
  have h3:=hks _ (List.mem_filter.1 (List.getElem_mem h1)).1
  omega
 ·exact h1
theorem PcS.rest {ks:List Nat} {lo:Int} {j per:Nat} (hl:(((frK ks lo).drop j).take per).length<per):(frK ks lo).take (j+per)=frK ks lo:=by
 rw[List.length_take,List.length_drop] at hl
 exact List.take_of_length_le (by omega)
theorem fldC (c:Int) (s:ByteArray) (v:Value) (W:World):(Instr.field 41 (.agg (respP c s v)) 0).run Tryz.prog W= .ok (.int .i64 c) W:=by kernel_rfl
theorem own_someP {w:World} {base:Nat} {e:TypeId} {size:Nat} {v:Value} {n:Nat} {xs:List Value} (h:w.ownsRow base e size v n xs) (h0:0<n): ∃g cap,v= .slice (some ⟨g,0,none⟩) n cap∧n≤cap∧ ∀i x,xs[i]?=some x→w.cell? ⟨g,i,none⟩=some x:=by
 have hl:=h.1
 rcases h.2 with⟨_,h2⟩ | ⟨g,cap,cur,rfl,h2,h3,h4,h5,h6,h7⟩
 ·omega
 ·refine⟨g,cap,rfl,h4,fun i x hi=> ?_⟩
  have hi2:=(List.getElem?_eq_some_iff.1 hi).1
  have hb:Blk w g e cur:=h3
  rw[hb.cell,←Array.getElem?_toList]
  rw[←h7,List.getElem?_take,if_pos (by omega)] at hi
  exact hi
theorem ScWd.only {W0 W W':World} {si m:Nat} {MB:MB} {V:List Int} {M:MemS} {js:List Nat} (h:ScWd W0 si m MB V M W) (ho:Only js W W') (hj: ∀k∈js,k∉footM m MB M∧k≠si∧W0.heap.size≤k):ScWd W0 si m MB V M W':=by
 obtain⟨ks,h1,h2⟩:=h.since
 refine⟨h.mem.only ho (fun z hz hc=>(hj z hc).1 hz),h.st,(ho.cell (p:=⟨si,0,none⟩) (World.block_lt_of_cell? _ _ h.sc) (fun hc=>(hj si hc).2.1 rfl)).trans h.sc,h.sim,h.view,h.quiet,h.foot,ks++js,fun k hk=> ?_,(h2.mono (fun y hy=>by simp[hy])).trans ho (fun y hy=>Or.inl (by simp[hy]))⟩
 rcases List.mem_append.1 hk with h3 | h3
 ·exact h1 k h3
 ·exact Or.inl (hj k h3).2.2
section
variable {N0:Nat} {W0:World} {x:La} {xs:List Int} {wb g b nb:Nat} {R:AR} {lv:Value} {rows:List (List (Nat×NodeA))} {K si m:Nat} {MB:MB}
theorem WorIs.doneO (h:WorIs N0 W0 x xs wb g b nb R lv rows K si m MB) {M:MemS} {W:World} (hw:ScWd W0 si m MB (wordsOf R.bs) M W) (p:Nat) (hp:p≤1000) {c lo hi limit:Int} (hc:0≤c∧c≤64) (hlo:0≤lo) (hhi:hi<18446744073709551616) (hl1:1≤limit) (hl2:limit≤256) (hle:lo≤hi)
  {sg:Nat} {f:List Nat} (ha:ScAt W0 si m MB M sg (scNew c lo hi limit) f W) (hl:W0.heap.size≤W.heap.size):
  Calls Tryz.prog 30 #[ptrV m,ptrV sg,.int .i64 ((nK (risKeys xs) x.per.toNat x.lag.toNat 0*(70*tK (risKeys xs) x.per.toNat x.lag.toNat (K+1)+40)+17*p:Nat):Int)] W fun e w'=> ∃x' M' f',e= .returned (.bool true)∧ScEnd (risKeys xs) lo hi limit x'∧ScWd W0 si m MB (wordsOf R.bs) M' w'∧ScIs w' si m sg x' f'∧Only (sg::f++footM m MB M) W w'∧ ∀k∈footM m MB M',k∈footM m MB M∨W.heap.size≤k:=by
 refine(h.whole p hp hc hlo hhi hl1 hl2 hle sg M f hw.view (hw.inn ha) ha.is).mono ?_
 rintro e w' ⟨x',M',f',rfl,hA⟩
 obtain⟨ks,k1,k2⟩:=hw.since
 have hft: ∀k∈footM m MB M',W0.heap.size≤k∨k∈footM m MB (freshM (wordsOf R.bs)):=fun k hk=>(hA.foot k hk).elim (hw.foot k) (fun h=>Or.inl (Nat.le_trans hl h))
 refine⟨x',M',f',rfl,hA.fin,⟨hA.inn.mem,hA.inn.st,hA.inn.sc,hA.inn.sim,hA.view,hA.quiet hw.quiet,hft,ks++(sg::f++footM m MB M),fun k hk=> ?_,(k2.mono (fun y hy=>by simp[hy])).trans hA.only (fun y hy=>Or.inl (List.mem_append_right _ hy))⟩,hA.is,hA.only,hA.foot⟩
 rcases List.mem_append.1 hk with h1 | h1
 ·exact k1 k h1
 ·rcases List.mem_append.1 h1 with h1 | h1
  ·exact Or.inl (ha.lo k h1)
  ·exact hw.foot k h1
end
end Go.Proofs.YtjmaicckkkdjpaaGreat

/- The law ScanPieces, walked. -/
namespace Go.Proofs.YtjmaicckkkdjpaaGreat
open Go.RowKit
attribute [local go_sem ↓ high] laLoadAt21 append_shut2
attribute [local go_sem] ldM_run lvM_run stM_run Oper.semAt_some fldP fldC appM2_run
theorem sp_known (w W:World) (hb:Below w.heap.size w W):Calls Tryz.prog 28 #[] W fun e w'=>e= .returned (.bool true)∧Below w.heap.size w w':=by
 refine(Known21_z W).mono ?_
 rintro e w' ⟨h1,h2⟩
 exact⟨h1,bx hb h2⟩
structure SpI (W2 w5:World) (si m:Nat) (MB:MB) (V:List Int) (ks:List Nat) (lo:Int) (wv:Value) (i j:Nat) (q:Int) (gv:Value) (M:MemS) (W:World):Prop where
 ij:i≤j
 pcs:PcS ks lo j q
 wd:ScWd W2 si m MB V M W
 got:W.ownsRow w5.heap.size 96 2 gv j (pc (prK ((frK ks lo).take j)))
 gotf: ∀b,gv.ownBlock=some b→b∉footM m MB M
 want:W.ownsRow 0 96 2 wv (frK ks lo).length (pc (prK (frK ks lo)))
 wantf: ∀b,wv.ownBlock=some b→b∉footM m MB M∧b<w5.heap.size
 sz:w5.heap.size≤W.heap.size
theorem ScanPieces_z (x:La) (kv:Value) (xs:List Int) (lo per:Int) (hxs: ∀y∈xs,U64 y) (hxl:xs.length≤9223372036854775807) (hx:I64 x.slabs∧I64 x.per∧I64 x.lag) (hlo:U64 lo) (w:World) (hK:NumsAt .u64 w kv xs):
  Calls Tryz.prog 6 #[.agg (laC x kv),.int .u64 lo,.int .i64 per] w fun e w'=>e= .returned (.bool true)∧Below w.heap.size w w':=by
 obtain⟨W1,hW1⟩: ∃W1,W1=w.alloc (.cells (laC x kv) 86):=⟨_,rfl⟩
 have hb1:Below w.heap.size w W1:=by rw[hW1];exact ba (Below.refl _ _) _
 have k1:Blk W1 w.heap.size 86 (laC x kv):=by rw[hW1];exact Blk.new _ _ _
 have hld:=la_ld21 k1
 have AZ:=hid (SBegin_z x kv xs hxs hxl hx W1 (hK.bel hb1))
 have HW1:=hid hW1
 have HB1:=hid hb1
 have HX:=hid (⟨hxs,hK,hlo⟩:_∧_∧_)
 clear hW1 hb1 k1 hxs hxl hx hK hlo
 go_enter Tryz.func6,Tryz.ntmps6
 go_upto_region 1 with fail
 rw[show _=W1 from HW1.out.symm]
 go_wp2_with fail
 refine AZ.out.mono ?_
 rintro e W2 ⟨hb2,h2⟩
 have HB2:=hid (bx HB1.out hb2)
 clear hld hb2 AZ
 rcases h2 with⟨rfl,_⟩ | ⟨wb,g,b,nb,R,lv,rows,K,si,m,MB,rfl,hW⟩
 ·go_wp2_with fail
  refine(sp_known w _ HB2.out).mono ?_
  rintro e w3 ⟨rfl,hb3⟩
  have HB3:=hid hb3
  clear hb3
  go_wp2
  go_ret
  exact⟨rfl,HB3.out⟩
 by_cases p1:per<1
 ·clear hW
  go_wp2_with fail
  refine(sp_known w _ HB2.out).mono ?_
  rintro e w3 ⟨rfl,hb3⟩
  have HB3:=hid hb3
  clear hb3
  go_wp2
  go_ret
  exact⟨rfl,HB3.out⟩
 by_cases p2:per>256
 ·clear hW
  go_wp2_with fail
  refine(sp_known w _ HB2.out).mono ?_
  rintro e w3 ⟨rfl,hb3⟩
  have HB3:=hid hb3
  clear hb3
  go_wp2
  go_ret
  exact⟨rfl,HB3.out⟩
 obtain⟨pn,rfl⟩: ∃pn:Nat,per=(pn:Int):=⟨per.toNat,by omega⟩
 have HP:=hid (⟨by omega,by omega⟩:1≤pn∧pn≤256)
 have hk1:W2.cell? ⟨wb,1,none⟩=some (ptrV si):=by obtain⟨_,_,_,_,_,_,hO,_⟩:=hW.ov;exact hO.blk.cell 1
 have HW:=hid hW
 have NZ:=hid (hW.start.new (Nat.le_refl _) 0 lo 18446744073709551615 256)
 obtain⟨ks,hks⟩: ∃ks,ks=risKeys xs:=⟨_,rfl⟩
 have hkr:=risKeys_rise HX.out.1
 rw[←hks] at hkr
 have hkl:ks.length≤40:=by
  have h1:=hW.ok
  unfold LaOK at h1
  have h2:=risTo_len xs xs.length
  rw[hks];unfold risKeys;rw[List.length_map];omega
 have HKS:=hid (⟨hks,hkr,hkl⟩:_∧_∧_)
 clear hW hks hkr hkl
 go_wp2_with fail
 refine NZ.out.mono ?_
 rintro e W3 ⟨sg,f,rfl,hS3,hA3,hf3,hb3⟩
 obtain⟨L,hL⟩: ∃L:Nat,L=(nK (risKeys xs) x.per.toNat x.lag.toNat 0*(70*tK (risKeys xs) x.per.toNat x.lag.toNat (K+1)+40)+17*40):=⟨_,rfl⟩
 obtain⟨V,hV⟩: ∃V,V=wordsOf R.bs:=⟨_,rfl⟩
 rw[←hV] at hS3 hA3
 have KC2:Hid (∀M X,ScWd W2 si m MB V M X→X.cell? ⟨wb,2,none⟩=some (ptrV m)∧X.cell? ⟨wb,1,none⟩=some (ptrV si)∧Below w.heap.size w X):=hid fun M X h=>by
  rw[hV] at h
  obtain⟨⟨sp,h1⟩,_,h3,_⟩:=HW.out.now h
  refine⟨h1.cell 2,h1.cell 1,HB2.out.trans (h3.mono HB1.out.size)⟩
 have KBo:Hid (∀M X,ScWd W2 si m MB V M X→Calls Tryz.prog 31 #[ptrV wb,.int .i64 40] X fun e w'=>e= .returned (.int .i64 (L:Int))∧w'=X):=hid (by
  intro M X h
  rw[hV] at h
  have:=HW.out.boundAt h 40 (by omega)
  rw[←hL] at this
  exact this)
 have KD:Hid (∀(c q lim:Int) M X sg f,ScWd W2 si m MB V M X→ScAt W2 si m MB M sg (scNew c q 18446744073709551615 lim) f X→0≤c∧c≤64→0≤q∧q≤18446744073709551615→1≤lim∧lim≤256→W2.heap.size≤X.heap.size→Calls Tryz.prog 30 #[ptrV m,ptrV sg,.int .i64 (L:Int)] X fun e w'=> ∃x' M' f',e= .returned (.bool true)∧ScEnd ks q 18446744073709551615 lim x'∧ScWd W2 si m MB V M' w'∧ScIs w' si m sg x' f'∧Only (sg::f++footM m MB M) X w'∧ ∀k∈footM m MB M',k∈footM m MB M∨X.heap.size≤k):=hid (by
  intro c q lim M X sg f h ha h1 h2 h3 h4
  rw[hV] at h
  have:=HW.out.doneO h 40 (by omega) h1 h2.1 (by omega) h3.1 h3.2 h2.2 ha h4
  rw[←hL,←HKS.out.1,←hV] at this
  exact this)
 have HSL:Hid (si<W2.heap.size):=hid (World.block_lt_of_cell? _ _ HW.out.start.sc)
 have hS3d:=hS3.bel (Below.drew (Below.refl _ W3))
 have e0:=(KC2.out _ _ hS3d).1
 have HS3:=hid hS3d
 have HA3:=hid (hA3.bel (Below.drew (Below.refl _ W3)))
 have HL3:Hid (W2.heap.size≤W3.drew.heap.size):=hid hb3.size
 have HLO:=hid HX.out.2.2
 clear hL hV hS3 hA3 hf3 hb3 hS3d NZ hk1 p1 p2
 go_upto_region 5 with fail
 go_region_held3 (fun X=>X.cell? ⟨wb,2,none⟩=some (ptrV m)) (first | go_keep | (exact sC) | (exact e0))
  (first
  | (go_at_call 31;refine(KBo.out _ _ HS3.out).mono ?_;rintro e w9 ⟨rfl,rfl⟩)
  | (go_at_call 30;refine(KD.out 0 lo 256 _ _ _ _ HS3.out HA3.out (by omega) HLO.out (by omega) HL3.out).mono ?_;rintro e w4 ⟨xa,M1,f1,rfl,q1,q2,q3,q4,q5⟩;have sC:w4.cell? ⟨wb,2,none⟩=some (ptrV m):=(KC2.out _ _ q2).1;have HE:=hid (⟨q1,q2,q3,Nat.le_trans HL3.out q4.size⟩:_∧_∧_∧_);clear q1 q2 q3 q4 q5))
 obtain⟨q1,q2,q3,q4⟩:=HE.out
 have hpl40:(frK ks lo).length≤40:=by have:=frK_len ks lo;have:=HKS.out.2.2;omega
 have hpa:xa.pairs=prK (frK ks lo):=by
  rw[q1.pairs,ansS_fr HKS.out.2.1.2 lo 256,List.take_of_length_le (by rw[show((256:Int).toNat)=256 from rfl];omega)]
 have RA:=hid (SResp_z si m sg xa f1 q1.done q1.e (by rw[hpa,prK_len];omega) w4 q3)
 rw[hpa] at RA
 have HS4:=hid (⟨q2,q4⟩:_∧_)
 clear q1 q2 q3 q4 hpa HE HS3 HA3 HL3 sC e0
 go_wp2_with fail
 refine RA.out.mono ?_
 rintro e w5 ⟨v,rfl,hrow,hb5⟩
 rw[prK_len] at hrow
 obtain⟨nl,hnl⟩: ∃nl,nl=(frK ks lo).length:=⟨_,rfl⟩
 rw[←hnl] at hrow hpl40
 obtain⟨wva,wvc,rfl⟩:=row_form1 hrow
 have HI0:Hid (SpI W2 w5 si m MB V ks lo (.slice wva nl wvc) 0 0 lo nilS M1 w5):=hid ⟨Nat.le_refl _,PcS.start ks HLO.out,HS4.out.1.bel hb5,World.ownsRow_nil _ _ _ _,(fun b hb=>by cases hb),(by rw[←hnl];exact own_less hrow (Nat.zero_le _)),fun b hb=>⟨fun hc=>by have:=HS4.out.1.mem.is.foot_lt b hc;have:=own_base hrow b hb;omega,own_blt hrow hb⟩,Nat.le_refl _⟩
 have HN:=hid (⟨hnl,hpl40,Nat.le_trans HS4.out.2 hb5.size⟩:_∧_∧_)
 clear hrow hb5 hnl hpl40 RA HS4
 go_wp2
 go_loopw [10,11,12,13,14] (fun gv fv iv s13 s14 wr=> ∃(i j:Nat) (q:Int) (ga:Option Addr) (gc:Nat) (M:MemS),gv= .slice ga j gc∧fv= .int .u64 q∧iv= .int .i64 (i:Int)∧Hid (SpI W2 w5 si m MB V ks lo (.slice wva nl wvc) i j q (.slice ga j gc) M wr)) (fun _ _ iv _ _ _=>60- (intOf iv).toNat)
 case atStart=>exact⟨0,0,lo,none,0,M1,rfl,rfl,rfl,HI0⟩
 case round=>
  obtain⟨i,j,q,ga,gc,M,rfl,rfl,rfl,hI⟩:=hrel
  clear HI0
  obtain⟨wA,rfl⟩: ∃z,z=wr:=⟨_,rfl⟩
  have hij:i≤40:=by have:=hI.out.ij;have:=hI.out.pcs.jl;have:=HN.out.1;have:=HN.out.2.1;omega
  have i1:(i:Int)<60:=by omega
  have c1:=(KC2.out _ _ hI.out.wd).2.1
  have NZ:=hid (hI.out.wd.new (Nat.le_trans HN.out.2.2 hI.out.sz) 1 q 18446744073709551615 (pn:Int))
  have HIJ:=hid hij
  clear hij
  go_wp2_with fail
  refine NZ.out.mono ?_
  rintro e w6 ⟨sg2,f2,rfl,hS6,hA6,hf6,hb6⟩
  obtain⟨ps,hps⟩: ∃ps,ps=((frK ks lo).drop j).take pn:=⟨_,rfl⟩
  obtain⟨nq,hnq⟩: ∃nq,nq=ps.length:=⟨_,rfl⟩
  have hnp:nq≤pn∧nq≤40:=by
   have h1:=HN.out.1;have h2:=HN.out.2.1
   rw[hnq,hps,List.length_take,List.length_drop];omega
  have HQ:Hid (∀xb f3 X0,ScEnd ks q 18446744073709551615 (pn:Int) xb→ScIs X0 si m sg2 xb f3→ ∀X,Below X0.heap.size X0 X→Calls Tryz.prog 32 #[ptrV sg2] X fun e w'=> ∃a c,e= .returned (.agg (respP 0 { data:= #[] } (.slice a nq c)))∧w'.ownsRow X.heap.size 96 2 (.slice a nq c) nq (pc (prK ps))∧Below X.heap.size X w'):=hid fun xb f3 X0 h1 h2 X hb=>by
   have hpp:xb.pairs=prK ps:=by
    rw[h1.pairs,Int.toNat_natCast,hI.out.pcs.piece HKS.out.2.1.2,hps]
   refine(SResp_z si m sg2 xb f3 h1.done h1.e (by rw[hpp,prK_len];omega) X (h2.only (Only.of_below hb []) (by simp) (by simp))).mono ?_
   rintro e w' ⟨y,rfl,r1,r2⟩
   rw[hpp,prK_len,←hnq] at r1
   obtain⟨a,c,rfl⟩:=row_form1 r1
   exact⟨a,c,rfl,r1,r2⟩
  have hS6d:=hS6.bel (Below.drew (Below.refl _ w6))
  have e6:=(KC2.out _ _ hS6d).1
  have HS6:=hid hS6d
  have HA6:=hid (hA6.bel (Below.drew (Below.refl _ w6)))
  have HL6:Hid (W2.heap.size≤w6.drew.heap.size):=hid (Nat.le_trans (Nat.le_trans HN.out.2.2 hI.out.sz) hb6.size)
  have HQ0:=hid hI.out.pcs.q0
  have H6:=hid (⟨hf6,hb6⟩:_∧_)
  have HPQ:=hid (⟨hps,hnq,hnp⟩:_∧_∧_)
  clear hS6 hA6 hf6 hb6 hS6d NZ c1 i1 hps hnq hnp
  go_upto_region 14 with fail
  go_region_held3 (fun X=>X.cell? ⟨wb,2,none⟩=some (ptrV m)) (first | go_keep | (exact sC8) | (exact sC) | (exact e6))
   (first
   | (go_at_call 31;(with_reducible refine(KBo.out _ _ HS6.out).mono ?_);rintro e w9 ⟨rfl,rfl⟩)
   | (go_at_call 30;(with_reducible refine(KD.out 1 q (pn:Int) _ _ _ _ HS6.out HA6.out (by omega) HQ0.out (by have:=HP.out;omega) HL6.out).mono ?_);rintro e w7 ⟨xb,M2,f3,rfl,q1,q2,q3,q4,q5⟩;have sC:w7.cell? ⟨wb,2,none⟩=some (ptrV m):=(KC2.out _ _ q2).1;have HR:=hid (HQ.out xb f3 w7 q1 q3);have HE:=hid (⟨q2,q4,q5⟩:_∧_∧_);clear q1 q2 q3 q4 q5)
   | (go_at_call 32;(with_reducible refine(HR.out _ (Below.refl _ _)).mono ?_);rintro e w8 ⟨a8,c8,rfl,_,p1⟩;have hv8:Below w7.heap.size w7 w8:=p1;have sC8:w8.cell? ⟨wb,2,none⟩=some (ptrV m):=cell_bel p1 sC;clear p1))
  have HR8:=hid (HR.out w8 hv8)
  have H8:=hid hv8
  clear hv8 sC8 sC e6 HR HQ HS6 HA6
  go_wp2_with fail
  refine HR8.out.mono ?_
  rintro e w9 ⟨la,lc,rfl,hl9,hb9⟩
  obtain⟨hd7,ho7,hf7⟩:=HE.out
  obtain⟨hf6,hb6⟩:=H6.out
  have hI:=hI.out
  have hb79:Below w7.heap.size w7 w9:=bx H8.out hb9
  have hs6:wA.heap.size≤w6.drew.heap.size:=hb6.size
  have hsz9:w5.heap.size≤w8.heap.size:=Nat.le_trans hI.sz (Nat.le_trans hs6 (Nat.le_trans ho7.size H8.out.size))
  have far: ∀{v:Value},(∀b,v.ownBlock=some b→b∉footM m MB M∧b<wA.heap.size)→ ∀b,v.ownBlock=some b→b∉sg2::f2++footM m MB M:=fun hv b hb hc=>by
   obtain⟨h1,h2⟩:=hv b hb
   rcases List.mem_append.1 hc with hc | hc
   ·have:=hf6 b hc;omega
   ·exact h1 hc
  have gfar: ∀b,(Value.slice ga j gc).ownBlock=some b→b∉footM m MB M∧b<wA.heap.size:=fun b hb=>⟨hI.gotf b hb,own_blt hI.got hb⟩
  have wfar: ∀b,(Value.slice wva nl wvc).ownBlock=some b→b∉footM m MB M∧b<wA.heap.size:=fun b hb=>⟨(hI.wantf b hb).1,Nat.lt_of_lt_of_le (hI.wantf b hb).2 hI.sz⟩
  have hO:Only (sg2::f2++footM m MB M) wA w9:=(((Only.of_below hb6 _).drew).trans ho7 (fun y hy=>Or.inl hy)).trans (Only.of_below hb79 []) (by simp)
  have g9:=hO.own hI.got (far gfar)
  have n9:=hO.own hI.want (far wfar)
  have d9:=hd7.bel hb79
  have gf9: ∀b,(Value.slice ga j gc).ownBlock=some b→b∉footM m MB M2:=fun b hb hc=>by
   rcases hf7 b hc with h | h
   ·exact(gfar b hb).1 h
   ·have:=(gfar b hb).2;omega
  have nf9: ∀b,(Value.slice wva nl wvc).ownBlock=some b→b∉footM m MB M2:=fun b hb hc=>by
   rcases hf7 b hc with h | h
   ·exact(wfar b hb).1 h
   ·have:=(wfar b hb).2;omega
  obtain⟨hps,hnq,hnp⟩:=HPQ.out
  have hj40:j≤40:=by have:=hI.pcs.jl;have:=HN.out.1;have:=HN.out.2.1;omega
  obtain⟨i0,hi0,hz0,hz1,hz2⟩:=info_parts infoPair
  obtain⟨v',w10,r⟩:=run_app (P:=Tryz.prog) w9 w5.heap.size 39 39 96 i0 (.agg #[.int .u64 0,.string ⟨#[]⟩]) 2 24 Tryz.underlying39 hi0 hz0 hz1 hz2 rfl (by decide) (.slice ga j gc) j _ g9 (.slice la nq lc) nq (pc (prK ps)) (own_news (own_less hl9 (Nat.zero_le _))) (by rw[pc_length,prK_len,←hnq]) (pc_one _) (by unfold maxLen;omega) (by omega) (Nat.le_trans hsz9 hb9.size)
  have happ:pc (prK ((frK ks lo).take j))++pc (prK ps)=pc (prK ((frK ks lo).take (j+pn))):=by rw[←pc_append,prK_app,hps,take_drop_app]
  rw[happ] at r
  have hrow:=r.own
  obtain⟨va,vc,rfl⟩:=row_form1 hrow
  have hrun:=r.run
  have hO10:Only (Value.slice ga j gc).ownBlock.toList w9 w10:=Only.of_grown r.grown (fun k hk=>by simp[hk])
  have gb5: ∀b,(Value.slice ga j gc).ownBlock=some b→w5.heap.size≤b:=own_base hI.got
  have l10:=hO10.own hl9 (fun b hb hc=>by
   have h1:=own_base hl9 b hb
   have h2:=(gfar b (by simpa using hc)).2
   have h3:=Nat.le_trans hs6 (Nat.le_trans ho7.size H8.out.size)
   omega)
  have n10:=hO10.own n9 (fun b hb hc=>by
   have h1:=(hI.wantf b hb).2
   have h2:=gb5 b (by simpa using hc)
   omega)
  have d10:=d9.only hO10 (fun k hk=>by
   have hk':(Value.slice ga j gc).ownBlock=some k:=by simpa using hk
   have h1:=gb5 k hk'
   have h2:=HN.out.2.2
   have h3:=HSL.out
   exact⟨gf9 k hk',by omega,by omega⟩)
  have gf10: ∀b,(Value.slice va (j+nq) vc).ownBlock=some b→b∉footM m MB M2:=fun b hb hc=>by
   rcases r.ob with h | h
   ·exact gf9 b (h▸hb) hc
   ·rw[h] at hb
    injection hb with hb
    have:=d9.mem.is.foot_lt b hc
    omega
  have HT:Hid ((frK ks lo).take (j+pn)=frK ks lo→ ∀X,Below w10.heap.size w10 X→Calls Tryz.prog 33 #[.slice va (j+nq) vc,.slice wva nl wvc] X fun e w'=>e= .returned (.bool true)∧Below X.heap.size X w'):=hid fun ht X hb=>by
   have h1:=(Only.of_below hb []).own (own_less hrow (Nat.zero_le _)) (by simp)
   have h2:=(Only.of_below hb []).own n10 (by simp)
   rw[ht] at h1
   have hjn:j+nq=(frK ks lo).length:=by
    have h5:=congrArg List.length ht
    rw[List.length_take] at h5
    rw[hnq,hps,List.length_take,List.length_drop]
    have:=hI.pcs.jl
    omega
   have h4:=HN.out.2.1
   have h3:=HN.out.1
   refine(RSamePairs_z _ _ (prK (frK ks lo)) (prK (frK ks lo)) X (by rw[prK_len,←hjn];exact h1) (by rw[prK_len];exact h2) (by rw[prK_len];omega) (by rw[prK_len];omega)).mono ?_
   rintro e w' ⟨rfl,h⟩
   rw[pairsEq_refl]
   exact⟨rfl,h⟩
  have HJ:Hid (∀q',PcS ks lo (j+nq) q'→nq=pn→1≤nq→SpI W2 w5 si m MB V ks lo (.slice wva nl wvc) (i+1) (j+nq) q' (.slice va (j+nq) vc) M2 w10):=hid fun q' h1 h2 h3=>⟨by have:=hI.ij;omega,h1,d10,by rw[←h2] at hrow;exact hrow,gf10,n10,fun b hb=>⟨nf9 b hb,(hI.wantf b hb).2⟩,Nat.le_trans hsz9 (Nat.le_trans hb9.size hO10.size)⟩
  have HB10:=hid (KC2.out _ _ d10).2.2
  have HPC:=hid hI.pcs
  have HL10:=hid l10
  clear hl9 hb9 hd7 ho7 hf7 hf6 hb6 hI hb79 hs6 hsz9 far gfar wfar hO g9 n9 d9 gf9 nf9 hps hnq hnp hj40 hi0 hz0 hz1 hz2 r happ hrow hO10 gb5 l10 n10 d10 gf10 HR8
  by_cases hq:nq=pn
  ·have hlen:(((frK ks lo).drop j).take pn).length=pn:=by rw[←HPQ.out.1,←HPQ.out.2.1];exact hq
   obtain⟨k,hk1,hk2,hk3⟩:=HPC.out.last HP.out.1 hlen
   have hP1:=HP.out.1
   have hP2:=HP.out.2
   obtain⟨t,ht⟩: ∃t,nq=t+1:=⟨nq-1,by omega⟩
   obtain⟨lb,lcap,hv1,hcap,hcl⟩:=own_someP HL10.out (by omega)
   injection hv1 with hv1 _ hv2
   subst hv1
   have ct:w10.cell? ⟨lb,t*2,none⟩=some (.int .u64 (k:Int)):=by
    refine hcl (t*2) _ ?_
    have h9:ps[t]?=some k:=by rw[HPQ.out.1,show t=pn-1 by omega];exact hk2
    have h10:t< (prK ps).length:=by rw[prK_len,←HPQ.out.2.1];omega
    rw[(pc_at (prK ps) t h10).1]
    unfold prK at h10 ⊢
    rw[List.getElem_map]
    have h11:=List.getElem?_eq_some_iff.1 h9
    rw[h11.2]
   have hk64:k<18446744073709551616:=HKS.out.2.1.2 k (List.mem_filter.1 (List.mem_of_getElem? hk1)).1
   have m1:IntKind.i64.wrap ((nq:Int)-1)=(t:Int):=by rw[IntKind.wrap_i64];omega
   have i2: ¬(nq:Int)< (pn:Int):=by omega
   have i3:(t:Int)< (nq:Int):=by omega
   have i4:(0:Int)≤(t:Int):=by omega
   have HQQ:=hid (⟨hq,hk1,ht⟩:_∧_∧_)
   by_cases hmax:(k:Int)=18446744073709551615
   ·have htk:(frK ks lo).take (j+pn)=frK ks lo:=by
     have h1:=PcS.max HKS.out.2.1.1 HKS.out.2.1.2 hk1 hmax
     rw[show j+pn-1+1=j+pn by omega] at h1
     exact h1
    have SZ:=hid (HT.out htk w10 (Below.refl _ _))
    have b1:((k:Int)==18446744073709551615)=true:=by rw[hmax];rfl
    clear hlen hk1 hk2 hk3 hP1 hP2 hq hcl hcap hv2 htk hmax hk64 HT HJ ht
    go_wp2_with fail
    refine SZ.out.mono ?_
    rintro e w11 ⟨rfl,hb11⟩
    have HB11:=hid (bx HB10.out hb11)
    clear hb11 SZ
    go_wp2_with fail
    refine(sp_known w _ HB11.out).mono ?_
    rintro e w12 ⟨rfl,hb12⟩
    have HB12:=hid hb12
    clear hb12
    go_wp2
    go_ret
    exact⟨rfl,HB12.out⟩
   ·have hm2:(k:Int)<18446744073709551615:=by omega
    have b1:((k:Int)==18446744073709551615)=false:=by simpa using hmax
    have m2:IntKind.u64.wrap ((k:Int)+1)=(k:Int)+1:=by rw[IntKind.wrap_u64];omega
    have HS:=hid (HJ.out _ (by rw[hq];exact HPC.out.step HKS.out.2.1.1 hP1 hk1 hm2) hq (by omega))
    have ij40:(i:Int)≤40:=by have:=HIJ.out;omega
    clear hlen hk1 hk2 hk3 hP1 hP2 hq hcl hcap hv2 hmax hm2 hk64 HT HJ ht
    go_wp2_with fail
    go_roundw
    case rel=>exact⟨i+1,j+nq,(k:Int)+1,va,vc,M2,rfl,rfl,by go_num,HS⟩
    case measure=>simp[intOf];have:=HIJ.out;omega
  ·have htk:(frK ks lo).take (j+pn)=frK ks lo:=PcS.rest (by rw[←HPQ.out.1,←HPQ.out.2.1];have:=HPQ.out.2.2;omega)
   have SZ:=hid (HT.out htk w10 (Below.refl _ _))
   have i2:(nq:Int)< (pn:Int):=by have:=HPQ.out.2.2;omega
   clear hq htk HT HJ
   go_wp2_with fail
   refine SZ.out.mono ?_
   rintro e w11 ⟨rfl,hb11⟩
   have HB11:=hid (bx HB10.out hb11)
   clear hb11 SZ
   go_wp2_with fail
   refine(sp_known w _ HB11.out).mono ?_
   rintro e w12 ⟨rfl,hb12⟩
   have HB12:=hid hb12
   clear hb12
   go_wp2
   go_ret
   exact⟨rfl,HB12.out⟩
end Go.Proofs.YtjmaicckkkdjpaaGreat

/- How arguments are opened: a slice of structs of one-cell fields; strings. Of no program. -/
namespace Go.Proofs.YtjmaicckkkdjpaaGreat
open Go.ChangeShapes Go.WideShapes Go.ChangeAt Go.RowKit Go.Joins Go.Deep
section
variable {H:Type} {enc:TypeId×Value→H} {P:Program} {w:World} {base:Nat} {spare:Nat→Bool} {held:Bool}
theorem cell_lt {w:World} {a:Addr} {v:Value} (h:w.cell? a=some v):a.block<w.heap.size:=by
 unfold World.cell? at h
 split at h
 ·rename_i hb;exact(Array.getElem?_eq_some_iff.1 hb).1
 ·cases h
end
section
variable {H:Type} {enc:TypeId×Value→H} {w:World} {base:Nat} {spare:Nat→Bool} {held:Bool}
end
end Go.Proofs.YtjmaicckkkdjpaaGreat
/- What is laid (law 21), opened. -/
namespace Go.Proofs.YtjmaicckkkdjpaaGreat
open Go.ChangeShapes Go.WideShapes Go.ChangeAt Go.RowKit Go.Joins Go.Deep
section
variable {H:Type} {enc:TypeId×Value→H} {w:World} {base:Nat} {spare:Nat→Bool} {held:Bool}
theorem structLaid: ∃f0 f1 f2 f3:Field,Tryz.prog.underlying 86=some (.struct #[f0,f1,f2,f3])∧f0.type=3∧f1.type=22∧f2.type=3∧f3.type=3:=
 ⟨_,_,_,_,Tryz.underlying86,rfl,rfl,rfl,rfl⟩
theorem oneLaid: ∀{fs},Tryz.prog.underlying 86=some (.struct fs)→oneCellFields Tryz.prog fs=true:=by
 intro fs h
 rw[Tryz.underlying86] at h
 injection h with h
 injection h with h
 subst h
 kernel_rfl
theorem cellsLaid:Tryz.prog.cellsOf 86=4:=by kernel_rfl
theorem open_words_in {fuel:Nat} {v:Value} {y:DataW H×List MemPlace} (h:DataW.trod enc Tryz.prog w base spare held fuel 22 [v]=some y): ∃xs:List Int,NumsAt .u64 w v xs∧(∀z∈xs,U64 z)∧xs.length≤9223372036854775807:=by
 rcases Go.ChangeShapes.open_ints Tryz.underlying22 Tryz.underlying25 (by kernel_rfl) h with⟨h1,_⟩ | ⟨a,len,cap',zs,h1,hb,hl,hm,hzl,hx,hcell,hwf⟩
 ·obtain rfl:v= .slice none 0 0:=by simpa using h1
  exact⟨[],⟨none,0,rfl,Or.inl rfl⟩,fun z hz=>(by cases hz),by simp⟩
 ·obtain rfl:v= .slice (some a) len cap':=by simpa using h1
  have hlz:len≤zs.length:=by rw[hzl];split<;>omega
  have hlen:(zs.take len).length=len:=by rw[List.length_take];omega
  refine⟨zs.take len,⟨some a,cap',by rw[hlen],?_⟩,fun z hz=>bounds_u64 (hwf z (List.mem_of_mem_take hz)),by rw[hlen];unfold maxLen at hm;omega⟩
  by_cases hn:len=0
  ·left;rw[hn];rfl
  right
  obtain⟨b,off,spot⟩:=a
  have hx0:=hcell 0 (by omega)
  have hsp:spot=none:=by simpa[Addr.add] using World.cell?_spot hx0
  subst hsp
  have hlt:b<w.heap.size:=by
   have:=cell_lt hx0
   rw[add_plain] at this
   exact this
  refine⟨b,off,rfl,hlt,fun i z hi=> ?_⟩
  have hi2:=(List.getElem?_eq_some_iff.1 hi).1
  rw[hlen] at hi2
  have h9:=hcell i (by omega)
  rw[add_plain] at h9
  rw[h9]
  rw[List.getElem?_take,if_pos hi2] at hi
  rw[List.getD_eq_getElem?_getD,hi];rfl
theorem open_laid {r:Reach} {b0:Nat} {v:Value} {d:DataW H} {p:List MemPlace} (hv:Value.okWide Tryz.prog w r b0 86 v) (h:DataW.Trod enc Tryz.prog w base spare held 86 v d p):
  ∃(x:La) (kv:Value) (xs:List Int),v= .agg (laC x kv)∧NumsAt .u64 w kv xs∧(∀z∈xs,U64 z)∧xs.length≤9223372036854775807∧I64 x.slabs∧I64 x.per∧I64 x.lag:=by
 obtain⟨f0,f1,f2,f3,hu,t0,t1,t2,t3⟩:=structLaid
 have hone:=oneLaid hu
 obtain⟨v0,v1,v2,v3,y0,y1,y2,y3,n,rfl,_,_,g0,g1,g2,g3⟩:=open_agg4 hu hone cellsLaid hv h
 rw[t0] at g0;rw[t1] at g1;rw[t2] at g2;rw[t3] at g3
 obtain⟨z0,e0,_,w0⟩:=DataW.trod_int Tryz.underlying3 g0
 obtain⟨z2,e2,_,w2⟩:=DataW.trod_int Tryz.underlying3 g2
 obtain⟨z3,e3,_,w3⟩:=DataW.trod_int Tryz.underlying3 g3
 obtain rfl:v0=_:=by simpa using e0
 obtain rfl:v2=_:=by simpa using e2
 obtain rfl:v3=_:=by simpa using e3
 obtain⟨xs,q1,q2,q3⟩:=open_words_in g1
 exact⟨⟨z0,z2,z3⟩,v1,xs,rfl,q1,q2,q3,bounds_i64 w0,bounds_i64 w2,bounds_i64 w3⟩
end
theorem ScanPieces_l (x:La) (kv:Value) (xs:List Int) (lo per:Int) (w:World) (hn:NumsAt .u64 w kv xs) (hu: ∀z∈xs,U64 z) (hl:xs.length≤9223372036854775807) (h1:I64 x.slabs) (h2:I64 x.per) (h3:I64 x.lag) (a0:0≤lo) (a1:lo≤18446744073709551615) (c0: -9223372036854775808≤per) (c1:per≤9223372036854775807):
  Calls Tryz.prog 6 #[.agg (laC x kv),.int .u64 lo,.int .i64 per] w fun e w'=>e= .returned (.bool true)∧Below w.heap.size w w':=ScanPieces_z x kv xs lo per hu hl ⟨h1,h2,h3⟩ ⟨a0,a1⟩ w hn
end Go.Proofs.YtjmaicckkkdjpaaGreat
