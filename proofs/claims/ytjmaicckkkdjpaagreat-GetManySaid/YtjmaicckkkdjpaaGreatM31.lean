import Derived.Test.YtjmaicckkkdjpaaGreatM12
import Derived.Test.YtjmaicckkkdjpaaGreatM42
/- The law GetMany, walked. -/
set_option maxRecDepth 100000
set_option maxHeartbeats 4000000
set_option linter.unusedVariables false
set_option linter.unusedSimpArgs false
namespace Go.Proofs.YtjmaicckkkdjpaaGreat
open Go.RowKit
attribute [local go_sem ↓ high] laLoadAt15 rsLoadAt rsLoadVar rsStoreAt
attribute [local go_sem] ldM_run lvM_run stM_run Oper.semAt_some
def GmF (A k gp:Nat) (rc:Int) (rv:ByteArray):Nat→Value→World→Prop
 | 0,v,_=>v= .int .i64 (k:Int)
 | 1,v,_=>v= .pointer (some ⟨A+1+1,k,none⟩)
 | 2,v,_=>v= .bool true
 | 3,v,_=>v= .bool false
 | 4,v,_=>v= .bool false
 | 5,v,_=>v= .int .i64 (k:Int)
 | 6,v,_=>v= .pointer (some ⟨A,k,none⟩)
 | 7,v,_=>v=ptrV gp
 | 8,v,_=>v= .int .i64 0
 | 9,v,_=>v= .bool false
 | 10,v,_=>v= .bool false
 | 11,v,_=>v= .bool false
 | 12,v,_=>v= .int .i64 (k:Int)
 | 13,v,_=>v= .pointer (some ⟨A,k,none⟩)
 | 14,v,_=>v=ptrV gp
 | 15,v,_=>v= .agg (respC rc rv)
 | 16,v,_=>v= .agg (respC rc rv)
 | 17,v,_=>v= .bool true
 | 18,v,_=>v= .bool false
 | 19,v,_=>v= .bool false
 | _,_,_=>True
theorem GmF.bel {A k gp:Nat} {rc:Int} {rv:ByteArray} {w w':World} (hb:Below w.heap.size w w') (j:Nat) (v:Value) (h:GmF A k gp rc rv j v w):GmF A k gp rc rv j v w':=by
 unfold GmF at h ⊢
 split at h<;>exact h
def GmG (n wb g m b:Nat) (S0:ByteArray):Nat→Value→World→Prop
 | 0,v,_=>v=ptrV wb
 | 1,v,_=>v=ptrV wb
 | 2,v,_=>v= .pointer (some ⟨wb,2,none⟩)
 | 3,v,_=>v=ptrV m
 | 4,v,w=> ∃a c,v= .slice a n c∧ ∀X,Below w.heap.size w X→(convert 47 9 (.slice a n c)).run Tryz.prog X= .ok (.string S0) X
 | 5,v,_=>v= .string S0
 | 6,v,_=>v=ptrV wb
 | 7,v,_=>v=ptrV wb
 | 8,v,_=>v= .pointer (some ⟨wb,0,none⟩)
 | 9,v,_=>v=ptrV g
 | 10,v,_=>v=ptrV g
 | 11,v,_=>v= .pointer (some ⟨g,0,none⟩)
 | 12,v,_=>v= .slice (some ⟨b,0,none⟩) n n
 | 13,v,_=>v= .string S0
 | 14,v,_=>v= .bool true
 | 15,v,_=>v= .bool true
 | 16,v,_=>v= .bool true
 | 17,v,_=>v= .bool true
 | _,_,_=>True
theorem GmG.bel {n wb g m b:Nat} {S0:ByteArray} {w w':World} (hb:Below w.heap.size w w') (j:Nat) (v:Value) (h:GmG n wb g m b S0 j v w):GmG n wb g m b S0 j v w':=by
 by_cases hj:j=4
 ·subst hj
  obtain⟨a,c,h1,h2⟩:=h
  exact⟨a,c,h1,fun X hX=>h2 X (bx hb hX)⟩
 ·unfold GmG at h ⊢
  split at h<;>first | exact h | exact absurd rfl hj
def q3 (a b c:Int) (i:Nat):Int:=if i=0 then a else if i=1 then b else c
theorem cells3 (W:World) (A:Nat) (t:TypeId) (a b c:Value) (v:Nat→Value) (h:Blk W A t #[a,b,c]) (h0:v 0=a) (h1:v 1=b) (h2:v 2=c):Cells3 W A t 3 v:=
 ⟨_,h,rfl,fun d hd=>by
  rcases(by omega:d=0∨d=1∨d=2) with rfl | rfl | rfl
  ·rw[h0];rfl
  ·rw[h1];rfl
  ·rw[h2];rfl⟩
theorem gm_known (w W:World) (hb:Below w.heap.size w W):Calls Tryz.prog 10 #[] W fun e w'=>e= .returned (.bool true)∧Below w.heap.size w w':=by
 refine(Known15_z W).mono ?_
 rintro e w' ⟨h1,h2⟩
 exact⟨h1,bx hb h2⟩
theorem turn_conv (y:Int):0≤IntKind.u64.wrap y∧(IntKind.u64.wrap y).tmod 3=((IntKind.u64.wrap y).toNat % 3:Nat):=by
 rw[IntKind.wrap_u64]
 have h:0≤y % 18446744073709551616:=Int.emod_nonneg _ (by decide)
 refine⟨h,?_⟩
 rw[Int.tmod_eq_emod_of_nonneg h]
 omega
theorem GetMany_z (x:La) (kv ov:Value) (xs ord:List Int) (y0 y1 y2:Int) (hxs: ∀y∈xs,U64 y) (hxl:xs.length≤9223372036854775807) (hol:ord.length≤9223372036854775807) (hx:I64 x.slabs∧I64 x.per∧I64 x.lag) (hq: ∀c,U64 (q3 y0 y1 y2 c)) (w:World) (hK:NumsAt .u64 w kv xs) (hO:NumsAt .i64 w ov ord):
  Calls Tryz.prog 4 #[.agg (laC x kv),.agg #[.int .u64 y0,.int .u64 y1,.int .u64 y2],ov] w fun e w'=>e= .returned (.bool true)∧Below w.heap.size w w':=by
 obtain⟨oa,oc,rfl,hoc⟩:=hO
 obtain⟨o,ho⟩: ∃o,o=ord.length:=⟨_,rfl⟩
 have HO:Hid (NumsAt .i64 w (.slice oa o oc) ord):=hid ⟨oa,oc,by rw[ho],hoc⟩
 rw[←ho]
 obtain⟨W1,hW1⟩: ∃W1,W1=(w.alloc (.cells (laC x kv) 24)).alloc (.cells #[.int .u64 y0,.int .u64 y1,.int .u64 y2] 53):=⟨_,rfl⟩
 have hb1:Below w.heap.size w W1:=by rw[hW1];exact ba (ba (Below.refl _ _) _) _
 have k1:Blk W1 w.heap.size 24 (laC x kv):=by rw[hW1];exact(Blk.new _ _ _).alloc _
 have q1:Blk W1 (w.heap.size+1) 53 #[.int .u64 y0,.int .u64 y1,.int .u64 y2]:=by
  have h:=Blk.new (w.alloc (.cells (laC x kv) 24)) 53 #[.int .u64 y0,.int .u64 y1,.int .u64 y2]
  rw[World.size_alloc] at h
  rw[hW1];exact h
 have QB:=hid (cells3 W1 _ _ _ _ _ (fun c=> .int .u64 (q3 y0 y1 y2 c)) q1 rfl rfl rfl)
 have hld:=la_ld15 k1
 have AZ:=hid (Begin_z x kv xs hxs hxl hx W1 (hK.bel hb1))
 obtain⟨q,hqq⟩: ∃q,q=q3 y0 y1 y2:=⟨_,rfl⟩
 rw[←hqq] at hq QB
 have HW1:=hid hW1
 have HB1:=hid hb1
 have HK1:=hid k1
 have HX:=hid (⟨hxs,hq,hK,ho,hol⟩:_∧_∧_∧_∧_)
 clear hW1 hb1 k1 q1 hxs hxl hx hK hq hqq hoc ho hol
 go_enter Tryz.func4,Tryz.ntmps4
 go_upto_region 1 with fail
 rw[show _=W1 from HW1.out.symm]
 go_wp2_with fail
 refine AZ.out.mono ?_
 rintro e W2 ⟨hb2,h2⟩
 have HB2:=hid (bx HB1.out hb2)
 have HB12:=hid hb2
 clear hld hb2 AZ
 rcases h2 with⟨rfl,_⟩ | ⟨wb,g,b,nb,R,lv,rows,K,si,m,MB,rfl,hW⟩
 ·go_wp2_with fail
  refine(gm_known w _ HB2.out).mono ?_
  rintro e w3 ⟨rfl,hb3⟩
  have HB3:=hid hb3
  clear hb3
  go_wp2
  go_ret
  exact⟨rfl,HB3.out⟩
 by_cases o3:300<o
 ·have i3:(o:Int)>300:=by omega
  clear hW o3
  go_wp2_with fail
  refine(gm_known w _ HB2.out).mono ?_
  rintro e w3 ⟨rfl,hb3⟩
  have HB3:=hid hb3
  clear hb3
  go_wp2
  go_ret
  exact⟨rfl,HB3.out⟩
 have i3: ¬(o:Int)>300:=by omega
 have HO3:Hid (o≤300):=hid (by omega)
 have HW:=hid hW
 clear o3
 obtain⟨V,hV⟩: ∃V,V=wordsOf R.bs:=⟨_,rfl⟩
 obtain⟨A,hA⟩: ∃A,A=W2.heap.size:=⟨_,rfl⟩
 obtain⟨V3,hV3⟩: ∃V3,V3=((W2.alloc (.cells #[.pointer none,.pointer none,.pointer none] 55)).alloc (.cells #[.int .i64 0,.int .i64 0,.int .i64 0] 56)).alloc (.cells #[.bool false,.bool false,.bool false] 57):=⟨_,rfl⟩
 have hb3:Below W2.heap.size W2 V3:=by rw[hV3];exact ba (ba (ba (Below.refl _ _) _) _) _
 have I0:GmX W2 si m MB V 0 (fun _=>0) V3 (fun c=>gtNew c (q c)) (fun _=>[]) (freshM V) (fun _=>false) (fun _=>0):=by
  obtain⟨wc,N1,S,size,gs,sp,hOv,_,_,_,_⟩:=hW.ov
  rw[←hV] at hOv
  have hs3:V3.heap.size=W2.heap.size+3:=by rw[hV3];simp
  have b8:Blk V3 W2.heap.size 55 #[.pointer none,.pointer none,.pointer none]:=by rw[hV3];exact((Blk.new _ _ _).alloc _).alloc _
  have b9:Blk V3 (W2.heap.size+1) 56 #[.int .i64 0,.int .i64 0,.int .i64 0]:=by
   have h:=Blk.new (W2.alloc (.cells #[.pointer none,.pointer none,.pointer none] 55)) 56 #[.int .i64 0,.int .i64 0,.int .i64 0]
   rw[World.size_alloc] at h
   rw[hV3];exact h.alloc _
  have b10:Blk V3 (W2.heap.size+2) 57 #[.bool false,.bool false,.bool false]:=by
   have h:=Blk.new ((W2.alloc (.cells #[.pointer none,.pointer none,.pointer none] 55)).alloc (.cells #[.int .i64 0,.int .i64 0,.int .i64 0] 56)) 57 #[.bool false,.bool false,.bool false]
   rw[World.size_alloc,World.size_alloc] at h
   rw[hV3];exact h
  refine⟨⟨fun c hc=>absurd hc (Nat.not_lt_zero _),fun c hc=>absurd hc (Nat.not_lt_zero _),fun c d hc=>absurd hc (Nat.not_lt_zero _),fun c hc=>absurd hc (Nat.not_lt_zero _),⟨rfl,rfl,rfl⟩,fun y hy=>Or.inl hy,hOv.sil,fun y hy=>hOv.mem.foot_lt y hy,by omega,[],(fun y hy=>by cases hy),Only.of_below hb3 []⟩,⟨_,b8,rfl,fun c hc=>absurd hc (Nat.not_lt_zero _)⟩,cells3 _ _ _ _ _ _ _ b9 rfl rfl rfl,cells3 _ _ _ _ _ _ _ b10 rfl rfl rfl⟩
 have AF:Hid (∀k gs W ys fs M dn n,GmX W2 si m MB V k gs W ys fs M dn n→(∃sp,Blk W wb 36 #[ptrV g,ptrV si,ptrV m,sp])∧ArIs W g b nb R lv∧Below W1.heap.size W1 W):=by
  refine hid fun k gs W ys fs M dn n h=> ?_
  obtain⟨js,h1,h2⟩:=h.w.since
  obtain⟨p1,p2,p3⟩:=HW.out.after (Below.refl _ _) (by rw[←hV];exact h1) h2
  exact⟨p1,p2,HB12.out.trans p3⟩
 have HI0:Hid (∃gs fs,GmX W2 si m MB V 0 gs V3 (fun c=>gtNew c (q c)) fs (freshM V) (fun _=>false) (fun _=>0)∧Below W2.heap.size W2 V3):=hid ⟨_,_,I0,hb3⟩
 have HV3:=hid hV3
 have HA:=hid hA
 have HV:=hid hV
 have HB3:=hid hb3
 clear I0 hV3 hA hV hb3 hW
 go_upto_region 7 with fail
 rw[show _=V3 from HV3.out.symm]
 rw[←HA.out]
 have NZ:=hid (fun(k:Nat) W=>GtNew_z si m (k:Int) (q k) W)
 clear HV3 HB3
 go_wp2
 go_loopw [11] (fun cv wr=> ∃k:Nat,k≤3∧cv= .int .i64 k∧Hid (∃gs fs,GmX W2 si m MB V k gs wr (fun c=>gtNew c (q c)) fs (freshM V) (fun _=>false) (fun _=>0)∧Below W2.heap.size W2 wr)) (fun cv _=>3- (intOf cv).toNat)
 case atStart=>exact⟨0,by omega,rfl,HI0⟩
 case round=>
  obtain⟨k,hk,rfl,hI⟩:=hrel
  clear HI0
  obtain⟨wA,rfl⟩: ∃y,y=wr:=⟨_,rfl⟩
  by_cases hlt:k<3
  ·have i1:(k:Int)<3:=by omega
   have i0:(0:Int)≤(k:Int):=by omega
   obtain⟨gs,fs,hJ,hbJ⟩:=hI.out
   obtain⟨⟨sp,hwb⟩,_,hbW⟩:=AF.out _ _ _ _ _ _ _ _ hJ
   have c1:wA.cell? ⟨wb,1,none⟩=some (ptrV si):=hwb.cell 1
   have c2:wA.cell? ⟨w.heap.size+1,k,none⟩=some (.int .u64 (q k)):=cell_bel hbW (QB.out.cell hlt)
   obtain⟨pv,c3⟩:=hJ.a8.any hlt
   rw[←HA.out] at c3
   have f3:wA.frozen? ⟨A,k,none⟩=false:=by rw[HA.out];exact hJ.a8.frozen k
   have HF8:Hid (∀Y,Below wA.heap.size wA Y→Y.frozen? ⟨A,k,none⟩=false):=hid fun Y hY=>by rw[HA.out];exact(hJ.a8.only (Only.of_below hY []) (by simp)).frozen k
   have HKP:Hid (∀Y u,Below wA.heap.size wA Y→(Y.setCell ⟨A,k,none⟩ u).cell? ⟨wb,1,none⟩=some (ptrV si)∧(Y.setCell ⟨A,k,none⟩ u).cell? ⟨w.heap.size+1,k,none⟩=some (.int .u64 (q k))):=by
    refine hid fun Y u hY=> ?_
    have ho:Only [A] Y (Y.setCell ⟨A,k,none⟩ u):=(Only.refl _ _).setCell (Or.inl (by simp)) _
    have hw1:wb<W2.heap.size:=by obtain⟨_,_,_,_,_,_,hOv,_⟩:=HW.out.ov;exact hOv.blk.lt
    have hw2:w.heap.size+1<W2.heap.size:=by have h1:=World.block_lt_of_cell? _ _ (QB.out.cell hlt);have h2:=HB12.out.size;exact Nat.lt_of_lt_of_le h1 h2
    have hys:=hY.size
    have hbs:=hbJ.size
    refine⟨(ho.cell (p:=⟨wb,1,none⟩) (by show wb<_;omega) (by simp;have:=HA.out;omega)).trans (cell_bel hY c1),(ho.cell (p:=⟨w.heap.size+1,k,none⟩) (by show w.heap.size+1<_;omega) (by simp;have:=HA.out;omega)).trans (cell_bel hY c2)⟩
   have HJ:=hid (⟨hJ,hbJ⟩:_∧_)
   have HLT:=hid hlt
   clear hI hJ hbJ hwb hbW hk hlt
   go_upto_region 10 with fail
   go_region_held3 (fun X=>X.cell? ⟨wb,1,none⟩=some (ptrV si)∧X.cell? ⟨w.heap.size+1,k,none⟩=some (.int .u64 (q k))) (first | (go_keep) | (exact HKP.out _ _ (by first | exact bx (Below.refl _ _) HG.out.2.2.2 | exact bx (Below.refl _ _).drew HG.out.2.2.2))) (first
    | (go_at_call 11;(with_reducible refine(NZ.out k _).mono ?_);rintro e v1 ⟨gp,f,rfl,p1,p2,p3,p4⟩;have d1:v1.cell? ⟨wb,1,none⟩=some (ptrV si):=cell_bel p4 c1;have d2:v1.cell? ⟨w.heap.size+1,k,none⟩=some (.int .u64 (q k)):=cell_bel p4 c2;have d3:v1.cell? ⟨A,k,none⟩=some pv:=cell_bel p4 c3;have g3:v1.frozen? ⟨A,k,none⟩=false:=HF8.out v1 (by first | exact bx (Below.refl _ _) p4 | exact bx (Below.refl _ _).drew p4);have HG:=hid (⟨p1,p2,p3,p4⟩:_∧_∧_∧_);clear p1 p2 p3 p4))
   go_wp2
   go_roundw
   case rel=>
    obtain⟨hJ,hbJ⟩:=HJ.out
    obtain⟨p1,p2,p3,p4⟩:=HG.out
    have hbX:Below wA.heap.size wA v1:=by first | exact bx (Below.refl _ _) p4 | exact bx (Below.refl _ _).drew p4
    have hbY:Below W2.heap.size W2 v1:=bx hbJ hbX
    have e9:updF (fun c:Nat=>gtNew (c:Int) (q c)) k (gtNew (k:Int) (q k))=fun c:Nat=>gtNew (c:Int) (q c):=funext fun c=>by
     by_cases e:c=k
     ·subst e;exact updF_at _ _ _
     ·exact updF_ne _ _ e
    have hin: ∀Y g f,Below wA.heap.size wA Y→wA.heap.size≤g→(∀z∈f,wA.heap.size≤z)→WkIn Y si m g MB (freshM V) 0 f:=fun Y g f hY hg hf=>by
     rw[HV.out]
     exact HW.out.inn (bx hbJ hY) (Nat.le_trans hbJ.size hg) (fun z hz=>Nat.le_trans hbJ.size (hf z hz))
    refine⟨k+1,by have:=HLT.out;omega,by go_num,hid ⟨updF gs k gp,updF fs k f,?_,?_⟩⟩
    ·have h9:=hJ.make HLT.out (by first | exact Below.refl _ _ | exact(Below.refl _ _).drew) hin p1 p2 p3 p4 (by first | exact Below.refl _ _ | exact(Below.refl _ _).drew)
     rw[e9,←HA.out] at h9
     exact h9
    ·have ho:Only [A] v1 (v1.setCell ⟨A,k,none⟩ (ptrV gp)):=(Only.refl _ _).setCell (Or.inl (by simp)) _
     have h7:=hbY.trans (ho.below (fun y hy=>by simp at hy;have:=HA.out;omega) hbY.size)
     first | exact h7 | exact h7.drew
   case measure=>simp[intOf];have:=HLT.out;omega
  ·obtain rfl:k=3:=by omega
   have i1: ¬((3:Nat):Int)<3:=by omega
   obtain⟨gs,fs,hJ,hbJ⟩:=hI.out
   obtain⟨n1,n2,n3,n4⟩:=HW.out.few
   obtain⟨keys,hkeys⟩: ∃keys,keys=risKeys xs:=⟨_,rfl⟩
   obtain⟨per,hper⟩: ∃per,per=x.per.toNat:=⟨_,rfl⟩
   obtain⟨lag,hlag⟩: ∃lag,lag=x.lag.toNat:=⟨_,rfl⟩
   have hBu:=HW.out.built
   rw[←hkeys,←hper,←hlag] at hBu n1 n2
   obtain⟨T,hT⟩: ∃T,T=tK keys per lag (K+1):=⟨_,rfl⟩
   rw[←hT] at n1 n2
   obtain⟨L,hL⟩: ∃L,L=70*T+40:=⟨_,rfl⟩
   have m1:IntKind.i64.wrap (70*(T:Int))=70*(T:Int):=by rw[IntKind.wrap_i64];omega
   have m2:IntKind.i64.wrap (70*(T:Int)+40)=(L:Int):=by rw[IntKind.wrap_i64];omega
   have m3:IntKind.i64.wrap (3*(L:Int))=3*(L:Int):=by rw[IntKind.wrap_i64];omega
   obtain⟨E,hE⟩: ∃E,E=3*L+300:=⟨_,rfl⟩
   have m4:IntKind.i64.wrap (3*(L:Int)+300)=(E:Int):=by rw[IntKind.wrap_i64];omega
   have NDZ:Hid (Calls Tryz.prog 15 #[ptrV wb] wA fun e w'=>e= .returned (.int .i64 (T:Int))∧w'=wA):=by
    obtain⟨N,hlv⟩:=HW.out.lvs
    obtain⟨_,_,_,_,_,sp,hO,_⟩:=HW.out.ov
    have:=Nodes_z wb g b nb N R lv (ptrV si) (ptrV m) sp rows wA (hO.blk.bel hbJ) (HW.out.ar.bel hbJ) (hlv.only (Only.of_below hbJ []) (by simp)) n3 n4
    rw[n1] at this
    exact hid this
   have HS0:GmS keys per lag K R.bs (1+45*T+15) o q (fun c=>gtNew c (q c)) (fun _=>false) (fun _=>0) 0:=fun c hc=>⟨Or.inl ⟨rfl,1+45*T+15,(by rw[hT];exact GtSt.walk _ _ .root),(by show 0+(1+45*T+15)≤1+45*T+15;omega)⟩,fun _=>by unfold turnsN;omega⟩
   have HI1:Hid (∃ys fs M dn n,GmX W2 si m MB V 3 gs wA ys fs M dn n∧GmS keys per lag K R.bs (1+45*T+15) o q ys dn n 0):=hid ⟨_,_,_,_,_,hJ,HS0⟩
   have HT:=hid (⟨hT,hL,hE,hkeys,hBu,n2⟩:_∧_∧_∧_∧_∧_)
   clear HS0 hJ hbJ hI n1 n2 n3 n4 hT hL hE hkeys hper hlag hBu hk hlt NZ
   go_wp2_with fail
   refine NDZ.out.mono ?_
   rintro e w5 ⟨rfl,rfl⟩
   clear NDZ
   go_wp2
   go_loopw [13] (fun iv wr=> ∃i:Nat,i≤E∧iv= .int .i64 i∧Hid (∃ys fs M dn n,GmX W2 si m MB V 3 gs wr ys fs M dn n∧GmS keys per lag K R.bs (1+45*T+15) o q ys dn n i)) (fun iv _=>E- (intOf iv).toNat)
   case atStart=>exact⟨0,by omega,rfl,HI1⟩
   case round=>
    obtain⟨i,hi,rfl,hI⟩:=hrel
    clear HI1
    obtain⟨wB,rfl⟩: ∃y,y=wr:=⟨_,rfl⟩
    obtain⟨ys,fs,M,dn,n,hJ,hS⟩:=hI.out
    by_cases hlt:i<E
    ·have i1:(i:Int)< (E:Int):=by omega
     have i0:(0:Int)≤(i:Int):=by omega
     have HJ:=hid (⟨hJ,hS,hlt⟩:_∧_∧_)
     obtain⟨r3,hr3⟩: ∃r3,r3=i % 3:=⟨_,rfl⟩
     have t1:(i:Int).tmod 3=(r3:Int):=by rw[Int.tmod_eq_emod_of_nonneg i0];omega
     have HR3:=hid (⟨hr3,(by omega:r3<3)⟩:_∧_)
     have iE:(E:Int)≤100000:=by have:=HT.out;omega
     have wi:IntKind.i64.wrap ((i:Int)+1)=(i:Int)+1:=by rw[IntKind.wrap_i64];omega
     clear hr3
     clear hI hJ hS hlt hi
     obtain⟨bd,hbd⟩: ∃bd:Bool,bd=decide (i<o):=⟨_,rfl⟩
     have jd:decide ((i:Int)< (o:Int))=bd:=by rw[hbd];simp
     have jd2:decide (i<o)=bd:=hbd.symm
     have HBD:=hid hbd
     clear hbd
     go_upto_if 60 with fail
     go_cut [14] from 61 to 67 (fun cv wd=>wB=wd∧Hid (∃c:Nat,c<3∧cv= .int .i64 c∧(o≤i→c=i % 3)))
     case first=>
      cases bd with
      | true=>
       have hio:i<o:=by simpa using HBD.out
       have j1:(i:Int)< (o:Int):=by omega
       clear jd jd2
       obtain⟨_,_,hbW⟩:=AF.out _ _ _ _ _ _ _ _ HJ.out.1
       obtain⟨oa2,oc2,e1,h2⟩:=HO.out.bel (bx HB1.out hbW)
       injection e1 with e1 _ _
       rcases h2 with h2 | ⟨ob,off,rfl,h3,h4⟩
       ·have:=HX.out.2.2.2.1;rw[h2] at this;simp at this;omega
       ·subst e1
        obtain⟨y,hy⟩: ∃y,ord[i]?=some y:=⟨_,List.getElem?_eq_getElem (by have:=HX.out.2.2.2.1;omega)⟩
        have c1:=h4 i y hy
        obtain⟨u0,u1⟩:=turn_conv y
        obtain⟨c,hc⟩: ∃c,c=(IntKind.u64.wrap y).toNat % 3:=⟨_,rfl⟩
        rw[←hc] at u1
        have hc3:c<3:=by omega
        have u2:IntKind.u64.wrap (c:Int)=(c:Int):=by rw[IntKind.wrap_u64];omega
        have u3:IntKind.i64.wrap (c:Int)=(c:Int):=by rw[IntKind.wrap_i64];omega
        have HC:=hid (⟨hc3,hio⟩:_∧_)
        clear hc hc3 h4 hy hbW hio
        go_wp2
        go_meet
        exact⟨rfl,hid ⟨c,HC.out.1,rfl,fun h=>by have:=HC.out.2;omega⟩⟩
      | false=>
       have hio: ¬i<o:=by simpa using HBD.out
       have j1: ¬(i:Int)< (o:Int):=by omega
       clear jd jd2 hio
       go_wp2
       go_meet
       exact⟨rfl,hid ⟨r3,HR3.out.2,rfl,fun _=>HR3.out.1⟩⟩
     case rest=>
      obtain⟨rfl,hcc⟩:=hcut
      obtain⟨c,hc,rfl,hci⟩:=hcc.out
      have hci:=hid hci
      obtain⟨hJ,hS,hlt⟩:=HJ.out
      have d0:(0:Int)≤(c:Int):=by omega
      have d3:(c:Int)<3:=by omega
      have c10:wB.cell? ⟨A+1+1,c,none⟩=some (.bool (dn c)):=by have:=hJ.a10.cell hc;rw[←HA.out] at this;exact this
      cases hd:dn c with
      | true=>
       rw[hd] at c10
       have H5:=hid (⟨hJ,hS.skip hc hd hci.out,hlt⟩:_∧_∧_)
       clear hJ hS hlt HJ hd
       go_wp2
       go_roundw
       case rel=>exact⟨i+1,by have:=H5.out.2.2;omega,by go_num,hid ⟨_,_,_,_,_,H5.out.1,H5.out.2.1⟩⟩
       case measure=>simp[intOf];have:=H5.out.2.2;omega
      | false=>
       rw[hd] at c10
       obtain⟨⟨sp,hwb⟩,_,_⟩:=AF.out _ _ _ _ _ _ _ _ hJ
       have c2:wB.cell? ⟨wb,2,none⟩=some (ptrV m):=hwb.cell 2
       have c8:=hJ.a8.cell hc
       have c9:=hJ.a9.cell hc
       rw[←HA.out] at c8 c9
       have hGC:=(hS c hc).1
       rw[hd] at hGC
       obtain⟨hok,_,hn1,hrc⟩:=hGC.step HT.out.2.2.2.2.1 (HX.out.2.1 c) (by omega)
       have hqv:=hJ.w.quiet.view
       obtain⟨X1,hX1⟩: ∃X1,X1=(ys c).next M.view:=⟨_,rfl⟩
       have hX2:X1=(ys c).next (wordsOf R.bs):=by rw[hX1,hqv,HV.out]
       have SZ:Hid (∀X,Below wB.heap.size wB X→Calls Tryz.prog 20 #[ptrV m,ptrV (gs c)] X fun e w'=>e= .returned (.tuple #[.bool X1.done,.bool true])∧ ∃M' f',MSt m MB 0 wB M w' M' ((ys c).eff (absM M)) (gs c::fs c)∧GtIs w' si m (gs c) X1 f'∧ ∀y∈f',y∈fs c∨(wB.heap.size≤y∧y∉footM m MB M')):=by
        refine hid fun X hb=>(LStep_z si m (gs c) MB M 0 (ys c) (fs c) (by rw[hqv,HV.out];exact hok) (fun h=>by rw[hqv,HV.out] at h ⊢;exact hrc h) X ((hJ.w.inn c hc).bel hb) ((hJ.w.is c hc).bel hb)).mono ?_
        intro e w' hp
        unfold GtDid at hp
        rw[←hX1] at hp
        obtain⟨h1,M',f',h2,h3,h4⟩:=hp
        exact⟨h1,M',f',h2.ahead hb,h3,fun y hy=>(h4 y hy).imp id (fun h=>⟨Nat.le_trans hb.size h.1,h.2⟩)⟩
       have HS9:=hS.turn HT.out.2.2.2.2.1 hc (HX.out.2.1 c) hd hci.out
       rw[←hX2] at HS9
       obtain⟨D,hD⟩: ∃D,D=X1.done:=⟨_,rfl⟩
       rw[←hD] at SZ HS9
       have w1:IntKind.i64.wrap ((n c:Int)+1)=(n c:Int)+1:=by rw[IntKind.wrap_i64];have:=HT.out;omega
       have g1: ¬(n c:Int)+1>(L:Int):=by have:=HT.out;omega
       have H5:=hid (⟨hJ,HS9,hlt,hc⟩:_∧_∧_∧_)
       clear hJ hS hlt HJ hd hwb hGC hok hn1 hrc hqv hX1 hX2 hD HS9
       go_upto_region 19 with fail
       go_region_held3 (fun X=>X.cell? ⟨wb,2,none⟩=some (ptrV m)∧X.cell? ⟨A,c,none⟩=some (ptrV (gs c))) (go_keep) (first
        | (go_at_call 20;(with_reducible refine(SZ.out _ (by first | exact Below.refl _ _ | exact(Below.refl _ _).drew)).mono ?_);rintro e v1 ⟨rfl,M',f',p1,p2,p3⟩;obtain⟨hJ,hS,hlt,hc⟩:=H5.out;have hJ6:=hJ.step hc p1 p2 p3;obtain⟨⟨sp6,hwb6⟩,_,_⟩:=AF.out _ _ _ _ _ _ _ _ hJ6;have d1:v1.cell? ⟨wb,2,none⟩=some (ptrV m):=hwb6.cell 2;have d2:v1.cell? ⟨A,c,none⟩=some (ptrV (gs c)):=(by rw[HA.out];exact hJ6.a8.cell hc);have HJ6:=hid (⟨hJ6,hS,hlt,hc⟩:_∧_∧_∧_);clear p1 p2 p3 hJ hS hlt hc hJ6 hwb6))
       obtain⟨hJ6,hS,hlt,hc⟩:=HJ6.out
       have e9:=hJ6.a9.cell hc
       rw[←HA.out] at e9
       have hJ7:=hJ6.setn hc (n c+1)
       have e10:=hJ7.a9.cell hc
       have e11:=hJ7.a10.cell hc
       have g9:v1.frozen? ⟨A+1,c,none⟩=false:=by rw[HA.out];exact hJ6.a9.frozen c
       have g10:=hJ7.a10.frozen c
       rw[updF_at] at e10
       have ec:((n c+1:Nat):Int)=(n c:Int)+1:=by push_cast;rfl
       rw[←HA.out] at hJ7 e10 e11 g10
       rw[ec] at hJ7 e10 e11 g10
       have e12:(v1.setCell ⟨A+1,c,none⟩ (.int .i64 ((n c:Int)+1))).cell? ⟨A+1+1,c,none⟩=some (.bool (dn c)):=e11
       have g12:(v1.setCell ⟨A+1,c,none⟩ (.int .i64 ((n c:Int)+1))).frozen? ⟨A+1+1,c,none⟩=false:=g10
       clear e11 g10
       have hJ8:=hJ7.setd hc D
       rw[←HA.out] at hJ8
       have H8:=hid (⟨hJ8,hS,hlt⟩:_∧_∧_)
       clear hJ6 hJ7 hJ8 hS hlt hc HJ6 H5
       go_wp2
       go_roundw
       case rel=>exact⟨i+1,by have:=H8.out.2.2;omega,by go_num,hid ⟨_,_,_,_,_,H8.out.1,H8.out.2.1⟩⟩
       case measure=>simp[intOf];have:=H8.out.2.2;omega
    ·have i1: ¬(i:Int)< (E:Int):=by omega
     have hall: ∀c,c<3→dn c=true∧GtEnd keys (q c) (ys c):=fun c hc=>hS.all (L:=L) HT.out.2.2.2.2.1 HX.out.2.1 (by have h1:=HT.out.2.1;have h2:=HT.out.2.2.1;omega) HO3.out (by have h1:=HT.out.2.1;omega) hc
     have H6:=hid (⟨hJ,hall⟩:_∧_)
     clear hJ hS hall hI hi hlt
     have HC0:Hid (Below wB.heap.size wB wB):=hid (Below.refl _ _)
     go_upto_region 24 with fail
     go_wp2
     go_loopw [17] (fun cv wr=> ∃k:Nat,k≤3∧cv= .int .i64 k∧Hid (Below wB.heap.size wB wr)) (fun cv _=>3- (intOf cv).toNat)
     case atStart=>exact⟨0,by omega,rfl,HC0⟩
     case round=>
      obtain⟨k,hk,rfl,hbC⟩:=hrel
      clear HC0
      obtain⟨wC,rfl⟩: ∃y,y=wr:=⟨_,rfl⟩
      obtain⟨hJ,hall⟩:=H6.out
      obtain⟨⟨sp,hwb⟩,hAr,hbW⟩:=AF.out _ _ _ _ _ _ _ _ hJ
      by_cases hlt:k<3
      ·have i1:(k:Int)<3:=by omega
       have i0:(0:Int)≤(k:Int):=by omega
       obtain⟨hdn,hE⟩:=hall k hlt
       obtain⟨V1,hV1⟩: ∃V1,V1=wC.alloc (.cells #[.int .i64 0,.string { data:= #[] },.slice none 0 0] 41):=⟨_,rfl⟩
       have kv1:Blk V1 wC.heap.size 41 (respC 0 { data:= #[] }):=by rw[hV1];exact resp_new wC
       have hbv1:Below wC.heap.size wC V1:=by rw[hV1];exact ba (Below.refl _ _) _
       obtain⟨V2,hst,kv2,ov2⟩:=resp_stA kv1 5 { data:= #[] }
       have hbv2:Below wC.heap.size wC V2:=hbv1.trans (ov2.below (fun y hy=>by simp at hy;omega) hbv1.size)
       have hbW2:Below W1.heap.size W1 V2:=bx (bx hbW hbC.out) hbv2
       have c1:V2.cell? ⟨w.heap.size,1,none⟩=some kv:=cell_bel hbW2 (HK1.out.cell 1)
       have c2:V2.cell? ⟨w.heap.size+1,k,none⟩=some (.int .u64 (q k)):=cell_bel hbW2 (QB.out.cell hlt)
       obtain⟨nn,hnn⟩: ∃nn:Nat,q k=(nn:Int):=⟨(q k).toNat,by have:=HX.out.2.1 k;unfold U64 at this;omega⟩
       rw[hnn] at c2 hE
       have HAS:=hid (fun X (hb:Below V2.heap.size V2 X)=>LHas_z kv xs nn X (HX.out.2.2.1.bel (bx HB1.out (bx hbW2 hb))) (by have:=HW.out.ok;unfold LaOK at this;omega))
       obtain⟨bb,hbb⟩: ∃bb,bb=decide ((nn:Int)∈xs):=⟨_,rfl⟩
       rw[←hbb] at HAS
       have HBB:=hid hbb
       clear hbb
       have VZ:=hid (fun W=>AValue_z nn (by have:=HX.out.2.1 k;rw[hnn] at this;unfold U64 at this;omega) W)
       have HV2:=hid (⟨kv2,hbv2⟩:_∧_)
       have hst':stR Tryz.prog 41 (.pointer (some ⟨wC.heap.size,0,none⟩)) (.agg #[.int .i64 5,.string { data:= #[] },.slice none 0 0]) (wC.alloc (.cells #[.int .i64 0,.string { data:= #[] },.slice none 0 0] 41))= .ok () V2:=by rw[←hV1];exact hst
       have HEE:=hid (⟨hE,hdn,hlt,hnn⟩:_∧_∧_∧_)
       obtain⟨rc,hrc⟩: ∃rc,rc=(ys k).rc:=⟨_,rfl⟩
       obtain⟨rv,hrv⟩: ∃rv,rv=(ys k).rv:=⟨_,rfl⟩
       have HR:=hid (⟨hrc,hrv⟩:_∧_)
       clear hJ hall hwb hAr hbW hk hlt hdn hE kv1 hbv1 kv2 ov2 hbv2 hbW2 hnn hrc hrv hst hV1
       go_upto_region 27 with fail
       go_upto_region 28 with fail
       go_cut [109] from 104 to 108 (fun v wd=>v= .bool bb∧Hid (Below V2.heap.size V2 wd))
       case first=>
        go_region_held3 (fun X=>X.cell? ⟨w.heap.size,1,none⟩=some kv∧X.cell? ⟨w.heap.size+1,k,none⟩=some (.int .u64 (nn:Int))) (go_keep) (first
         | (go_at_call 16;(with_reducible refine(HAS.out _ (by first | exact Below.refl _ _ | exact(Below.refl _ _).drew)).mono ?_);rintro e v1 ⟨rfl,rfl⟩))
        go_wp2
        go_meet
        exact⟨rfl,hid (by first | exact Below.refl _ _ | exact(Below.refl _ _).drew)⟩
       case rest=>
        obtain⟨rfl,hbD⟩:=hcut
        obtain⟨W4,rfl⟩: ∃y,y=wc:=⟨_,rfl⟩
        have c3:W4.cell? ⟨w.heap.size+1,k,none⟩=some (.int .u64 (nn:Int)):=cell_bel hbD.out c2
        go_upto_if 109 with fail
        go_cut [18] from 110 to 114 (fun v wd=>v= .pointer (some ⟨wC.heap.size,0,none⟩)∧Hid (Blk wd wC.heap.size 41 (respC rc rv)∧Below wC.heap.size wC wd))
        case first=>
         cases bb with
         | true=>
          have hq:(nn:Int)∈xs:=of_decide_eq_true HBB.out.symm
          have hres:=HEE.out.1.res
          rw[HT.out.2.2.2.1] at hres
          have hwant:=hres.want HX.out.1
          rw[if_pos hq,Int.toNat_natCast,←HR.out.1,←HR.out.2] at hwant
          have HWT:=hid hwant
          clear hwant hq
          go_wp2_with fail
          refine(VZ.out _).mono ?_
          rintro e V4 ⟨rfl,hb4⟩
          obtain⟨S1,hS1⟩: ∃S1,S1=strOfNums (numL nn):=⟨_,rfl⟩
          rw[←hS1] at HWT ⊢
          obtain⟨V5,hst5,kv5,ov5⟩:=resp_stA (HV2.out.1.bel (bx hbD.out hb4)) 0 S1
          have hst6:stR Tryz.prog 41 (.pointer (some ⟨wC.heap.size,0,none⟩)) (.agg #[.int .i64 0,.string S1,.slice none 0 0]) V4= .ok () V5:=hst5
          have H5:=hid (⟨kv5,bx HV2.out.2 (bx hbD.out hb4),ov5⟩:_∧_∧_)
          clear kv5 ov5 hb4 hS1 hst5
          go_wp2
          go_meet
          refine⟨rfl,hid ⟨?_,?_⟩⟩
          ·rw[HWT.out.1,HWT.out.2];exact H5.out.1
          ·exact H5.out.2.1.trans (H5.out.2.2.below (fun y hy=>by simp at hy;omega) H5.out.2.1.size)
         | false=>
          have hq: ¬(nn:Int)∈xs:=of_decide_eq_false HBB.out.symm
          have hres:=HEE.out.1.res
          rw[HT.out.2.2.2.1] at hres
          have hwant:=hres.want HX.out.1
          rw[if_neg hq,←HR.out.1,←HR.out.2] at hwant
          have HWT:=hid hwant
          clear hwant hq
          go_wp2
          go_meet
          exact⟨rfl,hid ⟨by rw[HWT.out.1,HWT.out.2];exact HV2.out.1.bel hbD.out,bx HV2.out.2 hbD.out⟩⟩
        case rest=>
         obtain⟨rfl,hV5⟩:=hcut
         obtain⟨W5,rfl⟩: ∃y,y=wc:=⟨_,rfl⟩
         obtain⟨hJ,hall⟩:=H6.out
         have hb5:Below wB.heap.size wB W5:=bx hbC.out hV5.out.2
         obtain⟨gp,hgp⟩: ∃gp,gp=gs k:=⟨_,rfl⟩
         have hk3:k<3:=HEE.out.2.2.1
         have h8:=hJ.a8.cell hk3
         have h10:=hJ.a10.cell hk3
         rw[HEE.out.2.1] at h10
         rw[←HA.out] at h8 h10
         have hi:=hJ.w.is k hk3
         rw[←hgp] at h8 hi
         have KS:Hid (∀X,Below W5.heap.size W5 X→X.cell? ⟨A+1+1,k,none⟩=some (.bool true)∧X.cell? ⟨A,k,none⟩=some (ptrV gp)∧ldR Tryz.prog 41 (.pointer (some ⟨wC.heap.size,0,none⟩)) X= .ok (.agg (respC rc rv)) X):=
          hid fun X hb=>⟨cell_bel (bx hb5 hb) h10,cell_bel (bx hb5 hb) h8,resp_ld (hV5.out.1.bel hb)⟩
         have TF:Hid (∀X,Below W5.heap.size W5 X→Calls Tryz.prog 18 #[ptrV gp] X fun e w'=>e= .returned (.int .i64 0)∧Below X.heap.size X w'):=by
          refine hid fun X hb=>(GtTries_z si m gp (ys k) (fs k) X (hi.bel (bx hb5 hb))).mono ?_
          rintro e w' ⟨rfl,rfl⟩
          rw[HEE.out.1.tries]
          exact⟨rfl,Below.refl _ _⟩
         have RF:Hid (∀X,Below W5.heap.size W5 X→Calls Tryz.prog 13 #[ptrV gp] X fun e w'=>e= .returned (.agg (respC rc rv))∧Below X.heap.size X w'):=by
          rw[HR.out.1,HR.out.2]
          exact hid fun X hb=>GtResp_z si m gp (ys k) (fs k) X (hi.bel (bx hb5 hb))
         have EF:Hid (∀X,Below W5.heap.size W5 X→Calls Tryz.prog 12 #[.agg (respC rc rv),.agg (respC rc rv)] X fun e w'=>e= .returned (.bool true)∧Below X.heap.size X w'):=by
          refine hid fun X hb=>(SameR_z rc rc rv rv X).mono ?_
          rintro e w' ⟨rfl,h⟩
          rw[strE_refl]
          exact⟨by simp,h⟩
         have HB5:=hid (⟨hb5,hk3⟩:_∧_)
         clear hJ hall hb5 hgp hk3 h8 h10 hi hV5 HV2 HAS VZ HR HEE hbD hbC c1 c2 c3
         go_upto_region 30 with fail
         go_cut [134] from 115 to 133 (fun v wd=>v= .bool false∧Hid (Below W5.heap.size W5 wd))
         case first=>
          refine wp_region_inv 19 (fun listed a X=>Below W5.heap.size W5 X∧ ∃vv:Nat→Value,FactsE (GmF A k gp rc rv) listed vv X∧a={ tmps:= #[Value.agg (laC x kv),Value.agg #[Value.int IntKind.u64 y0,Value.int IntKind.u64 y1,Value.int IntKind.u64 y2],Value.slice oa o oc,Value.pointer (some { block:=w.heap.size,off:=0 }),Value.pointer (some { block:=w.heap.size+1,off:=0 }),undef,u6,ptrV wb,Value.pointer (some { block:=A,off:=0 }),Value.pointer (some { block:=A+1,off:=0 }),Value.pointer (some { block:=A+1+1,off:=0 }),Value.int IntKind.i64 3,Value.int IntKind.i64 (L:Int),Value.int IntKind.i64 (i:Int),u14,u15,u16,Value.int IntKind.i64 (k:Int),Value.pointer (some { block:=wC.heap.size,off:=0 }),Value.agg (laC x kv),ptrV wb,ptrV wb,Value.bool false,Value.bool false,Value.slice oa o oc,Value.int IntKind.i64 (o:Int),Value.bool (decide (300< (o:Int))),Value.bool (decide (300< (o:Int))),undef,Value.int IntKind.i64 3,Value.bool false,u31,u32,u33,u34,u35,u36,u37,u38,u39,u40,u41,u42,u43,ptrV wb,Value.int IntKind.i64 (T:Int),Value.int IntKind.i64 (70*(T:Int)),Value.int IntKind.i64 (L:Int),Value.int IntKind.i64 (i:Int),Value.int IntKind.i64 (L:Int),Value.int IntKind.i64 (3*(L:Int)),Value.int IntKind.i64 (E:Int),Value.bool false,u53,u54,u55,u56,u57,u58,u59,u60,u61,u62,u63,u64,u65,u66,u67,u68,u69,u70,u71,u72,u73,u74,u75,u76,u77,u78,u79,u80,u81,u82,u83,u84,u85,u86,u87,u88,u89,u90,u91,u92,u93,u94,u95,u96,u97,u98,Value.int IntKind.i64 (k:Int),Value.bool true,u101,u102,Value.agg #[Value.int IntKind.i64 5,Value.string { data:= #[] },Value.slice none 0 0],u104,u105,u106,u107,u108,Value.bool bb,u110,u111,u112,u113,u114,vv 0,vv 1,vv 2,vv 3,vv 4,vv 5,vv 6,vv 7,vv 8,vv 9,vv 10,vv 11,vv 12,vv 13,vv 14,vv 15,vv 16,vv 17,vv 18,u134,undef,undef,undef,undef,undef,undef,undef,undef,undef,undef,undef,undef,undef,undef,undef,undef,undef,undef],defers:=[] }) rfl (by kernel_rfl) ?_ ?_ ?_
          ·exact⟨(Below.refl _ _).drew,fun i=>([u115,u116,u117,u118,u119,u120,u121,u122,u123,u124,u125,u126,u127,u128,u129,u130,u131,u132,u133]:List Value).getD i undef,fun i hi=>(by rw[getD_replicate_false] at hi;cases hi),rfl⟩
          ·rintro listed a X i op hi ho hun hdep ⟨hbX,vv,hx,rfl⟩
           rcases(by omega:i=0∨i=1∨i=2∨i=3∨i=4∨i=5∨i=6∨i=7∨i=8∨i=9∨i=10∨i=11∨i=12∨i=13∨i=14∨i=15∨i=16∨i=17∨i=18) with rfl | rfl | rfl | rfl | rfl | rfl | rfl | rfl | rfl | rfl | rfl | rfl | rfl | rfl | rfl | rfl | rfl | rfl | rfl
           ·cases ho
            refine wpOp_at rfl rfl (wp_value (v:= .int .i64 (k:Int)) ?_ ⟨hbX,updR vv 0 _,hx.step (fun j v h=>h) rfl,rfl⟩)
            go_simp
           ·cases ho
            have e115:vv 0= .int .i64 (k:Int):=hx 0 (hdep { on:=0,ground:= .data } (by simp) rfl)
            refine wpOp_at rfl rfl (wp_value (v:= .pointer (some ⟨A+1+1,k,none⟩)) ?_ ⟨hbX,updR vv 1 _,hx.step (fun j v h=>h) rfl,rfl⟩)
            rw[e115]
            go_simp
           ·cases ho
            have e116:vv 1= .pointer (some ⟨A+1+1,k,none⟩):=hx 1 (hdep { on:=1,ground:= .data } (by simp) rfl)
            have hl:=(KS.out X hbX).1
            refine wpOp_at rfl rfl (wp_value (v:= .bool true) ?_ ⟨hbX,updR vv 2 _,hx.step (fun j v h=>h) rfl,rfl⟩)
            rw[e116]
            go_simp
           ·cases ho
            have e117:vv 2= .bool true:=hx 2 (hdep { on:=2,ground:= .data } (by simp) rfl)
            refine wpOp_at rfl rfl (wp_value (v:= .bool false) ?_ ⟨hbX,updR vv 3 _,hx.step (fun j v h=>h) rfl,rfl⟩)
            rw[e117]
            go_simp
           ·cases ho
            have e118:vv 3= .bool false:=hx 3 (hdep { on:=3,ground:= .data } (by simp) rfl)
            refine wpOp_at rfl rfl (wp_value (v:= .bool false) ?_ ⟨hbX,updR vv 4 _,hx.step (fun j v h=>h) rfl,rfl⟩)
            rw[e118]
            go_simp
           ·cases ho
            have eg:vv 4= .bool false:=hx 4 (hdep { on:=4,ground:= .guard } (by simp) rfl)
            refine wpOp_ok rfl (by rw[eg];rfl) (wp_value (v:= .int .i64 (k:Int)) ?_ ⟨hbX,updR vv 5 _,hx.step (fun j v h=>h) rfl,rfl⟩)
            go_simp
           ·cases ho
            have eg:vv 4= .bool false:=hx 4 (hdep { on:=4,ground:= .guard } (by simp) rfl)
            have e120:vv 5= .int .i64 (k:Int):=hx 5 (hdep { on:=5,ground:= .data } (by simp) rfl)
            refine wpOp_ok rfl (by rw[eg];rfl) (wp_value (v:= .pointer (some ⟨A,k,none⟩)) ?_ ⟨hbX,updR vv 6 _,hx.step (fun j v h=>h) rfl,rfl⟩)
            rw[e120]
            go_simp
           ·cases ho
            have eg:vv 4= .bool false:=hx 4 (hdep { on:=4,ground:= .guard } (by simp) rfl)
            have e121:vv 6= .pointer (some ⟨A,k,none⟩):=hx 6 (hdep { on:=6,ground:= .data } (by simp) rfl)
            have hl:=(KS.out X hbX).2.1
            refine wpOp_ok rfl (by rw[eg];rfl) (wp_value (v:=ptrV gp) ?_ ⟨hbX,updR vv 7 _,hx.step (fun j v h=>h) rfl,rfl⟩)
            rw[e121]
            go_simp
           ·cases ho
            have eg:vv 4= .bool false:=hx 4 (hdep { on:=4,ground:= .guard } (by simp) rfl)
            have e122:vv 7=ptrV gp:=hx 7 (hdep { on:=7,ground:= .data } (by simp) rfl)
            refine wpOp_ok rfl (by rw[eg];rfl) (wp_enter (f:=18) (args:= #[vv 7]) (by kernel_rfl) ?_)
            have C:=TF.out X hbX
            rw[show(#[ptrV gp]:Array Value)= #[vv 7] from(by rw[e122])] at C
            refine C.mono ?_
            rintro e X' ⟨rfl,hb1⟩
            exact⟨_,rfl,bx hbX hb1,updR vv 8 _,hx.step (GmF.bel hb1) rfl,rfl⟩
           ·cases ho
            have eg:vv 4= .bool false:=hx 4 (hdep { on:=4,ground:= .guard } (by simp) rfl)
            have e123:vv 8= .int .i64 0:=hx 8 (hdep { on:=8,ground:= .data } (by simp) rfl)
            refine wpOp_ok rfl (by rw[eg];rfl) (wp_value (v:= .bool false) ?_ ⟨hbX,updR vv 9 _,hx.step (fun j v h=>h) rfl,rfl⟩)
            rw[e123]
            go_simp
           ·cases ho
            have e119:vv 4= .bool false:=hx 4 (hdep { on:=4,ground:= .data } (by simp) rfl)
            have e124:vv 9= .bool false:=hx 9 (hdep { on:=9,ground:= .data } (by simp) rfl)
            refine wpOp_at rfl rfl (wp_value (v:= .bool false) ?_ ⟨hbX,updR vv 10 _,hx.step (fun j v h=>h) rfl,rfl⟩)
            rw[e119,e124]
            go_simp
           ·cases ho
            have e125:vv 10= .bool false:=hx 10 (hdep { on:=10,ground:= .data } (by simp) rfl)
            refine wpOp_at rfl rfl (wp_value (v:= .bool false) ?_ ⟨hbX,updR vv 11 _,hx.step (fun j v h=>h) rfl,rfl⟩)
            rw[e125]
            go_simp
           ·cases ho
            have eg:vv 11= .bool false:=hx 11 (hdep { on:=11,ground:= .guard } (by simp) rfl)
            refine wpOp_ok rfl (by rw[eg];rfl) (wp_value (v:= .int .i64 (k:Int)) ?_ ⟨hbX,updR vv 12 _,hx.step (fun j v h=>h) rfl,rfl⟩)
            go_simp
           ·cases ho
            have eg:vv 11= .bool false:=hx 11 (hdep { on:=11,ground:= .guard } (by simp) rfl)
            have e127:vv 12= .int .i64 (k:Int):=hx 12 (hdep { on:=12,ground:= .data } (by simp) rfl)
            refine wpOp_ok rfl (by rw[eg];rfl) (wp_value (v:= .pointer (some ⟨A,k,none⟩)) ?_ ⟨hbX,updR vv 13 _,hx.step (fun j v h=>h) rfl,rfl⟩)
            rw[e127]
            go_simp
           ·cases ho
            have eg:vv 11= .bool false:=hx 11 (hdep { on:=11,ground:= .guard } (by simp) rfl)
            have e128:vv 13= .pointer (some ⟨A,k,none⟩):=hx 13 (hdep { on:=13,ground:= .data } (by simp) rfl)
            have hl:=(KS.out X hbX).2.1
            refine wpOp_ok rfl (by rw[eg];rfl) (wp_value (v:=ptrV gp) ?_ ⟨hbX,updR vv 14 _,hx.step (fun j v h=>h) rfl,rfl⟩)
            rw[e128]
            go_simp
           ·cases ho
            have eg:vv 11= .bool false:=hx 11 (hdep { on:=11,ground:= .guard } (by simp) rfl)
            have e129:vv 14=ptrV gp:=hx 14 (hdep { on:=14,ground:= .data } (by simp) rfl)
            refine wpOp_ok rfl (by rw[eg];rfl) (wp_enter (f:=13) (args:= #[vv 14]) (by kernel_rfl) ?_)
            have C:=RF.out X hbX
            rw[show(#[ptrV gp]:Array Value)= #[vv 14] from(by rw[e129])] at C
            refine C.mono ?_
            rintro e X' ⟨rfl,hb1⟩
            exact⟨_,rfl,bx hbX hb1,updR vv 15 _,hx.step (GmF.bel hb1) rfl,rfl⟩
           ·cases ho
            have eg:vv 11= .bool false:=hx 11 (hdep { on:=11,ground:= .guard } (by simp) rfl)
            have hl:=(KS.out X hbX).2.2
            refine wpOp_ok rfl (by rw[eg];rfl) (wp_value (v:= .agg (respC rc rv)) ?_ ⟨hbX,updR vv 16 _,hx.step (fun j v h=>h) rfl,rfl⟩)
            go_simp
           ·cases ho
            have eg:vv 11= .bool false:=hx 11 (hdep { on:=11,ground:= .guard } (by simp) rfl)
            have e130:vv 15= .agg (respC rc rv):=hx 15 (hdep { on:=15,ground:= .data } (by simp) rfl)
            have e131:vv 16= .agg (respC rc rv):=hx 16 (hdep { on:=16,ground:= .data } (by simp) rfl)
            refine wpOp_ok rfl (by rw[eg];rfl) (wp_enter (f:=12) (args:= #[vv 15,vv 16]) (by kernel_rfl) ?_)
            have C:=EF.out X hbX
            rw[show(#[.agg (respC rc rv),.agg (respC rc rv)]:Array Value)= #[vv 15,vv 16] from(by rw[e130,e131])] at C
            refine C.mono ?_
            rintro e X' ⟨rfl,hb1⟩
            exact⟨_,rfl,bx hbX hb1,updR vv 17 _,hx.step (GmF.bel hb1) rfl,rfl⟩
           ·cases ho
            have eg:vv 11= .bool false:=hx 11 (hdep { on:=11,ground:= .guard } (by simp) rfl)
            have e132:vv 17= .bool true:=hx 17 (hdep { on:=17,ground:= .data } (by simp) rfl)
            refine wpOp_ok rfl (by rw[eg];rfl) (wp_value (v:= .bool false) ?_ ⟨hbX,updR vv 18 _,hx.step (fun j v h=>h) rfl,rfl⟩)
            rw[e132]
            go_simp
          ·rintro a X ⟨hbX,vv,hx,rfl⟩
           have el:vv 18= .bool false:=hx 18 rfl
           rw[el]
           have el2:vv 11= .bool false:=hx 11 rfl
           rw[el2]
           simp only[List.drop_succ_cons,List.drop_nil,List.drop_zero]
           have HBX:=hid hbX
           clear hx hbX
           go_wp2
           go_meet
           exact⟨rfl,HBX⟩
         case rest=>
          obtain⟨rfl,hb6⟩:=hcut
          have HB6:=hid (bx HB5.out.1 hb6.out)
          clear hb6
          go_wp2
          go_roundw
          case rel=>exact⟨k+1,by have:=HB5.out.2;omega,by go_num,HB6⟩
          case measure=>simp[intOf];have:=HB5.out.2;omega
      ·obtain rfl:k=3:=by omega
       have i1: ¬((3:Nat):Int)<3:=by omega
       obtain⟨W7,rfl⟩: ∃y,y=wC:=⟨_,rfl⟩
       obtain⟨n1,hn⟩: ∃n1,n1=nb:=⟨_,rfl⟩
       obtain⟨S0,hS0⟩: ∃S0,S0=strOfNums R.bs:=⟨_,rfl⟩
       have hnl:n1=R.bs.length:=by rw[hn];exact hAr.ln
       have hbl:R.bs.length=8*(128*(x.slabs.toNat+1)):=by rw[HW.out.built.len];omega
       have hmx:n1≤maxLen:=by have:=hAr.big;unfold maxLen;omega
       have hb7:Below wB.heap.size wB W7:=hbC.out
       have KS:Hid (∀X,Below W7.heap.size W7 X→X.cell? ⟨wb,2,none⟩=some (ptrV m)∧X.cell? ⟨wb,0,none⟩=some (ptrV g)∧X.cell? ⟨g,0,none⟩=some (.slice (some ⟨b,0,none⟩) n1 n1)∧(convert 47 9 (.slice (some ⟨b,0,none⟩) n1 n1)).run Tryz.prog X= .ok (.string S0) X):=by
        refine hid fun X hb=>⟨cell_bel (bx hb7 hb) (hwb.cell 2),cell_bel (bx hb7 hb) (hwb.cell 0),cell_bel (bx hb7 hb) (by rw[hn];exact hAr.blk.cell 0),?_⟩
        have h1:=arg_of_in (bytesIn_blk (hAr.by'.bel (bx hb7 hb)) hAr.byt (Nat.le_refl _)) (by rw[←hnl];exact hmx) (by omega)
        have h2:=by_conv h1
        rw[←hnl] at h2
        rw[hS0]
        exact h2
       have IF:Hid (∀X,Below W7.heap.size W7 X→Calls Tryz.prog 21 #[ptrV m] X fun e w'=> ∃p c,e= .returned (.slice p n1 c)∧(∀Y,Below w'.heap.size w' Y→(convert 47 9 (.slice p n1 c)).run Tryz.prog Y= .ok (.string S0) Y)∧Below X.heap.size X w'):=by
        have hmem:=(hJ.w.inn 0 (by omega)).mem.is
        refine hid fun X hb=>(Image_z m MB M X (hmem.only (Only.of_below (bx hb7 hb) []) (by simp)) (by rw[hJ.w.quiet.image,HV.out];exact words_rng hAr.byt)).mono ?_
        rintro e w' ⟨ip,ic,rfl,h1,h2,h3⟩
        have hbw:bytesW M.image=R.bs:=by rw[hJ.w.quiet.image,HV.out];exact bytes_words _ hAr.byt hbl
        rw[hbw] at h1 ⊢
        have h4:=arg_of_in h1 h2 (by omega)
        rw[hnl,hS0]
        exact⟨ip,ic,rfl,fun Y hY=>by_conv (h4.bel hY),h3⟩
       have KF:Hid (∀X,Below W7.heap.size W7 X→Calls Tryz.prog 10 #[] X fun e w'=>e= .returned (.bool true)∧Below X.heap.size X w'):=hid fun X _=>Known15_z X
       have bs1:(S0.toList==S0.toList)=true:=by simp
       have HZB:=hid (show Below w.heap.size w W7 from(bx HB1.out (bx hbW hb7)))
       obtain⟨n,hn7⟩: ∃n,n=n1:=⟨_,rfl⟩
       rw[←hn7] at KS IF
       clear hJ hall hwb hAr hbW hk hlt hbC hnl hbl hmx hb7 hn hn7 hS0 H6
       go_upto_region 32 with fail
       refine wp_region_inv 18 (fun listed a X=>Below W7.heap.size W7 X∧ ∃vv:Nat→Value,FactsE (GmG n wb g m b S0) listed vv X∧a={ tmps:= #[Value.agg (laC x kv),Value.agg #[Value.int IntKind.u64 y0,Value.int IntKind.u64 y1,Value.int IntKind.u64 y2],Value.slice oa o oc,Value.pointer (some { block:=w.heap.size,off:=0 }),Value.pointer (some { block:=w.heap.size+1,off:=0 }),undef,u6,ptrV wb,Value.pointer (some { block:=A,off:=0 }),Value.pointer (some { block:=A+1,off:=0 }),Value.pointer (some { block:=A+1+1,off:=0 }),Value.int IntKind.i64 3,Value.int IntKind.i64 (L:Int),Value.int IntKind.i64 (i:Int),u14,u15,u16,Value.int IntKind.i64 ((3:Nat):Int),u18,Value.agg (laC x kv),ptrV wb,ptrV wb,Value.bool false,Value.bool false,Value.slice oa o oc,Value.int IntKind.i64 (o:Int),Value.bool (decide (300< (o:Int))),Value.bool (decide (300< (o:Int))),undef,Value.int IntKind.i64 3,Value.bool false,u31,u32,u33,u34,u35,u36,u37,u38,u39,u40,u41,u42,u43,ptrV wb,Value.int IntKind.i64 (T:Int),Value.int IntKind.i64 (70*(T:Int)),Value.int IntKind.i64 (L:Int),Value.int IntKind.i64 (i:Int),Value.int IntKind.i64 (L:Int),Value.int IntKind.i64 (3*(L:Int)),Value.int IntKind.i64 (E:Int),Value.bool false,u53,u54,u55,u56,u57,u58,u59,u60,u61,u62,u63,u64,u65,u66,u67,u68,u69,u70,u71,u72,u73,u74,u75,u76,u77,u78,u79,u80,u81,u82,u83,u84,u85,u86,u87,u88,u89,u90,u91,u92,u93,u94,u95,u96,u97,u98,Value.int IntKind.i64 ((3:Nat):Int),Value.bool false,u101,u102,u103,u104,u105,u106,u107,u108,u109,u110,u111,u112,u113,u114,u115,u116,u117,u118,u119,u120,u121,u122,u123,u124,u125,u126,u127,u128,u129,u130,u131,u132,u133,u134,vv 0,vv 1,vv 2,vv 3,vv 4,vv 5,vv 6,vv 7,vv 8,vv 9,vv 10,vv 11,vv 12,vv 13,vv 14,vv 15,vv 16,vv 17],defers:=[] }) rfl (by kernel_rfl) ?_ ?_ ?_
       ·exact⟨(Below.refl _ _).drew,fun _=>undef,fun i hi=>(by rw[getD_replicate_false] at hi;cases hi),rfl⟩
       ·rintro listed a X i op hi ho hun hdep ⟨hbX,vv,hx,rfl⟩
        rcases(by omega:i=0∨i=1∨i=2∨i=3∨i=4∨i=5∨i=6∨i=7∨i=8∨i=9∨i=10∨i=11∨i=12∨i=13∨i=14∨i=15∨i=16∨i=17) with rfl | rfl | rfl | rfl | rfl | rfl | rfl | rfl | rfl | rfl | rfl | rfl | rfl | rfl | rfl | rfl | rfl | rfl
        ·cases ho
         refine wpOp_at rfl rfl (wp_value (v:=ptrV wb) ?_ ⟨hbX,updR vv 0 _,hx.step (fun j v h=>h) rfl,rfl⟩)
         go_simp
        ·cases ho
         have e135:vv 0=ptrV wb:=hx 0 (hdep { on:=0,ground:= .data } (by simp) rfl)
         refine wpOp_at rfl rfl (wp_value (v:=ptrV wb) ?_ ⟨hbX,updR vv 1 _,hx.step (fun j v h=>h) rfl,rfl⟩)
         rw[e135]
         go_simp
        ·cases ho
         have e136:vv 1=ptrV wb:=hx 1 (hdep { on:=1,ground:= .data } (by simp) rfl)
         refine wpOp_at rfl rfl (wp_value (v:= .pointer (some ⟨wb,2,none⟩)) ?_ ⟨hbX,updR vv 2 _,hx.step (fun j v h=>h) rfl,rfl⟩)
         rw[e136]
         go_simp
        ·cases ho
         have e137:vv 2= .pointer (some ⟨wb,2,none⟩):=hx 2 (hdep { on:=2,ground:= .data } (by simp) rfl)
         have hl:=(KS.out X hbX).1
         refine wpOp_at rfl rfl (wp_value (v:=ptrV m) ?_ ⟨hbX,updR vv 3 _,hx.step (fun j v h=>h) rfl,rfl⟩)
         rw[e137]
         go_simp
        ·cases ho
         have e138:vv 3=ptrV m:=hx 3 (hdep { on:=3,ground:= .data } (by simp) rfl)
         refine wpOp_at rfl rfl (wp_enter (f:=21) (args:= #[vv 3]) (by kernel_rfl) ?_)
         have C:=IF.out X hbX
         rw[show(#[ptrV m]:Array Value)= #[vv 3] from(by rw[e138])] at C
         refine C.mono ?_
         rintro e X' ⟨ia,ic,rfl,hcv,hb1⟩
         exact⟨_,rfl,bx hbX hb1,updR vv 4 _,hx.step (GmG.bel hb1) ⟨ia,ic,rfl,hcv⟩,rfl⟩
        ·cases ho
         obtain⟨ia,ic,e139,hcv⟩:=hx 4 (hdep { on:=4,ground:= .data } (by simp) rfl)
         have hl:=hcv X (Below.refl _ _)
         refine wpOp_at rfl rfl (wp_value (v:= .string S0) ?_ ⟨hbX,updR vv 5 _,hx.step (fun j v h=>h) rfl,rfl⟩)
         rw[e139]
         go_simp
        ·cases ho
         refine wpOp_at rfl rfl (wp_value (v:=ptrV wb) ?_ ⟨hbX,updR vv 6 _,hx.step (fun j v h=>h) rfl,rfl⟩)
         go_simp
        ·cases ho
         have e141:vv 6=ptrV wb:=hx 6 (hdep { on:=6,ground:= .data } (by simp) rfl)
         refine wpOp_at rfl rfl (wp_value (v:=ptrV wb) ?_ ⟨hbX,updR vv 7 _,hx.step (fun j v h=>h) rfl,rfl⟩)
         rw[e141]
         go_simp
        ·cases ho
         have e142:vv 7=ptrV wb:=hx 7 (hdep { on:=7,ground:= .data } (by simp) rfl)
         refine wpOp_at rfl rfl (wp_value (v:= .pointer (some ⟨wb,0,none⟩)) ?_ ⟨hbX,updR vv 8 _,hx.step (fun j v h=>h) rfl,rfl⟩)
         rw[e142]
         go_simp
        ·cases ho
         have e143:vv 8= .pointer (some ⟨wb,0,none⟩):=hx 8 (hdep { on:=8,ground:= .data } (by simp) rfl)
         have hl:=(KS.out X hbX).2.1
         refine wpOp_at rfl rfl (wp_value (v:=ptrV g) ?_ ⟨hbX,updR vv 9 _,hx.step (fun j v h=>h) rfl,rfl⟩)
         rw[e143]
         go_simp
        ·cases ho
         have e144:vv 9=ptrV g:=hx 9 (hdep { on:=9,ground:= .data } (by simp) rfl)
         refine wpOp_at rfl rfl (wp_value (v:=ptrV g) ?_ ⟨hbX,updR vv 10 _,hx.step (fun j v h=>h) rfl,rfl⟩)
         rw[e144]
         go_simp
        ·cases ho
         have e145:vv 10=ptrV g:=hx 10 (hdep { on:=10,ground:= .data } (by simp) rfl)
         refine wpOp_at rfl rfl (wp_value (v:= .pointer (some ⟨g,0,none⟩)) ?_ ⟨hbX,updR vv 11 _,hx.step (fun j v h=>h) rfl,rfl⟩)
         rw[e145]
         go_simp
        ·cases ho
         have e146:vv 11= .pointer (some ⟨g,0,none⟩):=hx 11 (hdep { on:=11,ground:= .data } (by simp) rfl)
         have hl:=(KS.out X hbX).2.2.1
         refine wpOp_at rfl rfl (wp_value (v:= .slice (some ⟨b,0,none⟩) n n) ?_ ⟨hbX,updR vv 12 _,hx.step (fun j v h=>h) rfl,rfl⟩)
         rw[e146]
         go_simp
        ·cases ho
         have e147:vv 12= .slice (some ⟨b,0,none⟩) n n:=hx 12 (hdep { on:=12,ground:= .data } (by simp) rfl)
         have hl:=(KS.out X hbX).2.2.2
         refine wpOp_at rfl rfl (wp_value (v:= .string S0) ?_ ⟨hbX,updR vv 13 _,hx.step (fun j v h=>h) rfl,rfl⟩)
         rw[e147]
         go_simp
        ·cases ho
         have e140:vv 5= .string S0:=hx 5 (hdep { on:=5,ground:= .data } (by simp) rfl)
         have e148:vv 13= .string S0:=hx 13 (hdep { on:=13,ground:= .data } (by simp) rfl)
         refine wpOp_at rfl rfl (wp_value (v:= .bool true) ?_ ⟨hbX,updR vv 14 _,hx.step (fun j v h=>h) rfl,rfl⟩)
         rw[e140,e148]
         go_simp
        ·cases ho
         have e149:vv 14= .bool true:=hx 14 (hdep { on:=14,ground:= .data } (by simp) rfl)
         refine wpOp_at rfl rfl (wp_value (v:= .bool true) ?_ ⟨hbX,updR vv 15 _,hx.step (fun j v h=>h) rfl,rfl⟩)
         rw[e149]
         go_simp
        ·cases ho
         have eg:vv 15= .bool true:=hx 15 (hdep { on:=15,ground:= .guard } (by simp) rfl)
         refine wpOp_ok rfl (by rw[eg];rfl) (wp_enter (f:=10) (args:= #[]) (by kernel_rfl) ?_)
         have C:=KF.out X hbX
         refine C.mono ?_
         rintro e X' ⟨rfl,hb1⟩
         exact⟨_,rfl,bx hbX hb1,updR vv 16 _,hx.step (GmG.bel hb1) rfl,rfl⟩
        ·cases ho
         have e150:vv 15= .bool true:=hx 15 (hdep { on:=15,ground:= .data } (by simp) rfl)
         have e151:vv 16= .bool true:=hx 16 (hdep { on:=16,ground:= .data } (by simp) rfl)
         refine wpOp_at rfl rfl (wp_value (v:= .bool true) ?_ ⟨hbX,updR vv 17 _,hx.step (fun j v h=>h) rfl,rfl⟩)
         rw[e150,e151]
         go_simp
       ·rintro a X ⟨hbX,vv,hx,rfl⟩
        have el:vv 17= .bool true:=hx 17 rfl
        rw[el]
        simp only[List.drop_succ_cons,List.drop_zero]
        have HBX:=hid (HZB.out.trans (hbX.mono HZB.out.size))
        clear hx hbX
        go_wp2
        go_ret
        exact⟨rfl,HBX.out⟩
end Go.Proofs.YtjmaicckkkdjpaaGreat
