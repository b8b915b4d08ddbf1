import Derived.Test.YtjmaicckkkdjpaaGreatF12
import Derived.Test.YtjmaicckkkdjpaaGreatF42
/- The law GetFinds, walked. -/
set_option maxRecDepth 100000
set_option maxHeartbeats 4000000
set_option linter.unusedVariables false
set_option linter.unusedSimpArgs false
namespace Go.Proofs.YtjmaicckkkdjpaaGreat
open Go.RowKit
attribute [local go_sem ↓ high] rsLoadAt rsLoadVar rsStoreAt laLoadAt15
attribute [local go_sem] ldM_run lvM_run stM_run Oper.semAt_some
def GfF (n wb gp g m b:Nat) (rc:Int) (rv:ByteArray) (S0:ByteArray):Nat→Value→World→Prop
 | 0,v,_=>v=ptrV gp
 | 1,v,_=>v= .agg (respC rc rv)
 | 2,v,_=>v= .agg (respC rc rv)
 | 3,v,_=>v= .bool true
 | 4,v,_=>v= .bool true
 | 5,v,_=>v=ptrV gp
 | 6,v,_=>v= .int .i64 0
 | 7,v,_=>v= .bool true
 | 8,v,_=>v= .bool true
 | 9,v,_=>v= .bool true
 | 10,v,_=>v=ptrV wb
 | 11,v,_=>v=ptrV wb
 | 12,v,_=>v= .pointer (some ⟨wb,2,none⟩)
 | 13,v,_=>v=ptrV m
 | 14,v,w=> ∃a c,v= .slice a n c∧ ∀X,Below w.heap.size w X→(convert 47 9 (.slice a n c)).run Tryz.prog X= .ok (.string S0) X
 | 15,v,_=>v= .string S0
 | 16,v,_=>v=ptrV wb
 | 17,v,_=>v=ptrV wb
 | 18,v,_=>v= .pointer (some ⟨wb,0,none⟩)
 | 19,v,_=>v=ptrV g
 | 20,v,_=>v=ptrV g
 | 21,v,_=>v= .pointer (some ⟨g,0,none⟩)
 | 22,v,_=>v= .slice (some ⟨b,0,none⟩) n n
 | 23,v,_=>v= .string S0
 | 24,v,_=>v= .bool true
 | 25,v,_=>v= .bool true
 | 26,v,_=>v= .bool true
 | 27,v,_=>v= .bool true
 | 28,v,_=>v= .bool true
 | _,_,_=>True
theorem GfF.bel {n wb gp g m b:Nat} {rc:Int} {rv:ByteArray} {S0:ByteArray} {w w':World} (hb:Below w.heap.size w w') (j:Nat) (v:Value) (h:GfF n wb gp g m b rc rv S0 j v w):GfF n wb gp g m b rc rv S0 j v w':=by
 by_cases hj:j=14
 ·subst hj
  obtain⟨a,c,h1,h2⟩:=h
  exact⟨a,c,h1,fun X hX=>h2 X (bx hb hX)⟩
 ·unfold GfF at h ⊢
  split at h<;>first | exact h | exact absurd rfl hj
structure GfI (W1:World) (xs:List Int) (q:Int) (si m gp wb g b nb:Nat) (MB:MB) (R:AR) (lv:Value) (x':GtP) (M':MemS) (f':List Nat) (W:World):Prop where
 fin:GtEnd (risKeys xs) q x'
 is:GtIs W si m gp x' f'
 mem:MemIs W m MB M'
 view:M'.view=wordsOf R.bs
 blk: ∃sp,Blk W wb 36 #[ptrV g,ptrV si,ptrV m,sp]
 ar:ArIs W g b nb R lv
 bel:Below W1.heap.size W1 W
theorem gf_known (w W:World) (hb:Below w.heap.size w W):Calls Tryz.prog 10 #[] W fun e w'=>e= .returned (.bool true)∧Below w.heap.size w w':=by
 refine(Known15_z W).mono ?_
 rintro e w' ⟨h1,h2⟩
 exact⟨h1,bx hb h2⟩
theorem GetFinds_z (x:La) (kv:Value) (xs:List Int) (q c:Int) (hxs: ∀y∈xs,U64 y) (hxl:xs.length≤9223372036854775807) (hx:I64 x.slabs∧I64 x.per∧I64 x.lag) (hq:U64 q) (w:World) (hK:NumsAt .u64 w kv xs):
  Calls Tryz.prog 3 #[.agg (laC x kv),.int .u64 q,.int .i64 c] w fun e w'=>e= .returned (.bool true)∧Below w.heap.size w w':=by
 obtain⟨nn,rfl⟩: ∃nn:Nat,q=(nn:Int):=⟨q.toNat,by unfold U64 at hq;omega⟩
 obtain⟨W1,hW1⟩: ∃W1,W1=w.alloc (.cells (laC x kv) 24):=⟨_,rfl⟩
 have hb1:Below w.heap.size w W1:=by rw[hW1];exact ba (Below.refl _ _) _
 have k1:Blk W1 w.heap.size 24 (laC x kv):=by rw[hW1];exact Blk.new _ _ _
 have hld:=la_ld15 k1
 have AZ:=hid (Begin_z x kv xs hxs hxl hx W1 (hK.bel hb1))
 have HW1:=hid hW1
 have HB1:=hid hb1
 have HK1:=hid k1
 have HX:=hid (⟨hxs,hq,hK⟩:_∧_∧_)
 clear hW1 hb1 k1 hxs hxl hx hK hq
 go_enter Tryz.func3,Tryz.ntmps3
 go_upto_region 1 with fail
 rw[show _=W1 from HW1.out.symm]
 go_wp2_with fail
 refine AZ.out.mono ?_
 rintro e W2 ⟨hb2,h2⟩
 have HB2:=hid (bx HB1.out hb2)
 have HB12:=hid hb2
 clear hld hb2 AZ
 rcases h2 with⟨rfl,_⟩ | ⟨wb,g,b,nb,R,lv,rows,K,si,m,MB,rfl,hW⟩
 ·go_wp2_with fail
  refine(gf_known w _ HB2.out).mono ?_
  rintro e w3 ⟨rfl,hb3⟩
  have HB3:=hid hb3
  clear hb3
  go_wp2
  go_ret
  exact⟨rfl,HB3.out⟩
 by_cases c0:c<0
 ·clear hW
  go_wp2_with fail
  refine(gf_known w _ HB2.out).mono ?_
  rintro e w3 ⟨rfl,hb3⟩
  have HB3:=hid hb3
  clear hb3
  go_wp2
  go_ret
  exact⟨rfl,HB3.out⟩
 by_cases c2:c>2
 ·clear hW
  go_wp2_with fail
  refine(gf_known w _ HB2.out).mono ?_
  rintro e w3 ⟨rfl,hb3⟩
  have HB3:=hid hb3
  clear hb3
  go_wp2
  go_ret
  exact⟨rfl,HB3.out⟩
 have HCC:=hid (⟨by omega,by omega⟩:0≤c∧c≤64)
 have k1:W2.cell? ⟨wb,1,none⟩=some (ptrV si):=by obtain⟨_,_,_,_,_,_,hO,_⟩:=hW.ov;exact hO.blk.cell 1
 have k2:W2.cell? ⟨wb,2,none⟩=some (ptrV m):=by obtain⟨_,_,_,_,_,_,hO,_⟩:=hW.ov;exact hO.blk.cell 2
 have NZ:=hid (GtNew_z si m c nn W2)
 have HW:=hid hW
 clear hW
 go_wp2_with fail
 refine NZ.out.mono ?_
 rintro e W3 ⟨gp,f,rfl,hg,hG,hf,hb3⟩
 obtain⟨n1,n2,n3,n4⟩:=HW.out.few
 obtain⟨T,hT⟩: ∃T,T=tK (risKeys xs) x.per.toNat x.lag.toNat (K+1):=⟨_,rfl⟩
 rw[←hT] at n1 n2
 obtain⟨L,hL⟩: ∃L,L=70*T+40:=⟨_,rfl⟩
 have m1:IntKind.i64.wrap (70*(T:Int))=70*(T:Int):=by rw[IntKind.wrap_i64];omega
 have m2:IntKind.i64.wrap (70*(T:Int)+40)=(L:Int):=by rw[IntKind.wrap_i64];omega
 have kk2:W3.cell? ⟨wb,2,none⟩=some (ptrV m):=cell_bel hb3 k2
 have RZ:=hid (fun X (hb:Below W3.heap.size W3 X)=>GtResp_z si m gp (gtNew c nn) f X (hG.bel hb))
 have SZ:Hid (∀W,Calls Tryz.prog 12 #[.agg (respC (gtNew c nn).rc (gtNew c nn).rv),.agg #[.int .i64 0,.string { data:= #[] },.slice none 0 0]] W fun e w'=>e= .returned (.bool true)∧Below W.heap.size W w'):=by
  refine hid fun W=>(SameR_z 0 0 { data:= #[] } { data:= #[] } W).mono ?_
  rintro e w' ⟨rfl,h⟩
  rw[strE_refl]
  exact⟨rfl,h⟩
 have NDZ:Hid (∀X,Below W3.heap.size W3 X→Calls Tryz.prog 15 #[ptrV wb] X fun e w'=>e= .returned (.int .i64 (T:Int))∧w'=X):=by
  refine hid fun X hb=> ?_
  have hbx:=bx hb3 hb
  obtain⟨N,hlv⟩:=HW.out.lvs
  obtain⟨_,_,_,_,_,sp,hO,_⟩:=HW.out.ov
  have:=Nodes_z wb g b nb N R lv (ptrV si) (ptrV m) sp rows X (hO.blk.bel hbx) (HW.out.ar.bel hbx) (hlv.only (Only.of_below hbx []) (by simp)) n3 n4
  rw[n1] at this
  exact this
 have WZ:=hid (fun X (hb:Below W3.heap.size W3 X)=>GtWhole_z HW.out.built HCC.out HX.out.2.1 L (by omega) (by rw[←hT];omega) si m gp MB (freshM (wordsOf R.bs)) 0 f rfl X (HW.out.inn (bx hb3 hb) hg hf) (hG.bel hb))
 have AF:Hid (∀X x' M' f' Y,Below W3.heap.size W3 X→GtAll (GtEnd (risKeys xs) nn) (wordsOf R.bs) si m gp MB 0 (freshM (wordsOf R.bs)) f X x' M' f' Y→GfI W1 xs nn si m gp wb g b nb MB R lv x' M' f' Y):=by
  refine hid fun X x' M' f' Y hb hA=> ?_
  have hk: ∀k∈gp::f++footM m MB (freshM (wordsOf R.bs)),W2.heap.size≤k∨k∈footM m MB (freshM (wordsOf R.bs)):=fun k hk=>(List.mem_append.1 hk).imp (fun h=>by
   rcases List.mem_cons.1 h with rfl | h
   ·exact hg
   ·exact hf k h) id
  obtain⟨h1,h2,h3⟩:=HW.out.after (bx hb3 hb) hk hA.only
  exact⟨hA.fin,hA.is,hA.inn.mem.is,hA.view,h1,h2,HB12.out.trans h3⟩
 clear n1 n2 n3 n4 hT hL hg hf hG hb3 k1 k2 NZ
 go_upto_region 5 with fail
 go_cut [47] from 10 to 46 (fun v wd=>v= .bool false∧Hid (∃x' M' f',GfI W1 xs nn si m gp wb g b nb MB R lv x' M' f' wd))
 case first=>
  go_region_held3 (fun X=>X.cell? ⟨wb,2,none⟩=some (ptrV m)) (go_keep) (first
   | (go_at_call 13;(with_reducible refine(RZ.out _ (by first | exact Below.refl _ _ | exact(Below.refl _ _).drew)).mono ?_);rintro e v1 ⟨rfl,hb⟩;have hb1:Below W3.heap.size W3 v1:=bx (by first | exact Below.refl _ _ | exact(Below.refl _ _).drew) hb;have d1:v1.cell? ⟨wb,2,none⟩=some (ptrV m):=cell_bel hb1 kk2;have HV1:=hid hb1;clear hb hb1)
   | (go_at_call 12;(with_reducible refine(SZ.out _).mono ?_);rintro e v2 ⟨rfl,hb⟩;have hb2:Below W3.heap.size W3 v2:=bx (by first | exact HV1.out | exact HV1.out.drew) hb;have d2:v2.cell? ⟨wb,2,none⟩=some (ptrV m):=cell_bel hb2 kk2;have HV2:=hid hb2;clear hb hb2)
   | (go_at_call 15;(with_reducible refine(NDZ.out _ (by first | exact HV2.out | exact HV2.out.drew)).mono ?_);rintro e v3 ⟨rfl,rfl⟩)
   | (go_at_call 14;(with_reducible refine(WZ.out _ (by first | exact HV2.out | exact HV2.out.drew)).mono ?_);rintro e v4 ⟨r,x',M',f',rfl,hr,hA⟩;have hF:=AF.out _ x' M' f' v4 (by first | exact HV2.out | exact HV2.out.drew) hA;have d4:v4.cell? ⟨wb,2,none⟩=some (ptrV m):=(by obtain⟨sp,hk⟩:=hF.blk;exact hk.cell 2);have HF:=hid hF;have i1: ¬r<1:=(by omega);clear hF hA hr))
  go_wp2
  go_meet
  exact⟨congrArg Value.bool (decide_eq_false (by omega)),hid ⟨x',M',f',HF.out⟩⟩
 case rest=>
  obtain⟨rfl,hF⟩:=hcut
  obtain⟨x',M',f',hF⟩:=hF.out
  clear RZ SZ NDZ WZ AF kk2 m1 m2
  obtain⟨W4,rfl⟩: ∃y,y=wc:=⟨_,rfl⟩
  obtain⟨V1,hV1⟩: ∃V1,V1=W4.alloc (.cells #[.int .i64 0,.string { data:= #[] },.slice none 0 0] 41):=⟨_,rfl⟩
  have kv1:Blk V1 W4.heap.size 41 (respC 0 { data:= #[] }):=by rw[hV1];exact resp_new W4
  have hbv1:Below W4.heap.size W4 V1:=by rw[hV1];exact ba (Below.refl _ _) _
  obtain⟨V2,hst,kv2,ov2⟩:=resp_stA kv1 5 { data:= #[] }
  have hbv2:Below W4.heap.size W4 V2:=hbv1.trans (ov2.below (fun y hy=>by simp at hy;omega) hbv1.size)
  have hcv:V2.cell? ⟨w.heap.size,1,none⟩=some kv:=cell_bel hbv2 (cell_bel hF.bel (HK1.out.cell 1))
  have HAS:=hid (LHas_z kv xs nn V2 ((HX.out.2.2.bel (bx HB1.out hF.bel)).bel hbv2) (by have:=HW.out.ok;unfold LaOK at this;omega))
  have HV:=hid (⟨kv2,hbv2⟩:_∧_)
  have hst':stR Tryz.prog 41 (.pointer (some ⟨W4.heap.size,0,none⟩)) (.agg #[.int .i64 5,.string { data:= #[] },.slice none 0 0]) (W4.alloc (.cells #[.int .i64 0,.string { data:= #[] },.slice none 0 0] 41))= .ok () V2:=by rw[←hV1];exact hst
  obtain⟨bb,hbb⟩: ∃bb,bb=decide ((nn:Int)∈xs):=⟨_,rfl⟩
  rw[←hbb] at HAS
  have HBB:=hid hbb
  clear hbb
  have VZ:=hid (fun W=>AValue_z nn (by have:=HX.out.2.1;unfold U64 at this;omega) W)
  have HFF:=hid hF
  clear kv2 hbv2 hbv1 kv1 ov2 hst hV1 hF
  go_wp2_with fail
  refine HAS.out.mono ?_
  rintro e V3 ⟨rfl,rfl⟩
  go_upto_if 52 with fail
  go_cut [9] from 53 to 55 (fun v wd=>v= .pointer (some ⟨W4.heap.size,0,none⟩)∧Hid (Blk wd W4.heap.size 41 (respC x'.rc x'.rv)∧Below W4.heap.size W4 wd))
  case first=>
   cases bb with
   | true=>
    have hq:(nn:Int)∈xs:=of_decide_eq_true HBB.out.symm
    have hwant:=HFF.out.fin.res.want HX.out.1
    rw[if_pos hq,Int.toNat_natCast] at hwant
    have HWT:=hid hwant
    clear hwant hq
    go_wp2_with fail
    refine(VZ.out _).mono ?_
    rintro e V4 ⟨rfl,hb4⟩
    obtain⟨S1,hS1⟩: ∃S1,S1=strOfNums (numL nn):=⟨_,rfl⟩
    rw[←hS1] at HWT ⊢
    obtain⟨V5,hst5,kv5,ov5⟩:=resp_stA (HV.out.1.bel hb4) 0 S1
    have hst6:stR Tryz.prog 41 (.pointer (some ⟨W4.heap.size,0,none⟩)) (.agg #[.int .i64 0,.string S1,.slice none 0 0]) V4= .ok () V5:=hst5
    have H5:=hid (⟨kv5,bx HV.out.2 hb4,ov5⟩:_∧_∧_)
    clear kv5 ov5 hb4 hS1 hst5
    go_wp2
    go_meet
    refine⟨rfl,hid ⟨?_,?_⟩⟩
    ·rw[HWT.out.1,HWT.out.2];exact H5.out.1
    ·exact H5.out.2.1.trans (H5.out.2.2.below (fun y hy=>by simp at hy;omega) H5.out.2.1.size)
   | false=>
    have hq: ¬(nn:Int)∈xs:=of_decide_eq_false HBB.out.symm
    have hwant:=HFF.out.fin.res.want HX.out.1
    rw[if_neg hq] at hwant
    have HWT:=hid hwant
    clear hwant hq
    go_wp2
    go_meet
    exact⟨rfl,hid ⟨by rw[HWT.out.1,HWT.out.2];exact HV.out.1,HV.out.2⟩⟩
  case rest=>
   obtain⟨rfl,hV5⟩:=hcut
   obtain⟨W5,rfl⟩: ∃y,y=wc:=⟨_,rfl⟩
   go_upto_region 10 with fail
   obtain⟨rc,hrc⟩: ∃rc,rc=x'.rc:=⟨_,rfl⟩
   obtain⟨rv,hrv⟩: ∃rv,rv=x'.rv:=⟨_,rfl⟩
   obtain⟨n,hn⟩: ∃n,n=nb:=⟨_,rfl⟩
   obtain⟨S0,hS0⟩: ∃S0,S0=strOfNums R.bs:=⟨_,rfl⟩
   rw[←hrc,←hrv] at hV5
   have hb5:Below W4.heap.size W4 W5:=hV5.out.2
   have hF:=HFF.out
   obtain⟨sp,hk⟩:=hF.blk
   have hnl:n=R.bs.length:=by rw[hn];exact hF.ar.ln
   have hbl:R.bs.length=8*(128*(x.slabs.toNat+1)):=by rw[HW.out.built.len];omega
   have hmx:n≤maxLen:=by have:=hF.ar.big;unfold maxLen;omega
   have KS:Hid (∀X,Below W5.heap.size W5 X→ldR Tryz.prog 41 (.pointer (some ⟨W4.heap.size,0,none⟩)) X= .ok (.agg (respC rc rv)) X∧X.cell? ⟨wb,2,none⟩=some (ptrV m)∧X.cell? ⟨wb,0,none⟩=some (ptrV g)∧X.cell? ⟨g,0,none⟩=some (.slice (some ⟨b,0,none⟩) n n)∧(convert 47 9 (.slice (some ⟨b,0,none⟩) n n)).run Tryz.prog X= .ok (.string S0) X):=by
    refine hid fun X hb=>⟨resp_ld (hV5.out.1.bel hb),cell_bel (bx hb5 hb) (hk.cell 2),cell_bel (bx hb5 hb) (hk.cell 0),cell_bel (bx hb5 hb) (by rw[hn];exact hF.ar.blk.cell 0),?_⟩
    have h1:=arg_of_in (bytesIn_blk (hF.ar.by'.bel (bx hb5 hb)) hF.ar.byt (Nat.le_refl _)) (by rw[←hnl];exact hmx) (by omega)
    have h2:=by_conv h1
    rw[←hnl] at h2
    rw[hS0]
    exact h2
   have RF:Hid (∀X,Below W5.heap.size W5 X→Calls Tryz.prog 13 #[ptrV gp] X fun e w'=>e= .returned (.agg (respC rc rv))∧Below X.heap.size X w'):=by
    rw[hrc,hrv]
    exact hid fun X hb=>GtResp_z si m gp x' f' X (hF.is.bel (bx hb5 hb))
   have EF:Hid (∀X,Below W5.heap.size W5 X→Calls Tryz.prog 12 #[.agg (respC rc rv),.agg (respC rc rv)] X fun e w'=>e= .returned (.bool true)∧Below X.heap.size X w'):=by
    refine hid fun X hb=>(SameR_z rc rc rv rv X).mono ?_
    rintro e w' ⟨rfl,h⟩
    rw[strE_refl]
    exact⟨by simp,h⟩
   have TF:Hid (∀X,Below W5.heap.size W5 X→Calls Tryz.prog 18 #[ptrV gp] X fun e w'=>e= .returned (.int .i64 0)∧Below X.heap.size X w'):=by
    refine hid fun X hb=>(GtTries_z si m gp x' f' X (hF.is.bel (bx hb5 hb))).mono ?_
    rintro e w' ⟨rfl,rfl⟩
    rw[hF.fin.tries]
    exact⟨rfl,Below.refl _ _⟩
   have IF:Hid (∀X,Below W5.heap.size W5 X→Calls Tryz.prog 19 #[ptrV m] X fun e w'=> ∃p c,e= .returned (.slice p n c)∧(∀Y,Below w'.heap.size w' Y→(convert 47 9 (.slice p n c)).run Tryz.prog Y= .ok (.string S0) Y)∧Below X.heap.size X w'):=by
    refine hid fun X hb=>(View_z m MB M' X (hF.mem.only (Only.of_below (bx hb5 hb) []) (by simp)) (by rw[hF.view];exact words_rng hF.ar.byt)).mono ?_
    rintro e w' ⟨ip,ic,rfl,h1,h2,h3⟩
    have hbw:bytesW M'.view=R.bs:=by rw[hF.view];exact bytes_words _ hF.ar.byt hbl
    rw[hbw] at h1 ⊢
    have h4:=arg_of_in h1 h2 (by omega)
    rw[hnl,hS0]
    exact⟨ip,ic,rfl,fun Y hY=>by_conv (h4.bel hY),h3⟩
   have KF:Hid (∀X,Below W5.heap.size W5 X→Calls Tryz.prog 10 #[] X fun e w'=>e= .returned (.bool true)∧Below X.heap.size X w'):=hid fun X _=>Known15_z X
   have bs1:(S0.toList==S0.toList)=true:=by simp
   have HZB:=hid (show Below w.heap.size w W5 from(bx HB1.out hF.bel).trans (hb5.mono (Nat.le_trans HB1.out.size hF.bel.size)))
   clear hF hk hnl hbl hmx hb5 hV5 HFF HV VZ HAS HW hn hS0 hrc hrv
   refine wp_region_inv 29 (fun listed a X=>Below W5.heap.size W5 X∧ ∃vv:Nat→Value,FactsE (GfF n wb gp g m b rc rv S0) listed vv X∧a={ tmps:= #[Value.agg (laC x kv),Value.int IntKind.u64 (nn:Int),Value.int IntKind.i64 c,Value.pointer (some { block:=w.heap.size,off:=0 }),undef,undef,Value.bool false,ptrV wb,ptrV gp,Value.pointer (some { block:=W4.heap.size,off:=0 }),u10,u11,u12,u13,u14,u15,u16,u17,u18,u19,u20,u21,u22,u23,u24,u25,u26,u27,u28,u29,u30,u31,u32,u33,u34,u35,u36,u37,u38,u39,u40,u41,u42,u43,u44,u45,u46,Value.bool false,Value.agg #[Value.int IntKind.i64 5,Value.string { data:= #[] },Value.slice none 0 0],Value.pointer (some { block:=w.heap.size,off:=1 }),kv,Value.int IntKind.u64 (nn:Int),Value.bool bb,u53,u54,u55,vv 0,vv 1,vv 2,vv 3,vv 4,vv 5,vv 6,vv 7,vv 8,vv 9,vv 10,vv 11,vv 12,vv 13,vv 14,vv 15,vv 16,vv 17,vv 18,vv 19,vv 20,vv 21,vv 22,vv 23,vv 24,vv 25,vv 26,vv 27,vv 28],defers:=[] }) rfl (by kernel_rfl) ?_ ?_ ?_
   ·exact⟨(Below.refl _ _).drew,fun _=>undef,fun i hi=>(by rw[getD_replicate_false] at hi;cases hi),rfl⟩
   ·rintro listed a X i op hi ho hun hdep ⟨hbX,vv,hx,rfl⟩
    rcases(by omega:i=0∨i=1∨i=2∨i=3∨i=4∨i=5∨i=6∨i=7∨i=8∨i=9∨i=10∨i=11∨i=12∨i=13∨i=14∨i=15∨i=16∨i=17∨i=18∨i=19∨i=20∨i=21∨i=22∨i=23∨i=24∨i=25∨i=26∨i=27∨i=28) with rfl | rfl | rfl | rfl | rfl | rfl | rfl | rfl | rfl | rfl | rfl | rfl | rfl | rfl | rfl | rfl | rfl | rfl | rfl | rfl | rfl | rfl | rfl | rfl | rfl | rfl | rfl | rfl | rfl
    ·cases ho
     refine wpOp_at rfl rfl (wp_value (v:=ptrV gp) ?_ ⟨hbX,updR vv 0 _,hx.step (fun j v h=>h) rfl,rfl⟩)
     go_simp
    ·cases ho
     have e56:vv 0=ptrV gp:=hx 0 (hdep { on:=0,ground:= .data } (by simp) rfl)
     refine wpOp_at rfl rfl (wp_enter (f:=13) (args:= #[vv 0]) (by kernel_rfl) ?_)
     have C:=RF.out X hbX
     rw[show(#[ptrV gp]:Array Value)= #[vv 0] from(by rw[e56])] at C
     refine C.mono ?_
     rintro e X' ⟨rfl,hb1⟩
     exact⟨_,rfl,bx hbX hb1,updR vv 1 _,hx.step (GfF.bel hb1) rfl,rfl⟩
    ·cases ho
     have hl:=(KS.out X hbX).1
     refine wpOp_at rfl rfl (wp_value (v:= .agg (respC rc rv)) ?_ ⟨hbX,updR vv 2 _,hx.step (fun j v h=>h) rfl,rfl⟩)
     go_simp
    ·cases ho
     have e57:vv 1= .agg (respC rc rv):=hx 1 (hdep { on:=1,ground:= .data } (by simp) rfl)
     have e58:vv 2= .agg (respC rc rv):=hx 2 (hdep { on:=2,ground:= .data } (by simp) rfl)
     refine wpOp_at rfl rfl (wp_enter (f:=12) (args:= #[vv 1,vv 2]) (by kernel_rfl) ?_)
     have C:=EF.out X hbX
     rw[show(#[.agg (respC rc rv),.agg (respC rc rv)]:Array Value)= #[vv 1,vv 2] from(by rw[e57,e58])] at C
     refine C.mono ?_
     rintro e X' ⟨rfl,hb1⟩
     exact⟨_,rfl,bx hbX hb1,updR vv 3 _,hx.step (GfF.bel hb1) rfl,rfl⟩
    ·cases ho
     have e59:vv 3= .bool true:=hx 3 (hdep { on:=3,ground:= .data } (by simp) rfl)
     refine wpOp_at rfl rfl (wp_value (v:= .bool true) ?_ ⟨hbX,updR vv 4 _,hx.step (fun j v h=>h) rfl,rfl⟩)
     rw[e59]
     go_simp
    ·cases ho
     have eg:vv 4= .bool true:=hx 4 (hdep { on:=4,ground:= .guard } (by simp) rfl)
     refine wpOp_ok rfl (by rw[eg];rfl) (wp_value (v:=ptrV gp) ?_ ⟨hbX,updR vv 5 _,hx.step (fun j v h=>h) rfl,rfl⟩)
     go_simp
    ·cases ho
     have eg:vv 4= .bool true:=hx 4 (hdep { on:=4,ground:= .guard } (by simp) rfl)
     have e61:vv 5=ptrV gp:=hx 5 (hdep { on:=5,ground:= .data } (by simp) rfl)
     refine wpOp_ok rfl (by rw[eg];rfl) (wp_enter (f:=18) (args:= #[vv 5]) (by kernel_rfl) ?_)
     have C:=TF.out X hbX
     rw[show(#[ptrV gp]:Array Value)= #[vv 5] from(by rw[e61])] at C
     refine C.mono ?_
     rintro e X' ⟨rfl,hb1⟩
     exact⟨_,rfl,bx hbX hb1,updR vv 6 _,hx.step (GfF.bel hb1) rfl,rfl⟩
    ·cases ho
     have eg:vv 4= .bool true:=hx 4 (hdep { on:=4,ground:= .guard } (by simp) rfl)
     have e62:vv 6= .int .i64 0:=hx 6 (hdep { on:=6,ground:= .data } (by simp) rfl)
     refine wpOp_ok rfl (by rw[eg];rfl) (wp_value (v:= .bool true) ?_ ⟨hbX,updR vv 7 _,hx.step (fun j v h=>h) rfl,rfl⟩)
     rw[e62]
     go_simp
    ·cases ho
     have e60:vv 4= .bool true:=hx 4 (hdep { on:=4,ground:= .data } (by simp) rfl)
     have e63:vv 7= .bool true:=hx 7 (hdep { on:=7,ground:= .data } (by simp) rfl)
     refine wpOp_at rfl rfl (wp_value (v:= .bool true) ?_ ⟨hbX,updR vv 8 _,hx.step (fun j v h=>h) rfl,rfl⟩)
     rw[e60,e63]
     go_simp
    ·cases ho
     have e64:vv 8= .bool true:=hx 8 (hdep { on:=8,ground:= .data } (by simp) rfl)
     refine wpOp_at rfl rfl (wp_value (v:= .bool true) ?_ ⟨hbX,updR vv 9 _,hx.step (fun j v h=>h) rfl,rfl⟩)
     rw[e64]
     go_simp
    ·cases ho
     have eg:vv 9= .bool true:=hx 9 (hdep { on:=9,ground:= .guard } (by simp) rfl)
     refine wpOp_ok rfl (by rw[eg];rfl) (wp_value (v:=ptrV wb) ?_ ⟨hbX,updR vv 10 _,hx.step (fun j v h=>h) rfl,rfl⟩)
     go_simp
    ·cases ho
     have eg:vv 9= .bool true:=hx 9 (hdep { on:=9,ground:= .guard } (by simp) rfl)
     have e66:vv 10=ptrV wb:=hx 10 (hdep { on:=10,ground:= .data } (by simp) rfl)
     refine wpOp_ok rfl (by rw[eg];rfl) (wp_value (v:=ptrV wb) ?_ ⟨hbX,updR vv 11 _,hx.step (fun j v h=>h) rfl,rfl⟩)
     rw[e66]
     go_simp
    ·cases ho
     have eg:vv 9= .bool true:=hx 9 (hdep { on:=9,ground:= .guard } (by simp) rfl)
     have e67:vv 11=ptrV wb:=hx 11 (hdep { on:=11,ground:= .data } (by simp) rfl)
     refine wpOp_ok rfl (by rw[eg];rfl) (wp_value (v:= .pointer (some ⟨wb,2,none⟩)) ?_ ⟨hbX,updR vv 12 _,hx.step (fun j v h=>h) rfl,rfl⟩)
     rw[e67]
     go_simp
    ·cases ho
     have eg:vv 9= .bool true:=hx 9 (hdep { on:=9,ground:= .guard } (by simp) rfl)
     have e68:vv 12= .pointer (some ⟨wb,2,none⟩):=hx 12 (hdep { on:=12,ground:= .data } (by simp) rfl)
     have hl:=(KS.out X hbX).2.1
     refine wpOp_ok rfl (by rw[eg];rfl) (wp_value (v:=ptrV m) ?_ ⟨hbX,updR vv 13 _,hx.step (fun j v h=>h) rfl,rfl⟩)
     rw[e68]
     go_simp
    ·cases ho
     have eg:vv 9= .bool true:=hx 9 (hdep { on:=9,ground:= .guard } (by simp) rfl)
     have e69:vv 13=ptrV m:=hx 13 (hdep { on:=13,ground:= .data } (by simp) rfl)
     refine wpOp_ok rfl (by rw[eg];rfl) (wp_enter (f:=19) (args:= #[vv 13]) (by kernel_rfl) ?_)
     have C:=IF.out X hbX
     rw[show(#[ptrV m]:Array Value)= #[vv 13] from(by rw[e69])] at C
     refine C.mono ?_
     rintro e X' ⟨ia,ic,rfl,hcv,hb1⟩
     exact⟨_,rfl,bx hbX hb1,updR vv 14 _,hx.step (GfF.bel hb1) ⟨ia,ic,rfl,hcv⟩,rfl⟩
    ·cases ho
     have eg:vv 9= .bool true:=hx 9 (hdep { on:=9,ground:= .guard } (by simp) rfl)
     obtain⟨ia,ic,e70,hcv⟩:=hx 14 (hdep { on:=14,ground:= .data } (by simp) rfl)
     have hl:=hcv X (Below.refl _ _)
     refine wpOp_ok rfl (by rw[eg];rfl) (wp_value (v:= .string S0) ?_ ⟨hbX,updR vv 15 _,hx.step (fun j v h=>h) rfl,rfl⟩)
     rw[e70]
     go_simp
    ·cases ho
     have eg:vv 9= .bool true:=hx 9 (hdep { on:=9,ground:= .guard } (by simp) rfl)
     refine wpOp_ok rfl (by rw[eg];rfl) (wp_value (v:=ptrV wb) ?_ ⟨hbX,updR vv 16 _,hx.step (fun j v h=>h) rfl,rfl⟩)
     go_simp
    ·cases ho
     have eg:vv 9= .bool true:=hx 9 (hdep { on:=9,ground:= .guard } (by simp) rfl)
     have e72:vv 16=ptrV wb:=hx 16 (hdep { on:=16,ground:= .data } (by simp) rfl)
     refine wpOp_ok rfl (by rw[eg];rfl) (wp_value (v:=ptrV wb) ?_ ⟨hbX,updR vv 17 _,hx.step (fun j v h=>h) rfl,rfl⟩)
     rw[e72]
     go_simp
    ·cases ho
     have eg:vv 9= .bool true:=hx 9 (hdep { on:=9,ground:= .guard } (by simp) rfl)
     have e73:vv 17=ptrV wb:=hx 17 (hdep { on:=17,ground:= .data } (by simp) rfl)
     refine wpOp_ok rfl (by rw[eg];rfl) (wp_value (v:= .pointer (some ⟨wb,0,none⟩)) ?_ ⟨hbX,updR vv 18 _,hx.step (fun j v h=>h) rfl,rfl⟩)
     rw[e73]
     go_simp
    ·cases ho
     have eg:vv 9= .bool true:=hx 9 (hdep { on:=9,ground:= .guard } (by simp) rfl)
     have e74:vv 18= .pointer (some ⟨wb,0,none⟩):=hx 18 (hdep { on:=18,ground:= .data } (by simp) rfl)
     have hl:=(KS.out X hbX).2.2.1
     refine wpOp_ok rfl (by rw[eg];rfl) (wp_value (v:=ptrV g) ?_ ⟨hbX,updR vv 19 _,hx.step (fun j v h=>h) rfl,rfl⟩)
     rw[e74]
     go_simp
    ·cases ho
     have eg:vv 9= .bool true:=hx 9 (hdep { on:=9,ground:= .guard } (by simp) rfl)
     have e75:vv 19=ptrV g:=hx 19 (hdep { on:=19,ground:= .data } (by simp) rfl)
     refine wpOp_ok rfl (by rw[eg];rfl) (wp_value (v:=ptrV g) ?_ ⟨hbX,updR vv 20 _,hx.step (fun j v h=>h) rfl,rfl⟩)
     rw[e75]
     go_simp
    ·cases ho
     have eg:vv 9= .bool true:=hx 9 (hdep { on:=9,ground:= .guard } (by simp) rfl)
     have e76:vv 20=ptrV g:=hx 20 (hdep { on:=20,ground:= .data } (by simp) rfl)
     refine wpOp_ok rfl (by rw[eg];rfl) (wp_value (v:= .pointer (some ⟨g,0,none⟩)) ?_ ⟨hbX,updR vv 21 _,hx.step (fun j v h=>h) rfl,rfl⟩)
     rw[e76]
     go_simp
    ·cases ho
     have eg:vv 9= .bool true:=hx 9 (hdep { on:=9,ground:= .guard } (by simp) rfl)
     have e77:vv 21= .pointer (some ⟨g,0,none⟩):=hx 21 (hdep { on:=21,ground:= .data } (by simp) rfl)
     have hl:=(KS.out X hbX).2.2.2.1
     refine wpOp_ok rfl (by rw[eg];rfl) (wp_value (v:= .slice (some ⟨b,0,none⟩) n n) ?_ ⟨hbX,updR vv 22 _,hx.step (fun j v h=>h) rfl,rfl⟩)
     rw[e77]
     go_simp
    ·cases ho
     have eg:vv 9= .bool true:=hx 9 (hdep { on:=9,ground:= .guard } (by simp) rfl)
     have e78:vv 22= .slice (some ⟨b,0,none⟩) n n:=hx 22 (hdep { on:=22,ground:= .data } (by simp) rfl)
     have hl:=(KS.out X hbX).2.2.2.2
     refine wpOp_ok rfl (by rw[eg];rfl) (wp_value (v:= .string S0) ?_ ⟨hbX,updR vv 23 _,hx.step (fun j v h=>h) rfl,rfl⟩)
     rw[e78]
     go_simp
    ·cases ho
     have eg:vv 9= .bool true:=hx 9 (hdep { on:=9,ground:= .guard } (by simp) rfl)
     have e71:vv 15= .string S0:=hx 15 (hdep { on:=15,ground:= .data } (by simp) rfl)
     have e79:vv 23= .string S0:=hx 23 (hdep { on:=23,ground:= .data } (by simp) rfl)
     refine wpOp_ok rfl (by rw[eg];rfl) (wp_value (v:= .bool true) ?_ ⟨hbX,updR vv 24 _,hx.step (fun j v h=>h) rfl,rfl⟩)
     rw[e71,e79]
     go_simp
    ·cases ho
     have e65:vv 9= .bool true:=hx 9 (hdep { on:=9,ground:= .data } (by simp) rfl)
     have e80:vv 24= .bool true:=hx 24 (hdep { on:=24,ground:= .data } (by simp) rfl)
     refine wpOp_at rfl rfl (wp_value (v:= .bool true) ?_ ⟨hbX,updR vv 25 _,hx.step (fun j v h=>h) rfl,rfl⟩)
     rw[e65,e80]
     go_simp
    ·cases ho
     have e81:vv 25= .bool true:=hx 25 (hdep { on:=25,ground:= .data } (by simp) rfl)
     refine wpOp_at rfl rfl (wp_value (v:= .bool true) ?_ ⟨hbX,updR vv 26 _,hx.step (fun j v h=>h) rfl,rfl⟩)
     rw[e81]
     go_simp
    ·cases ho
     have eg:vv 26= .bool true:=hx 26 (hdep { on:=26,ground:= .guard } (by simp) rfl)
     refine wpOp_ok rfl (by rw[eg];rfl) (wp_enter (f:=10) (args:= #[]) (by kernel_rfl) ?_)
     have C:=KF.out X hbX
     refine C.mono ?_
     rintro e X' ⟨rfl,hb1⟩
     exact⟨_,rfl,bx hbX hb1,updR vv 27 _,hx.step (GfF.bel hb1) rfl,rfl⟩
    ·cases ho
     have e82:vv 26= .bool true:=hx 26 (hdep { on:=26,ground:= .data } (by simp) rfl)
     have e83:vv 27= .bool true:=hx 27 (hdep { on:=27,ground:= .data } (by simp) rfl)
     refine wpOp_at rfl rfl (wp_value (v:= .bool true) ?_ ⟨hbX,updR vv 28 _,hx.step (fun j v h=>h) rfl,rfl⟩)
     rw[e82,e83]
     go_simp
   ·rintro a X ⟨hbX,vv,hx,rfl⟩
    have el:vv 28= .bool true:=hx 28 rfl
    rw[el]
    simp only[List.drop_succ_cons,List.drop_zero]
    have HBX:=hid (HZB.out.trans (hbX.mono HZB.out.size))
    clear hx hbX
    go_wp2
    go_ret
    exact⟨rfl,HBX.out⟩
end Go.Proofs.YtjmaicckkkdjpaaGreat
