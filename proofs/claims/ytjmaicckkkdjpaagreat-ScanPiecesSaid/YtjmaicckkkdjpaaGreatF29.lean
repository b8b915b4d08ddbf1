import Derived.Test.YtjmaicckkkdjpaaGreatF18
/- The law's world over an arena that is laid by hand, in the law of scans. -/
set_option maxRecDepth 100000
set_option maxHeartbeats 4000000
set_option linter.unusedVariables false
set_option linter.unusedSimpArgs false
namespace Go.Proofs.YtjmaicckkkdjpaaGreat
open Go.RowKit
attribute [local go_sem ↓ high] append_shut2
structure La where
 slabs:Int
 per:Int
 lag:Int
def laC (x:La) (kv:Value):Array Value:= #[.int .i64 x.slabs,kv,.int .i64 x.per,.int .i64 x.lag]
def LaOK (x:La) (xs:List Int):Prop:=1≤x.slabs∧x.slabs≤16∧xs.length≤40∧2≤x.per∧x.per≤8∧0≤x.lag∧x.lag≤20
theorem risTo_len (xs:List Int): ∀i,(risTo xs i).length≤i
 | 0=>Nat.le_refl _
 | i+1=>by have:=insU_len (risTo xs i) (xs.getD i 0);have:=risTo_len xs i;show(insU _ _).length≤_;omega
theorem bld_val {W1 W w9:World} {slabs per lag:Nat} {keys:List Nat} {e:Ending} (hb:Below W1.heap.size W1 W) (h:BldPt W slabs keys per lag e w9): ∃v,e= .returned v∧Below W1.heap.size W1 w9∧(v= .pointer none∧BldNo slabs keys per lag∨ ∃g b n R lv rows,v= .pointer (some ⟨g,0,none⟩)∧W1.heap.size≤g∧W1.heap.size≤b∧ArIs w9 g b n R lv∧LvsA w9 W1.heap.size lv rows∧BuildOK slabs keys per lag R rows):=by
 obtain⟨⟨h1,h2⟩,h3⟩:=h
 have hs:=hb.size
 rcases h2 with rfl | ⟨g,b,n,R,lv,rows,rfl,q1,q2,q3,q4,q5⟩
 ·exact⟨_,rfl,bx hb h1,Or.inl ⟨rfl,h3 rfl⟩⟩
 ·refine⟨_,rfl,bx hb h1,Or.inr ⟨g,b,n,R,lv,rows,rfl,by omega,by omega,q3,?_,q5⟩⟩
  obtain⟨vs,v1,v2,v3⟩:=q4
  exact⟨vs,v1,own_less v2 hs,fun i row hi=>by obtain⟨v,z1,z2,z3⟩:=v3 i row hi;exact⟨v,z1,z2,own_less z3 hs⟩⟩
theorem ov_room (bs:List Int) (n:Nat) (hn:1≤n∧n≤64):RoomI (ofTo bs n n) n 1 []∧roomSA (ofTo bs n n) 1≤3000:=by
 have hl0:=ofTo_hd bs n n
 refine⟨⟨hl0,ofTo_fr bs n n (Nat.le_refl _) 1,List.nodup_nil,fun _ h=>by cases h⟩,?_⟩
 unfold roomSA
 have h0:=ofTo_len bs n n 1
 have h1:=noughtN_le (ofTo bs n n).hd (ofTo bs n n).hd.length
 have h2:=nb_le 1
 have h3:noughtN (ofTo bs n n).hd (ofTo bs n n).hd.length*nb 1≤65*15:=Nat.mul_le_mul (by omega) h2
 omega
structure WorIs (N0:Nat) (W:World) (x:La) (xs:List Int) (wb g b nb:Nat) (R:AR) (lv:Value) (rows:List (List (Nat×NodeA))) (K si m:Nat) (MB:MB):Prop where
 ar:ArIs W g b nb R lv
 lvs: ∃N,LvsA W N lv rows
 bld:BuildOK x.slabs.toNat (risKeys xs) x.per.toNat x.lag.toNat R rows
 ok:LaOK x xs
 built:Built x.slabs.toNat (risKeys xs) x.per.toNat x.lag.toNat K R.bs
 rws:rows=(List.range (K+1)).map (rowK (uN (risKeys xs)) x.per.toNat x.lag.toNat (ents0 (risKeys xs)))
 ov: ∃wc N1 S size gs sp,OvI wc N1 x.slabs.toNat si m MB (freshM (wordsOf R.bs)) S size wb (ptrV g) gs gs sp W∧gs.length≤2∧g<wc.heap.size∧b<wc.heap.size∧N0≤wc.heap.size∧ ∃N,LvsA wc N lv rows
 lo:N0≤g∧N0≤b
def BgPs (w:World) (x:La) (xs:List Int) (e:Ending) (w':World):Prop:=
 Below w.heap.size w w'∧((e= .returned (.pointer none)∧ ¬(LaOK x xs∧ ¬BldNo x.slabs.toNat (risKeys xs) x.per.toNat x.lag.toNat))∨ ∃wb g b nb R lv rows K si m MB,e= .returned (ptrV wb)∧WorIs w.heap.size w' x xs wb g b nb R lv rows K si m MB)
theorem ris_cast {xs:List Int} (hxs: ∀y∈xs,U64 y):(risKeys xs).map (fun x:Nat=>(x:Int))=risTo xs xs.length:=risKeys_back hxs
theorem SBegin_z (x:La) (kv:Value) (xs:List Int) (hxs: ∀y∈xs,U64 y) (hxl:xs.length≤9223372036854775807) (hx:I64 x.slabs∧I64 x.per∧I64 x.lag) (w:World) (hK:NumsAt .u64 w kv xs):
  Calls Tryz.prog 27 #[.agg (laC x kv)] w fun e w'=>BgPs w x xs e w':=by
 obtain⟨ka,kc,rfl,hkc⟩:=hK
 obtain⟨m,hm⟩: ∃m,m=xs.length:=⟨_,rfl⟩
 have HKA:Hid (NumsAt .u64 w (.slice ka m kc) xs):=hid ⟨ka,kc,by rw[hm],hkc⟩
 rw[←hm]
 obtain⟨W1,hW1⟩: ∃W1,W1=w.alloc (.cells (laC x (.slice ka m kc)) 86):=⟨_,rfl⟩
 have hb1:Below w.heap.size w W1:=by rw[hW1];exact ba (Below.refl _ _) _
 have k1:Blk W1 w.heap.size 86 (laC x (.slice ka m kc)):=by rw[hW1];exact Blk.new _ _ _
 obtain⟨B,hB⟩: ∃B,B=w.heap.size:=⟨_,rfl⟩
 rw[←hB] at k1
 have c0:W1.cell? ⟨B,0,none⟩=some (.int .i64 x.slabs):=k1.cell 0
 have c1:W1.cell? ⟨B,1,none⟩=some (.slice ka m kc):=k1.cell 1
 have c2:W1.cell? ⟨B,2,none⟩=some (.int .i64 x.per):=k1.cell 2
 have c3:W1.cell? ⟨B,3,none⟩=some (.int .i64 x.lag):=k1.cell 3
 have HW1:=hid hW1
 have HB1:=hid hb1
 have HH:=hid (⟨hm,hxs⟩:m=xs.length∧(∀y∈xs,U64 y))
 clear hW1 hb1 k1 hxs hkc hm hxl hx
 go_enter Tryz.func27,Tryz.ntmps27
 go_upto_region 1 with fail
 rw[show _=W1 from HW1.out.symm,←hB]
 have HBB:=hid hB
 clear hB
 by_cases q1:x.slabs<1
 ·have HNIL:Hid (BgPs w x xs (.returned (.pointer none)) W1):=hid ⟨HB1.out,Or.inl ⟨rfl,fun h=>by have:=h.1;unfold LaOK at this;omega⟩⟩
  go_wp2
  go_ret
  exact HNIL.out
 by_cases q2:x.slabs>16
 ·have HNIL:Hid (BgPs w x xs (.returned (.pointer none)) W1):=hid ⟨HB1.out,Or.inl ⟨rfl,fun h=>by have:=h.1;unfold LaOK at this;omega⟩⟩
  go_wp2
  go_ret
  exact HNIL.out
 by_cases q3:40<m
 ·have p3:(m:Int)>40:=by omega
  have HNIL:Hid (BgPs w x xs (.returned (.pointer none)) W1):=hid ⟨HB1.out,Or.inl ⟨rfl,fun h=>by have:=h.1;unfold LaOK at this;have:=HH.out.1;omega⟩⟩
  go_wp2
  go_ret
  exact HNIL.out
 have n3: ¬(m:Int)>40:=by omega
 by_cases q4:x.per<2
 ·have HNIL:Hid (BgPs w x xs (.returned (.pointer none)) W1):=hid ⟨HB1.out,Or.inl ⟨rfl,fun h=>by have:=h.1;unfold LaOK at this;omega⟩⟩
  go_wp2
  go_ret
  exact HNIL.out
 by_cases q5:x.per>8
 ·have HNIL:Hid (BgPs w x xs (.returned (.pointer none)) W1):=hid ⟨HB1.out,Or.inl ⟨rfl,fun h=>by have:=h.1;unfold LaOK at this;omega⟩⟩
  go_wp2
  go_ret
  exact HNIL.out
 by_cases q6:x.lag<0
 ·have HNIL:Hid (BgPs w x xs (.returned (.pointer none)) W1):=hid ⟨HB1.out,Or.inl ⟨rfl,fun h=>by have:=h.1;unfold LaOK at this;omega⟩⟩
  go_wp2
  go_ret
  exact HNIL.out
 by_cases q7:x.lag>20
 ·have HNIL:Hid (BgPs w x xs (.returned (.pointer none)) W1):=hid ⟨HB1.out,Or.inl ⟨rfl,fun h=>by have:=h.1;unfold LaOK at this;omega⟩⟩
  go_wp2
  go_ret
  exact HNIL.out
 have HOK:Hid (LaOK x xs):=hid (by have h1:=HH.out.1;unfold LaOK;omega)
 clear q3
 go_upto_region 3 with fail
 obtain⟨sl,hsl⟩: ∃sl:Nat,x.slabs=(sl:Int):=⟨x.slabs.toNat,by omega⟩
 obtain⟨pe,hpe⟩: ∃pe:Nat,x.per=(pe:Int):=⟨x.per.toNat,by omega⟩
 obtain⟨lg,hlg⟩: ∃lg:Nat,x.lag=(lg:Int):=⟨x.lag.toNat,by omega⟩
 rw[hsl] at c0
 rw[hpe] at c2
 rw[hlg] at c3
 have HSL:=hid (⟨by rw[hsl];exact Int.toNat_natCast _,by rw[hpe];exact Int.toNat_natCast _,by rw[hlg];exact Int.toNat_natCast _,(by have:=HOK.out;unfold LaOK at this;omega:1≤sl∧sl≤16∧2≤pe∧pe≤8∧lg≤20)⟩:x.slabs.toNat=sl∧x.per.toNat=pe∧x.lag.toNat=lg∧1≤sl∧sl≤16∧2≤pe∧pe≤8∧lg≤20)
 have hm40:m≤40:=by omega
 have RKL:Hid ((risKeys xs).length≤40):=hid (by unfold risKeys;rw[List.length_map];have:=risTo_len xs xs.length;have:=HH.out.1;omega)
 have RZ:=hid (fun W (hb:Below W1.heap.size W1 W)=>Rising_z xs 40 (.slice ka m kc) (by have:=HH.out.1;omega) (by omega) W (HKA.out.bel (bx HB1.out hb)))
 have BZ:=hid (fun(W:World) (v:Value) (hb:Below W1.heap.size W1 W) (hv:NumsAt .u64 W v (risTo xs xs.length))=>ABuild_t sl pe lg (risKeys xs) v HSL.out.2.2.2.1 (by have:=HSL.out;omega) (by have:=RKL.out;omega) (risKeys_rise HH.out.2).2 HSL.out.2.2.2.2.2.1 HSL.out.2.2.2.2.2.2.1 (by have:=HSL.out;omega) W (by
  rw[ris_cast HH.out.2];exact hv))
 clear q1 q2 n3 q4 q5 q6 q7 hsl hpe hlg
 go_cut [3] from 5 to 48 (fun v wd=>Hid (Below W1.heap.size W1 wd∧(v= .pointer none∧BldNo sl (risKeys xs) pe lg∨ ∃g b n R lv rows,v= .pointer (some ⟨g,0,none⟩)∧W1.heap.size≤g∧W1.heap.size≤b∧ArIs wd g b n R lv∧LvsA wd W1.heap.size lv rows∧BuildOK sl (risKeys xs) pe lg R rows)))
 case first=>
  go_region_held3 (fun X=>X.cell? ⟨B,0,none⟩=some (.int .i64 (sl:Int))∧X.cell? ⟨B,1,none⟩=some (.slice ka m kc)∧X.cell? ⟨B,2,none⟩=some (.int .i64 (pe:Int))∧X.cell? ⟨B,3,none⟩=some (.int .i64 (lg:Int))) (go_keep) (first
   | (go_at_call 40;refine(RZ.out _ (by(repeat(first | exact Below.refl _ _ | (refine ba ?_ _) | (refine Below.drew ?_) | (refine below_drewN ?_ _) | (refine Below.alloc ?_ (by first | omega | (simp;done) | (simp;omega)) _) | (refine Below.setCell ?_ (by first | omega | (simp;done) | (simp;omega)) _) | (refine bx ?_ (by assumption)) | (refine Below.trans ?_ (Below.mono (by assumption) (by first | omega | (simp;done) | (simp;omega)))))))).mono ?_;rintro e v1 ⟨hb,v,j,rfl,hj1,hj2,hj3,hrow⟩;(have hj:j=xs.length:=by have h8:=risTo_len xs j;have h9:=HH.out.1;omega);subst hj;have hB1:Below W1.heap.size W1 v1:=bx (by(repeat(first | exact Below.refl _ _ | (refine ba ?_ _) | (refine Below.drew ?_) | (refine below_drewN ?_ _) | (refine Below.alloc ?_ (by first | omega | (simp;done) | (simp;omega)) _) | (refine Below.setCell ?_ (by first | omega | (simp;done) | (simp;omega)) _) | (refine bx ?_ (by assumption)) | (refine Below.trans ?_ (Below.mono (by assumption) (by first | omega | (simp;done) | (simp;omega))))))) hb;have HBV:=hid hB1;have d1:v1.cell? ⟨B,1,none⟩=some (.slice ka m kc):=(hB1.cell (p:=⟨B,1,none⟩) (World.block_lt_of_cell? W1 _ c1)).trans c1;obtain⟨va,vc,rfl⟩:=row_form1 hrow;have HNA:=hid (NumsAt.of_own hrow);have d0:v1.cell? ⟨B,0,none⟩=some (.int .i64 (sl:Int)):=(hB1.cell (p:=⟨B,0,none⟩) (World.block_lt_of_cell? W1 _ c0)).trans c0;have d2:v1.cell? ⟨B,2,none⟩=some (.int .i64 (pe:Int)):=(hB1.cell (p:=⟨B,2,none⟩) (World.block_lt_of_cell? W1 _ c2)).trans c2;have d3:v1.cell? ⟨B,3,none⟩=some (.int .i64 (lg:Int)):=(hB1.cell (p:=⟨B,3,none⟩) (World.block_lt_of_cell? W1 _ c3)).trans c3;clear hb hrow hB1 hj1 hj2 hj3)
   | (go_at_call 39;refine(BZ.out _ _ (by first | exact HBV.out | exact HBV.out.drew) (by first | exact HNA.out | exact HNA.out.bel ⟨rfl,rfl,rfl,Nat.le_refl _,fun _ _=>rfl⟩)).mono ?_;intro e w9 h9;obtain⟨v9,rfl,hp9⟩:=bld_val (by first | exact HBV.out | exact HBV.out.drew) h9;have f0:w9.cell? ⟨B,0,none⟩=some (.int .i64 (sl:Int)):=(hp9.1.cell (p:=⟨B,0,none⟩) (World.block_lt_of_cell? W1 _ c0)).trans c0;have f1:w9.cell? ⟨B,1,none⟩=some (.slice ka m kc):=(hp9.1.cell (p:=⟨B,1,none⟩) (World.block_lt_of_cell? W1 _ c1)).trans c1;have f2:w9.cell? ⟨B,2,none⟩=some (.int .i64 (pe:Int)):=(hp9.1.cell (p:=⟨B,2,none⟩) (World.block_lt_of_cell? W1 _ c2)).trans c2;have f3:w9.cell? ⟨B,3,none⟩=some (.int .i64 (lg:Int)):=(hp9.1.cell (p:=⟨B,3,none⟩) (World.block_lt_of_cell? W1 _ c3)).trans c3;have HP9:=hid hp9;clear h9 hp9))
  go_wp2
  go_meet
  exact HP9
 case rest=>
  obtain⟨hb9,hv9⟩:=hcut.out
  have HBW:Hid (Below w.heap.size w wc):=hid (bx HB1.out hb9)
  rcases hv9 with⟨rfl,hno⟩ | ⟨g,b,n,R,lv,rows,rfl,hg,hbb,hA,hV,hBO⟩
  ·have HF:Hid (BgPs w x xs (.returned (.pointer none)) wc):=hid ⟨HBW.out,Or.inl ⟨rfl,fun h=>h.2 (by rw[HSL.out.1,HSL.out.2.1,HSL.out.2.2.1];exact hno)⟩⟩
   clear hcut hb9 hno
   go_wp2
   go_ret
   exact HF.out
  ·obtain⟨rk1,rk2⟩:=risKeys_rise HH.out.2
   obtain⟨K,hBu,hrows⟩:=build_built hBO HSL.out.2.2.2.1 (by have:=HSL.out;omega) (by have:=RKL.out;omega) rk2 rk1 HSL.out.2.2.2.2.2.1 HSL.out.2.2.2.2.2.2.1
   have hn:n=R.bs.length:=hA.ln
   have hn1:=hA.big
   have hcap:=hn1
   have OZ:=hid (MOf_z (some ⟨b,0,none⟩) n R.bs (by unfold mayB;simp only[decide_eq_true_eq];have:=hBu.len;have:=HSL.out;omega) (by omega) wc (bytesIn_blk hA.by' hA.byt (by omega)))
   have HS:=hid (fun W (hB:Below wc.heap.size wc W)=>callsIn_wide.1 (SOf_in (some ⟨b,0,none⟩) n R.bs sl (by have:=HSL.out;omega) hBu.len W (bytesIn_bel (bytesIn_blk hA.by' hA.byt (by omega)) hB)))
   rw[←hn] at OZ HS
   have cg:wc.cell? ⟨g,0,none⟩=some (.slice (some ⟨b,0,none⟩) n n):=hA.blk.cell 0
   have HGC:=hid cg
   have hsz:=HB1.out.size
   have HAR:=hid (⟨hA,(by obtain⟨vs,v1,v2,v3⟩:=hV;exact⟨vs,v1,own_less v2 hsz,fun i row hi=>by obtain⟨v,z1,z2,z3⟩:=v3 i row hi;exact⟨v,z1,z2,own_less z3 hsz⟩⟩:LvsA wc w.heap.size lv rows),hBu,hrows,(by omega:w.heap.size≤g∧w.heap.size≤b),hBO⟩:_∧_∧_∧_∧_∧_)
   have hn0:=hn
   have hh:=hBu.toBase.toCore.heads
   have hl:=hBu.len
   clear hcut hb9 hg hbb hA hV hBO rk1 rk2 hBu hrows hn hn1 hsz c0 c1 c2 c3 hcap
   have hn:1≤sl∧sl≤64:=by have:=HSL.out;omega
   have HHO:=hid (⟨hn,hl,hh⟩:_∧_∧_)
   have HWW:Hid ((wordsOf R.bs).length=128*(sl+1)):=hid (by unfold wordsOf;rw[List.length_map,List.length_range,hl];omega)
   have HRM:=hid (ov_room R.bs sl hn)
   obtain⟨A0,hA0⟩: ∃A0,A0=ofTo R.bs sl sl:=⟨_,rfl⟩
   rw[←hA0] at HRM
   obtain⟨ws,hws⟩: ∃ws,ws=wordsOf R.bs:=⟨_,rfl⟩
   rw[←hws] at OZ HWW
   have hq:n=R.bs.length:=hn0
   have HQQ:=hid (⟨hq,hA0,hws⟩:_∧_∧_)
   clear hq hA0 hws hn hl hh hn0
   obtain⟨iA,hiA,zA0,zA1,zA2⟩:=info_parts info_addr
   go_wp2_with fail
   refine OZ.out.mono ?_
   rintro e w1 ⟨m,MB,rfl,hM,hb1,hlow⟩
   have S1:=hid (HS.out w1 hb1)
   have HC1:=hid hb1
   have HMM:=hid (⟨hM,hlow,hM.foot_lt⟩:_∧_∧_)
   have cg1:w1.cell? ⟨g,0,none⟩=some (.slice (some ⟨b,0,none⟩) n n):=ov_cell hb1 HGC.out
   clear hb1 hM hlow OZ HS cg
   go_wp2_with fail
   refine S1.out.mono ?_
   rintro e w2 hp
   obtain⟨S,V,rfl,hs⟩:=hp.yes HHO.out.2.2
   rw[←HQQ.out.2.1] at hs
   have hb12:=hp.bel
   have hb2:Below wc.heap.size wc w2:=bx HC1.out hb12
   have hM2:MemIs w2 m MB (freshM ws):=HMM.out.1.only (Only.of_below hb12 []) (by simp)
   have NW:=hid (SNew_t (some ⟨m,0,none⟩) (some ⟨S.s,0,none⟩) (1024*(1+sl)) sl 2 HHO.out.1 rfl ⟨by omega,by omega⟩ w2 (Or.inr ⟨m,MB,ws.length,(freshM ws).st,rfl,hM2.pos,hM2.big,by have:=HWW.out;omega,hM2.blk⟩) (HasSlabs.of hs HRM.out.1.len HHO.out.1))
   have H2:=hid (⟨hs,hM2,hb2,hb12⟩:_∧_∧_∧_)
   clear hs hM2 hb2 hb12 hp S1 cg1
   go_wp2_with fail
   refine NW.out.mono ?_
   rintro e w3 ⟨hb23,si,t,tm,rfl,hsi,htb,n1,n2,n3,n4,n5⟩
   obtain⟨hs,hM2,hb2,hb12⟩:=H2.out
   have hb3:=bx hb2 hb23
   obtain⟨W4,hW4⟩: ∃W4,W4=w3.alloc (.cells #[ptrV g,ptrV si,ptrV m,.slice none 0 0] 92):=⟨_,rfl⟩
   have hb34:Below w3.heap.size w3 W4:=by rw[hW4];exact ba (Below.refl _ _) _
   have k4:Blk W4 w3.heap.size 92 #[ptrV g,ptrV si,ptrV m,.slice none 0 0]:=by rw[hW4];exact Blk.new _ _ _
   have hsl:=World.block_lt_of_cell? _ _ (hsi.blk.cell 0)
   have hI4:OvI wc w1.heap.size sl si m MB (freshM ws) S (n:Int) w3.heap.size (ptrV g) [] [] (.slice none 0 0) W4:=by
    have hb24:=bx hb23 hb34
    have hfo: ∀x∈foot S V,x<w2.heap.size:=fun x hx=>by obtain⟨i,hi⟩:=foot_mem.1 hx;exact hs.lt hi
    refine⟨⟨A0,V,hs.bel hb24,HRM.out.1,HRM.out.2,fun x hx=>by simp[Value.ownBlock] at hx,fun hm=> ?_,fun hm=> ?_⟩,World.ownsRow_nil _ _ _ _,fun x hx=>by simp[Value.ownBlock] at hx,k4,(ov_cell hb34 (hsi.blk.cell 0)),hM2.only (Only.of_below hb24 []) (by simp),?_,fun k hk=>⟨HMM.out.2.1 k hk,HMM.out.2.2 k hk⟩,⟨HC1.out.size,?_,?_⟩,bx hb3 hb34⟩
    ·have:=hfo _ hm;have:=hb23.size;omega
    ·have:=hfo _ hm;omega
    ·have:si<w3.heap.size:=hsl;omega
    ·have:=hb12.size;omega
    ·have:=hb12.size;have:=hb23.size;omega
   have HI4:=hid hI4
   have HV4:=hid hW4
   obtain⟨wb,hwb⟩: ∃wb,wb=w3.heap.size:=⟨_,rfl⟩
   rw[←hwb] at HI4
   clear hI4 hW4 k4 hb34 hb3 hb23 hsi htb n1 n2 n3 n4 n5 hs hM2 hb2 hb12 hsl NW H2
   have HNN:=hid (⟨HHO.out.1,HMM.out.2.2,HC1.out.size⟩:_∧_∧_)
   have HEX:Hid (∃gs sp,gs.length≤0∧OvI wc w1.heap.size sl si m MB (freshM ws) S (n:Int) wb (ptrV g) gs gs sp W4):=hid ⟨[],_,Nat.le_refl _,HI4.out⟩
   clear HI4 HMM HC1 HRM HWW
   go_upto_region 14 with fail
   rw[show _=W4 from HV4.out.symm,←hwb]
   clear HV4 hwb
   go_wp2
   go_loopw [11] (fun i wr=> ∃k:Nat,k≤2∧i= .int .i64 k∧Hid (∃gs sp,gs.length≤k∧OvI wc w1.heap.size sl si m MB (freshM ws) S (n:Int) wb (ptrV g) gs gs sp wr)) (fun i _=>(2- (intOf i).toNat))
   case atStart=>exact⟨0,by omega,rfl,HEX⟩
   case round=>
    obtain⟨k,hk,rfl,hI⟩:=hrel
    clear HEX
    obtain⟨gs,sp,hgl,hJ⟩:=hI.out
    by_cases hlt:k<2
    ·have i1:(k:Int)<2:=by omega
     obtain⟨A,V1,q1,q2,q3,q4⟩:=hJ.sl
     have hfr:(A.fr 1).length≤50000:=by unfold roomSA at q3;omega
     have RV:Calls Tryz.prog 61 #[.pointer (some ⟨S.s,0,none⟩),.int .i64 1] wr fun e w'=>RsvPost wr w1.heap.size S V1 (n:Int) A 1 e w':=Reserve_z w1.heap.size S V1 (n:Int) A 1 sl wr q1 (by have h1:=hJ.lo;have h2:=hJ.blk.lt;omega) q2.len HNN.out.1 ⟨by omega,by omega⟩ hfr
     have RV:=hid RV
     have HJ:=hid (⟨hJ,q1,q2,q3,q4,hgl,hlt⟩:_∧_∧_∧_∧_∧_∧_)
     have hform:=rowForm hJ.row
     obtain⟨av,cv,rfl⟩:=hform
     clear hJ hI q1 q2 q3 q4 hgl hk hfr hlt
     go_wp2_with fail
     refine RV.out.mono ?_
     rintro e w5 hpost
     obtain⟨hJ,q1,q2,q3,q4,hgl,hlt⟩:=HJ.out
     rcases hpost.ok with⟨A',V',hA',rfl,hs5,hm5⟩ | ⟨n1,n2,rfl,hs5,hm5⟩
     ·have hnx:RoomI A' sl 1 gs∧roomSA A' 1=roomSA A 1∧A'.fr 1≠[]:=by
       rcases hA' with⟨rfl,q⟩ | ⟨q,j,hj,hz,rfl,_⟩
       ·exact⟨q2,rfl,q⟩
       ·obtain⟨g1,g2⟩:=q2.give HNN.out.1.2 ⟨by omega,by omega⟩ q j hj hz
        exact⟨g1,g2,giveSA_ne A (j+1) ⟨by omega,by omega⟩⟩
      obtain⟨g1,g2,g3⟩:=hnx.1.take hnx.2.2
      have hJ5:=hJ.rsv q1 q4 hs5 g1 (by have:=hnx.2.1;omega) hm5
      obtain⟨a,hae⟩: ∃a,a=at0 (A'.fr 1) 0:=⟨_,rfl⟩
      rw[←hae] at hJ5 ⊢
      have H5:=hid hJ5
      have hrow5:=hJ5.row
      have k5:w5.cell? ⟨wb,3,none⟩=some (.slice av gs.length cv):=hJ5.blk.cell 3
      have HG:=hid (⟨hgl,hlt⟩:_∧_)
      have ka:(w5.alloc (.cells #[.int .u64 a] 62)).cell? ⟨wb,3,none⟩=some (.slice av gs.length cv):=(hJ5.blk.alloc _).cell 3
      have HO:=hid (hrow5.alloc (.cells #[.int .u64 a] 62))
      have hsz5:=hJ5.bel.size
      have h63:gs.length+1≤maxLen:=by unfold maxLen;omega
      have hby:(gs.length+1)*8≤140737488355328:=by omega
      clear hpost hA' hs5 hm5 hnx g1 g2 g3 hae hJ q1 q2 q3 q4 hgl hlt hJ5 hrow5 RV
      go_wp2_with (at_builtin;go_must (refine wpList_append_own_at _ rfl _ _ 34 rfl wc.heap.size 62 iA (.int .u64 0) 1 8 Tryz.underlying34 hiA zA0 zA1 zA2 rfl (by decide) _ _ _ rfl HO.out ⟨w5.heap.size,0,none⟩ 1 1 [.int .u64 a] rfl rfl (World.news_of_block (Blk.new w5 62 #[.int .u64 a])) (by simp[Value.oneCell']) h63 hby (by simp;omega) ?_);intro v' w7 hown' hgrow _ hat;obtain⟨va,vc,rfl⟩:=rowForm hown';obtain⟨k7,hI7⟩:=H5.out.app hgrow (by simpa[addrV] using hown') hat;have c7:w7.cell? ⟨wb,3,none⟩=some (.slice av gs.length cv):=k7.cell 3;have f7:w7.frozen? ⟨wb,3,none⟩=false:=k7.frozen 3;have HI7:=hid hI7;clear hI7 k7 hown' hgrow hat)
      go_roundw
      case rel=>exact⟨k+1,by have:=HG.out.2;omega,by go_num,hid ⟨gs++[a],_,by rw[List.length_append];have:=HG.out.1;simp;omega,HI7.out⟩⟩
      case measure=>simp[intOf];have:=HG.out.2;omega
     ·have hJ5:=hJ.rsv q1 q4 hs5 q2 q3 hm5
      have HG:=hid (⟨hJ5,hgl,hlt⟩:_∧_∧_)
      clear hpost n1 n2 hs5 hm5 hJ q1 q2 q3 q4 hgl hlt hJ5 RV
      go_wp2
      go_roundw
      case rel=>exact⟨k+1,by have:=HG.out.2.2;omega,by go_num,hid ⟨gs,_,by have:=HG.out.2.1;omega,HG.out.1⟩⟩
      case measure=>simp[intOf];have:=HG.out.2.2;omega
    ·have i1: ¬(k:Int)<2:=by omega
     have HJ:=hid (⟨hJ,by omega⟩:_∧gs.length≤2)
     clear hJ hI hgl hk hlt
     go_wp2
     go_ret
     obtain⟨hO2,hg4⟩:=HJ.out
     obtain⟨hA,hV,hBu,hrows,hlo,hBO⟩:=HAR.out
     have hbl:=HBW.out.size
     have hgl:g<wc.heap.size:=hA.blk.lt
     have hbl2:b<wc.heap.size:=hA.by'.lt
     refine⟨HBW.out.trans (hO2.bel.mono hbl),Or.inr ⟨wb,g,b,n,R,lv,rows,K,si,m,MB,rfl,?_⟩⟩
     refine⟨hA.bel hO2.bel,⟨w.heap.size,hV.only (Only.of_below hO2.bel []) (by simp)⟩,(by rw[HSL.out.1,HSL.out.2.1,HSL.out.2.2.1];exact hBO),HOK.out,?_,?_,⟨wc,w1.heap.size,S,(n:Int),gs,sp,?_,hg4,hgl,hbl2,hbl,w.heap.size,hV⟩,hlo⟩
     ·rw[HSL.out.1,HSL.out.2.1,HSL.out.2.2.1];exact hBu
     ·rw[HSL.out.2.1,HSL.out.2.2.1];exact hrows
     ·rw[HSL.out.1,←HQQ.out.2.2];exact hO2
end Go.Proofs.YtjmaicckkkdjpaaGreat
