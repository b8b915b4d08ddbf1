import Derived.Test.YtjmaicckkkdjpaaGreatM36
import Derived.Test.YtjmaicckkkdjpaaGreatM29
/- The law's world over an arena that is laid by hand. -/
set_option maxRecDepth 100000
set_option maxHeartbeats 4000000
set_option linter.unusedVariables false
set_option linter.unusedSimpArgs false
namespace Go.Proofs.YtjmaicckkkdjpaaGreat
open Go.RowKit
structure La where
 slabs:Int
 per:Int
 lag:Int
def laC (x:La) (kv:Value):Array Value:= #[.int .i64 x.slabs,kv,.int .i64 x.per,.int .i64 x.lag]
def LaOK (x:La) (xs:List Int):Prop:=1≤x.slabs∧x.slabs≤16∧xs.length≤40∧2≤x.per∧x.per≤8∧0≤x.lag∧x.lag≤20
theorem risTo_len (xs:List Int): ∀i,(risTo xs i).length≤i
 | 0=>Nat.le_refl _
 | i+1=>by have:=insU_len (risTo xs i) (xs.getD i 0);have:=risTo_len xs i;show(insU _ _).length≤_;omega
theorem bld_val {W1 W w9:World} {slabs per lag:Nat} {keys:List Nat} {e:Ending} (hb:Below W1.heap.size W1 W) (h:BldPt W slabs keys per lag e w9): ∃v,e= .returned v∧Below W1.heap.size W1 w9∧(v= .pointer none∧BldNo slabs keys per lag∨ ∃g b n R lv rows,v= .pointer (some ⟨g,0,none⟩)∧W1.heap.size≤g∧W1.heap.size≤b∧ArIs w9 g b n R lv∧LvsA w9 W1.heap.size lv rows∧BuildOK slabs keys per lag R rows):=by
 obtain⟨⟨h1,h2⟩,h3⟩:=h
 have hs:=hb.size
 rcases h2 with rfl | ⟨g,b,n,R,lv,rows,rfl,q1,q2,q3,q4,q5⟩
 ·exact⟨_,rfl,bx hb h1,Or.inl ⟨rfl,h3 rfl⟩⟩
 ·refine⟨_,rfl,bx hb h1,Or.inr ⟨g,b,n,R,lv,rows,rfl,by omega,by omega,q3,?_,q5⟩⟩
  obtain⟨vs,v1,v2,v3⟩:=q4
  exact⟨vs,v1,own_less v2 hs,fun i row hi=>by obtain⟨v,z1,z2,z3⟩:=v3 i row hi;exact⟨v,z1,z2,own_less z3 hs⟩⟩
theorem OvI.arena {w W:World} {N1 n si m:Nat} {MB:MB} {M:MemS} {S:SB} {size:Int} {wb:Nat} {av:Value} {gs gt:List Int} {sp:Value} (h:OvI w N1 n si m MB M S size wb av gs gt sp W) (v:Value):OvI w N1 n si m MB M S size wb v gs gt sp (W.setCell ⟨wb,0,none⟩ v)∧Only [wb] W (W.setCell ⟨wb,0,none⟩ v):=by
 have ho:Only [wb] W (W.setCell ⟨wb,0,none⟩ v):=(Only.refl _ _).setCell (Or.inl (by simp)) v
 obtain⟨A,V,q1,q2,q3,q4,q5,q6⟩:=h.sl
 refine⟨⟨⟨A,V,q1.only ho (fun i k hi hm=> ?_),q2,q3,q4,q5,q6⟩,ho.own h.row (fun k hk hm=> ?_),h.spo,h.blk.set_ 0 v,(ho.cell (p:=⟨si,0,none⟩) h.sil (by simp[h.ne])).trans h.site,h.mem.only ho (fun k hk hm=> ?_),h.ne,h.low,h.lo,h.bel.trans (ho.below (fun x hx=> ?_) h.bel.size)⟩,ho⟩
 ·simp at hm;subst hm;exact q5 (foot_mem.2 ⟨i,hi⟩)
 ·simp at hm;exact(h.spo k hk).2.1 hm
 ·simp at hm;have:=(h.low k hk).2;have:=h.lo.2.2;omega
 ·simp at hx;have:=h.lo;omega
structure WorIs (N0:Nat) (W:World) (x:La) (xs:List Int) (wb g b nb:Nat) (R:AR) (lv:Value) (rows:List (List (Nat×NodeA))) (K si m:Nat) (MB:MB):Prop where
 ar:ArIs W g b nb R lv
 lvs: ∃N,LvsA W N lv rows
 bld:BuildOK x.slabs.toNat (risKeys xs) x.per.toNat x.lag.toNat R rows
 ok:LaOK x xs
 built:Built x.slabs.toNat (risKeys xs) x.per.toNat x.lag.toNat K R.bs
 rws:rows=(List.range (K+1)).map (rowK (uN (risKeys xs)) x.per.toNat x.lag.toNat (ents0 (risKeys xs)))
 ov: ∃wc N1 S size gs sp,OvI wc N1 x.slabs.toNat si m MB (freshM (wordsOf R.bs)) S size wb (ptrV g) gs gs sp W∧gs.length≤4∧g<wc.heap.size∧b<wc.heap.size∧N0≤wc.heap.size
 lo:N0≤g∧N0≤b
def BgPs (w:World) (x:La) (xs:List Int) (e:Ending) (w':World):Prop:=
 Below w.heap.size w w'∧((e= .returned (.pointer none)∧ ¬(LaOK x xs∧ ¬BldNo x.slabs.toNat (risKeys xs) x.per.toNat x.lag.toNat))∨ ∃wb g b nb R lv rows K si m MB,e= .returned (ptrV wb)∧WorIs w.heap.size w' x xs wb g b nb R lv rows K si m MB)
theorem ris_cast {xs:List Int} (hxs: ∀y∈xs,U64 y):(risKeys xs).map (fun x:Nat=>(x:Int))=risTo xs xs.length:=risKeys_back hxs
theorem Begin_z (x:La) (kv:Value) (xs:List Int) (hxs: ∀y∈xs,U64 y) (hxl:xs.length≤9223372036854775807) (hx:I64 x.slabs∧I64 x.per∧I64 x.lag) (w:World) (hK:NumsAt .u64 w kv xs):
  Calls Tryz.prog 9 #[.agg (laC x kv)] w fun e w'=>BgPs w x xs e w':=by
 obtain⟨ka,kc,rfl,hkc⟩:=hK
 obtain⟨m,hm⟩: ∃m,m=xs.length:=⟨_,rfl⟩
 have HKA:Hid (NumsAt .u64 w (.slice ka m kc) xs):=hid ⟨ka,kc,by rw[hm],hkc⟩
 rw[←hm]
 obtain⟨W1,hW1⟩: ∃W1,W1=w.alloc (.cells (laC x (.slice ka m kc)) 24):=⟨_,rfl⟩
 have hb1:Below w.heap.size w W1:=by rw[hW1];exact ba (Below.refl _ _) _
 have k1:Blk W1 w.heap.size 24 (laC x (.slice ka m kc)):=by rw[hW1];exact Blk.new _ _ _
 obtain⟨B,hB⟩: ∃B,B=w.heap.size:=⟨_,rfl⟩
 rw[←hB] at k1
 have c0:W1.cell? ⟨B,0,none⟩=some (.int .i64 x.slabs):=k1.cell 0
 have c1:W1.cell? ⟨B,1,none⟩=some (.slice ka m kc):=k1.cell 1
 have c2:W1.cell? ⟨B,2,none⟩=some (.int .i64 x.per):=k1.cell 2
 have c3:W1.cell? ⟨B,3,none⟩=some (.int .i64 x.lag):=k1.cell 3
 have HW1:=hid hW1
 have HB1:=hid hb1
 have HH:=hid (⟨hm,hxs⟩:m=xs.length∧(∀y∈xs,U64 y))
 clear hW1 hb1 k1 hxs hkc hm hxl hx
 go_enter Tryz.func9,Tryz.ntmps9
 go_upto_region 1 with fail
 rw[show _=W1 from HW1.out.symm,←hB]
 have HBB:=hid hB
 clear hB
 by_cases q1:x.slabs<1
 ·have HNIL:Hid (BgPs w x xs (.returned (.pointer none)) W1):=hid ⟨HB1.out,Or.inl ⟨rfl,fun h=>by have:=h.1;unfold LaOK at this;omega⟩⟩
  go_wp2
  go_ret
  exact HNIL.out
 by_cases q2:x.slabs>16
 ·have HNIL:Hid (BgPs w x xs (.returned (.pointer none)) W1):=hid ⟨HB1.out,Or.inl ⟨rfl,fun h=>by have:=h.1;unfold LaOK at this;omega⟩⟩
  go_wp2
  go_ret
  exact HNIL.out
 by_cases q3:40<m
 ·have p3:(m:Int)>40:=by omega
  have HNIL:Hid (BgPs w x xs (.returned (.pointer none)) W1):=hid ⟨HB1.out,Or.inl ⟨rfl,fun h=>by have:=h.1;unfold LaOK at this;have:=HH.out.1;omega⟩⟩
  go_wp2
  go_ret
  exact HNIL.out
 have n3: ¬(m:Int)>40:=by omega
 by_cases q4:x.per<2
 ·have HNIL:Hid (BgPs w x xs (.returned (.pointer none)) W1):=hid ⟨HB1.out,Or.inl ⟨rfl,fun h=>by have:=h.1;unfold LaOK at this;omega⟩⟩
  go_wp2
  go_ret
  exact HNIL.out
 by_cases q5:x.per>8
 ·have HNIL:Hid (BgPs w x xs (.returned (.pointer none)) W1):=hid ⟨HB1.out,Or.inl ⟨rfl,fun h=>by have:=h.1;unfold LaOK at this;omega⟩⟩
  go_wp2
  go_ret
  exact HNIL.out
 by_cases q6:x.lag<0
 ·have HNIL:Hid (BgPs w x xs (.returned (.pointer none)) W1):=hid ⟨HB1.out,Or.inl ⟨rfl,fun h=>by have:=h.1;unfold LaOK at this;omega⟩⟩
  go_wp2
  go_ret
  exact HNIL.out
 by_cases q7:x.lag>20
 ·have HNIL:Hid (BgPs w x xs (.returned (.pointer none)) W1):=hid ⟨HB1.out,Or.inl ⟨rfl,fun h=>by have:=h.1;unfold LaOK at this;omega⟩⟩
  go_wp2
  go_ret
  exact HNIL.out
 have HOK:Hid (LaOK x xs):=hid (by have h1:=HH.out.1;unfold LaOK;omega)
 clear q3
 go_upto_region 3 with fail
 obtain⟨sl,hsl⟩: ∃sl:Nat,x.slabs=(sl:Int):=⟨x.slabs.toNat,by omega⟩
 obtain⟨pe,hpe⟩: ∃pe:Nat,x.per=(pe:Int):=⟨x.per.toNat,by omega⟩
 obtain⟨lg,hlg⟩: ∃lg:Nat,x.lag=(lg:Int):=⟨x.lag.toNat,by omega⟩
 rw[hsl] at c0
 rw[hpe] at c2
 rw[hlg] at c3
 have HSL:=hid (⟨by rw[hsl];exact Int.toNat_natCast _,by rw[hpe];exact Int.toNat_natCast _,by rw[hlg];exact Int.toNat_natCast _,(by have:=HOK.out;unfold LaOK at this;omega:1≤sl∧sl≤16∧2≤pe∧pe≤8∧lg≤20)⟩:x.slabs.toNat=sl∧x.per.toNat=pe∧x.lag.toNat=lg∧1≤sl∧sl≤16∧2≤pe∧pe≤8∧lg≤20)
 have hm40:m≤40:=by omega
 have RKL:Hid ((risKeys xs).length≤40):=hid (by unfold risKeys;rw[List.length_map];have:=risTo_len xs xs.length;have:=HH.out.1;omega)
 have RZ:=hid (fun W (hb:Below W1.heap.size W1 W)=>Rising_z xs 40 (.slice ka m kc) (by have:=HH.out.1;omega) (by omega) W (HKA.out.bel (bx HB1.out hb)))
 have BZ:=hid (fun(W:World) (v:Value) (hb:Below W1.heap.size W1 W) (hv:NumsAt .u64 W v (risTo xs xs.length))=>ABuild_t sl pe lg (risKeys xs) v HSL.out.2.2.2.1 (by have:=HSL.out;omega) (by have:=RKL.out;omega) (risKeys_rise HH.out.2).2 HSL.out.2.2.2.2.2.1 HSL.out.2.2.2.2.2.2.1 (by have:=HSL.out;omega) W (by
  rw[ris_cast HH.out.2];exact hv))
 clear q1 q2 n3 q4 q5 q6 q7 hsl hpe hlg
 go_cut [3] from 5 to 48 (fun v wd=>Hid (Below W1.heap.size W1 wd∧(v= .pointer none∧BldNo sl (risKeys xs) pe lg∨ ∃g b n R lv rows,v= .pointer (some ⟨g,0,none⟩)∧W1.heap.size≤g∧W1.heap.size≤b∧ArIs wd g b n R lv∧LvsA wd W1.heap.size lv rows∧BuildOK sl (risKeys xs) pe lg R rows)))
 case first=>
  go_region_held3 (fun X=>X.cell? ⟨B,0,none⟩=some (.int .i64 (sl:Int))∧X.cell? ⟨B,1,none⟩=some (.slice ka m kc)∧X.cell? ⟨B,2,none⟩=some (.int .i64 (pe:Int))∧X.cell? ⟨B,3,none⟩=some (.int .i64 (lg:Int))) (go_keep) (first
   | (go_at_call 40;refine(RZ.out _ (by(repeat(first | exact Below.refl _ _ | (refine ba ?_ _) | (refine Below.drew ?_) | (refine below_drewN ?_ _) | (refine Below.alloc ?_ (by first | omega | (simp;done) | (simp;omega)) _) | (refine Below.setCell ?_ (by first | omega | (simp;done) | (simp;omega)) _) | (refine bx ?_ (by assumption)) | (refine Below.trans ?_ (Below.mono (by assumption) (by first | omega | (simp;done) | (simp;omega)))))))).mono ?_;rintro e v1 ⟨hb,v,j,rfl,hj1,hj2,hj3,hrow⟩;(have hj:j=xs.length:=by have h8:=risTo_len xs j;have h9:=HH.out.1;omega);subst hj;have hB1:Below W1.heap.size W1 v1:=bx (by(repeat(first | exact Below.refl _ _ | (refine ba ?_ _) | (refine Below.drew ?_) | (refine below_drewN ?_ _) | (refine Below.alloc ?_ (by first | omega | (simp;done) | (simp;omega)) _) | (refine Below.setCell ?_ (by first | omega | (simp;done) | (simp;omega)) _) | (refine bx ?_ (by assumption)) | (refine Below.trans ?_ (Below.mono (by assumption) (by first | omega | (simp;done) | (simp;omega))))))) hb;have HBV:=hid hB1;have d1:v1.cell? ⟨B,1,none⟩=some (.slice ka m kc):=(hB1.cell (p:=⟨B,1,none⟩) (World.block_lt_of_cell? W1 _ c1)).trans c1;obtain⟨va,vc,rfl⟩:=row_form1 hrow;have HNA:=hid (NumsAt.of_own hrow);have d0:v1.cell? ⟨B,0,none⟩=some (.int .i64 (sl:Int)):=(hB1.cell (p:=⟨B,0,none⟩) (World.block_lt_of_cell? W1 _ c0)).trans c0;have d2:v1.cell? ⟨B,2,none⟩=some (.int .i64 (pe:Int)):=(hB1.cell (p:=⟨B,2,none⟩) (World.block_lt_of_cell? W1 _ c2)).trans c2;have d3:v1.cell? ⟨B,3,none⟩=some (.int .i64 (lg:Int)):=(hB1.cell (p:=⟨B,3,none⟩) (World.block_lt_of_cell? W1 _ c3)).trans c3;clear hb hrow hB1 hj1 hj2 hj3)
   | (go_at_call 39;refine(BZ.out _ _ (by first | exact HBV.out | exact HBV.out.drew) (by first | exact HNA.out | exact HNA.out.bel ⟨rfl,rfl,rfl,Nat.le_refl _,fun _ _=>rfl⟩)).mono ?_;intro e w9 h9;obtain⟨v9,rfl,hp9⟩:=bld_val (by first | exact HBV.out | exact HBV.out.drew) h9;have f0:w9.cell? ⟨B,0,none⟩=some (.int .i64 (sl:Int)):=(hp9.1.cell (p:=⟨B,0,none⟩) (World.block_lt_of_cell? W1 _ c0)).trans c0;have f1:w9.cell? ⟨B,1,none⟩=some (.slice ka m kc):=(hp9.1.cell (p:=⟨B,1,none⟩) (World.block_lt_of_cell? W1 _ c1)).trans c1;have f2:w9.cell? ⟨B,2,none⟩=some (.int .i64 (pe:Int)):=(hp9.1.cell (p:=⟨B,2,none⟩) (World.block_lt_of_cell? W1 _ c2)).trans c2;have f3:w9.cell? ⟨B,3,none⟩=some (.int .i64 (lg:Int)):=(hp9.1.cell (p:=⟨B,3,none⟩) (World.block_lt_of_cell? W1 _ c3)).trans c3;have HP9:=hid hp9;clear h9 hp9))
  go_wp2
  go_meet
  exact HP9
 case rest=>
  obtain⟨hb9,hv9⟩:=hcut.out
  have HBW:Hid (Below w.heap.size w wc):=hid (bx HB1.out hb9)
  rcases hv9 with⟨rfl,hno⟩ | ⟨g,b,n,R,lv,rows,rfl,hg,hbb,hA,hV,hBO⟩
  ·have HF:Hid (BgPs w x xs (.returned (.pointer none)) wc):=hid ⟨HBW.out,Or.inl ⟨rfl,fun h=>h.2 (by rw[HSL.out.1,HSL.out.2.1,HSL.out.2.2.1];exact hno)⟩⟩
   clear hcut hb9 hno
   go_wp2
   go_ret
   exact HF.out
  ·obtain⟨rk1,rk2⟩:=risKeys_rise HH.out.2
   obtain⟨K,hBu,hrows⟩:=build_built hBO HSL.out.2.2.2.1 (by have:=HSL.out;omega) (by have:=RKL.out;omega) rk2 rk1 HSL.out.2.2.2.2.2.1 HSL.out.2.2.2.2.2.2.1
   have hn:n=R.bs.length:=hA.ln
   have hn1:=hA.big
   have OZ:=hid (Over_z sl R.bs (by have:=HSL.out;omega) hBu.len hBu.toBase.toCore.heads (some ⟨b,0,none⟩) n (by omega) wc (bytesIn_blk hA.by' hA.byt (by omega)))
   have cg:wc.cell? ⟨g,0,none⟩=some (.slice (some ⟨b,0,none⟩) n n):=hA.blk.cell 0
   have hsz:=HB1.out.size
   have HAR:=hid (⟨hA,(by obtain⟨vs,v1,v2,v3⟩:=hV;exact⟨vs,v1,own_less v2 hsz,fun i row hi=>by obtain⟨v,z1,z2,z3⟩:=v3 i row hi;exact⟨v,z1,z2,own_less z3 hsz⟩⟩:LvsA wc w.heap.size lv rows),hBu,hrows,(by omega:w.heap.size≤g∧w.heap.size≤b),hBO⟩:_∧_∧_∧_∧_∧_)
   rw[←hn] at OZ
   clear hcut hb9 hg hbb hA hV hBO rk1 rk2 hBu hrows hn hn1 hsz c0 c1 c2 c3
   go_wp2_with fail
   refine OZ.out.mono ?_
   rintro e w5 ⟨N1,si,m,MB,S,size,wb,gs,sp,rfl,hO,hg4⟩
   have c5:w5.cell? ⟨wb,0,none⟩=some (.pointer none):=hO.blk.cell 0
   have f5:w5.frozen? ⟨wb,0,none⟩=false:=hO.blk.frozen 0
   have HO:=hid (⟨hO,hg4⟩:_∧_)
   clear hO hg4 cg
   go_wp2
   go_ret
   obtain⟨hO,hg4⟩:=HO.out
   obtain⟨hA,hV,hBu,hrows,hlo,hBO⟩:=HAR.out
   obtain⟨hO2,ho⟩:=hO.arena (ptrV g)
   have hbl:=HBW.out.size
   have hgl:g<wc.heap.size:=hA.blk.lt
   have hbl2:b<wc.heap.size:=hA.by'.lt
   have hwb:wc.heap.size≤wb:=by have:=hO.lo;omega
   refine⟨HBW.out.trans (hO2.bel.mono hbl),Or.inr ⟨wb,g,b,n,R,lv,rows,K,si,m,MB,rfl,?_⟩⟩
   refine⟨?_,⟨w.heap.size,?_⟩,(by rw[HSL.out.1,HSL.out.2.1,HSL.out.2.2.1];exact hBO),HOK.out,?_,?_,⟨wc,N1,S,size,gs,sp,?_,hg4,hgl,hbl2,hbl⟩,hlo⟩
   ·have h5:=hA.bel hO.bel
    exact⟨ho.blk h5.blk (by simp;omega),ho.blk h5.by' (by simp;omega),hA.ln,hA.big,hA.byt⟩
   ·exact(hV.only (Only.of_below hO.bel []) (by simp)).only ho (fun k hk=>by simp at hk;subst hk;exact Or.inr ⟨_,_,hO.blk,by decide,by decide⟩)
   ·rw[HSL.out.1,HSL.out.2.1,HSL.out.2.2.1];exact hBu
   ·rw[HSL.out.2.1,HSL.out.2.2.1];exact hrows
   ·rw[HSL.out.1];exact hO2
theorem WorIs.less {N0 N1:Nat} {W:World} {x:La} {xs:List Int} {wb g b nb:Nat} {R:AR} {lv:Value} {rows:List (List (Nat×NodeA))} {K si m:Nat} {MB:MB} (h:WorIs N0 W x xs wb g b nb R lv rows K si m MB) (hN:N1≤N0):WorIs N1 W x xs wb g b nb R lv rows K si m MB:=by
 obtain⟨wc,n1,S,size,gs,sp,q1,q2,q3,q4,q5⟩:=h.ov
 exact⟨h.ar,h.lvs,h.bld,h.ok,h.built,h.rws,⟨wc,n1,S,size,gs,sp,q1,q2,q3,q4,by omega⟩,by have:=h.lo;omega⟩
def SmPs (w:World) (e:Ending) (w':World):Prop:=
 Below w.heap.size w w'∧ ∃wb g b nb R lv rows K si m MB,e= .returned (ptrV wb)∧WorIs w.heap.size w' ⟨2,4,0⟩ [5] wb g b nb R lv rows K si m MB
theorem ris5:risKeys [5]=[5]:=by kernel_rfl
theorem Small_z (w:World):Calls Tryz.prog 42 #[] w (SmPs w):=by
 obtain⟨W1,hW1⟩: ∃W1,W1=w.alloc (.cells #[.int .u64 5] 25):=⟨_,rfl⟩
 have hb1:Below w.heap.size w W1:=by rw[hW1];exact ba (Below.refl _ _) _
 have k1:Blk W1 w.heap.size 25 #[.int .u64 5]:=by rw[hW1];exact Blk.new _ _ _
 have hn:NumsAt .u64 W1 (.slice (some ⟨w.heap.size,0,none⟩) 1 1) [5]:=⟨_,1,rfl,Or.inr ⟨w.heap.size,0,rfl,k1.lt,fun i x hx=>by
  cases i with
  | zero=>simp at hx;subst hx;exact k1.cell 0
  | succ i=>simp at hx⟩⟩
 have BZ:Calls Tryz.prog 9 #[.agg #[.int .i64 2,.slice (some ⟨w.heap.size,0,none⟩) 1 1,.int .i64 4,.int .i64 0]] W1 fun e w'=>BgPs W1 ⟨2,4,0⟩ [5] e w':=Begin_z ⟨2,4,0⟩ _ [5] (fun y hy=>by simp at hy;subst hy;unfold U64;omega) (by simp) (by show I64 2∧I64 4∧I64 0;unfold I64;omega) W1 hn
 have BZ:=hid BZ
 have HW1:=hid hW1
 have HB1:=hid hb1
 clear hW1 hb1 k1 hn
 go_enter Tryz.func42,Tryz.ntmps42
 go_wp2_with fail
 rw[show _=W1 from HW1.out.symm]
 refine BZ.out.mono ?_
 rintro e w2 ⟨hb2,(⟨_,hno⟩ | ⟨wb,g,b,nb,R,lv,rows,K,si,m,MB,rfl,hW⟩)⟩
 ·exact absurd ⟨⟨by decide,by decide,by decide,by decide,by decide,by decide,by decide⟩,by rw[ris5];exact bld_small⟩ hno
 have H2:=hid (⟨bx HB1.out hb2,hW.less HB1.out.size⟩:_∧_)
 clear hb2 hW
 go_wp2
 go_ret
 exact⟨H2.out.1,wb,g,b,nb,R,lv,rows,K,si,m,MB,rfl,H2.out.2⟩
end Go.Proofs.YtjmaicckkkdjpaaGreat
