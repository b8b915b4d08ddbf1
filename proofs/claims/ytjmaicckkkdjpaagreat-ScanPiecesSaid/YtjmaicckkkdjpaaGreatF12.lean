import Derived.Test.YtjmaicckkkdjpaaGreatF11
import Derived.DeepKeys
/- A snapshot: its comparison, Low of the next one, its end; a new one; Step; what it tells. -/
set_option maxRecDepth 100000
set_option maxHeartbeats 1000000
set_option linter.unusedVariables false
set_option linter.unusedSimpArgs false
namespace Go.Proofs.YtjmaicckkkdjpaaGreat
open Go.RowKit
theorem wf_u64g {x:Int} (h:U64 x):(Lit.int .u64 x).wf=true:=by
 unfold U64 at h
 simp[Lit.wf,IntKind.min,IntKind.max,IntKind.signed,IntKind.bits]
 omega
theorem kl_u64g {x:Int} (h:U64 x) (d:Nat):Tryz.prog.keyLits (d+1) 25 [.int .u64 x]=some [.int .u64 x]:=by
 unfold Program.keyLits
 rw[Tryz.underlying25]
 simp[wf_u64g h]
theorem range24:List.range 24=[0,1,2,3,4,5,6,7,8,9,10,11,12,13,14,15,16,17,18,19,20,21,22,23]:=rfl
theorem kl_arr24 {f:Nat→Int} (h: ∀i,U64 (f i)) (d:Nat):Tryz.prog.keyLits (d+2) 179 [.int .u64 (f 0),.int .u64 (f 1),.int .u64 (f 2),.int .u64 (f 3),.int .u64 (f 4),.int .u64 (f 5),.int .u64 (f 6),.int .u64 (f 7),.int .u64 (f 8),.int .u64 (f 9),.int .u64 (f 10),.int .u64 (f 11),.int .u64 (f 12),.int .u64 (f 13),.int .u64 (f 14),.int .u64 (f 15),.int .u64 (f 16),.int .u64 (f 17),.int .u64 (f 18),.int .u64 (f 19),.int .u64 (f 20),.int .u64 (f 21),.int .u64 (f 22),.int .u64 (f 23)]=some [.int .u64 (f 0),.int .u64 (f 1),.int .u64 (f 2),.int .u64 (f 3),.int .u64 (f 4),.int .u64 (f 5),.int .u64 (f 6),.int .u64 (f 7),.int .u64 (f 8),.int .u64 (f 9),.int .u64 (f 10),.int .u64 (f 11),.int .u64 (f 12),.int .u64 (f 13),.int .u64 (f 14),.int .u64 (f 15),.int .u64 (f 16),.int .u64 (f 17),.int .u64 (f 18),.int .u64 (f 19),.int .u64 (f 20),.int .u64 (f 21),.int .u64 (f 22),.int .u64 (f 23)]:=by
 have c1:Tryz.prog.cellsOf 179=24:=by kernel_rfl
 have c2:Tryz.prog.cellsOf 25=1:=by kernel_rfl
 unfold Program.keyLits
 rw[Tryz.underlying179]
 simp[c1,c2,range24,kl_u64g (h _)]
theorem neq24 {f g:Nat→Int} (hf: ∀i,U64 (f i)) (hg: ∀i,U64 (g i)) (w:World):(binOp .neq 179 (.agg (wordsC f)) (.agg (wordsC g))).run Tryz.prog w= .ok (.bool (!eq24 f g)) w:=by
 obtain⟨r,q1,q2⟩:=run_equalIn_deep (P:=Tryz.prog) (Op.maxDepth-8) 8 179 (by kernel_rfl) w 8 8 (.agg (wordsC f)) (.agg (wordsC g)) _ _ (by kernel_rfl) (by kernel_rfl) (kl_arr24 hf 6) (kl_arr24 hg 6)
 have hr:r=eq24 f g:=by
  have h1:r=true↔eq24 f g=true:=by
   rw[q2]
   unfold eq24
   rw[range24]
   simp
  cases r<;>cases h:eq24 f g<;>simp_all
 subst hr
 have q3:(Op.equal 179 (.agg (wordsC f)) (.agg (wordsC g))).run Tryz.prog w= .ok (eq24 f g) w:=q1
 simp[binOp,q3,go_sem]
def nqR24 (P:Program) (a b:Value) (w:World):Result Value:=(binOp .neq 179 a b).run P w
def nqM24 (a b:Value):Sem Value:=binOp .neq 179 a b
theorem nqM24_run (P:Program) (a b:Value) (w:World):(nqM24 a b).run P w=nqR24 P a b w:=rfl
theorem arrNeq (a b:Value):binOp .neq 179 a b=nqM24 a b:=rfl
attribute [local go_sem ↓ high] arrLoadS arrStoreS nodeLoadAt nodeStoreAt arrNeq
attribute [local go_sem] ldM_run stM_run Oper.semAt_some run_store_fnG nqM24_run
theorem SBound_z (m s:Nat) (B:MB) (M:MemS) (x:SnP) (hx:x.f=2) (hok:x.OK M.view) (w:World) (hm:MemIs w m B M) (hs:SnIs w m s x) (ha:s∉footM m B M):
  Calls Tryz.prog 204 #[ptrV s] w (SnPost m s B M (x.got (wdV M.view x.adr)) w):=by
 obtain⟨q1,q2,q3,q4,q5,q6,q7,q8⟩:=hok
 have hadr:x.adr=x.a 2+8*((1:Nat):Int):=by unfold SnP.adr;rw[if_neg (by omega),if_pos hx];rfl
 have ha2:0≤x.a 2∧x.a 2≤1099511627776:=by
  have h1:=(q7 2).1
  have h2:=q1
  have h3:=hm.big
  unfold U64 at h1
  unfold inV at h2
  rw[hadr] at h2
  omega
 have LZ:=hid (Load_a m B M _ q1 w.drew (hm.only ((Only.refl [] w).drew) (by simp)))
 obtain⟨X,hX⟩: ∃X,X=wdV M.view x.adr:=⟨_,rfl⟩
 rw[←hX] at LZ ⊢
 rw[hadr] at LZ
 have WZ:=fun W=>hid (Word_s (x.a 2) 1 ha2 (by omega) W)
 have z0:w.drew.cell? ⟨s,0,none⟩=some (ptrV m):=hs.cell 0
 have z1:w.drew.cell? ⟨s,6,none⟩=some (.int .u64 (x.a 2)):=hs.cell 6
 have hsm:s≠m:=fun e=>ha (by rw[e];simp[footM])
 have KF:Hid (∀W,Lded w.drew W m B M [m]→W.cell? ⟨s,0,none⟩=some (ptrV m)∧W.cell? ⟨s,6,none⟩=some (.int .u64 (x.a 2))∧SnIs W m s x):=by
  intro W hW
  obtain⟨_,_,_,_,_,_,ho⟩:=hW
  have hb:SnIs W m s x:=ho.blk hs.drew (by simpa using hsm)
  exact⟨hb.cell 0,hb.cell 6,hb⟩
 have hg:x.got X={ x with high:=X,has:=true,f:=3 }:=by unfold SnP.got;rw[if_neg (by omega),if_neg (by omega),if_pos hx]
 rw[hg]
 have HX:=hid (⟨q5,q6⟩:_∧_)
 have HA:=hid ha
 clear hs hm ha hsm q1 q2 q3 q4 q5 q6 q7 q8 hX hadr hg hx ha2
 go_enter Tryz.func204,Tryz.ntmps204
 go_upto_region 1 with fail
 go_region_held3 (fun W=>W.cell? ⟨s,0,none⟩=some (ptrV m)∧W.cell? ⟨s,6,none⟩=some (.int .u64 (x.a 2))) (go_keep)
  (first | (go_at_call 199;refine(WZ _).out.mono ?_;rintro e w1 ⟨rfl,rfl⟩) | (go_at_call 152;refine LZ.out.mono ?_;rintro e w1 ⟨rfl,hL⟩;obtain⟨x0,x1,hb⟩:=KF.out w1 hL;have HL:=hid hL;have HB:=hid hb;clear hL hb))
 have k4:w1.cell? ⟨s,52,none⟩=some (.int .u64 x.high):=HB.out.cell 52
 have k5:w1.cell? ⟨s,53,none⟩=some (.bool x.has):=HB.out.cell 53
 have f4:=HB.out.frozen 52
 have f5:=HB.out.frozen 53
 have k6:w1.cell? ⟨s,54,none⟩=some (fnV (snFn x.f) s):=HB.out.cell 54
 have f6:=HB.out.frozen 54
 clear x0 x1 z0 z1
 go_wp2_with fail
 go_ret2
 refine⟨by show _=Ending.returned (.tuple #[.bool x.over,_]);rw[HX.out.1];rfl,Lded.only (HL.out.drew.mono (g:=[s,m]) (by simp)) (g:=[s]) ?_ ?_,?_⟩
 ·exact(by repeat(first | exact Only.refl _ _ | (refine Only.drew ?_) | (refine Only.drewN ?_ _) | (refine Only.setCell ?_ (Or.inl (by simp)) _) | (refine Only.alloc ?_ _)))
 ·exact fun y hy=>⟨Or.inl (by simp at hy;simp[hy]),by simp at hy;subst hy;exact HA.out⟩
 ·have h:=((HB.out.set_ 52 (.int .u64 X)).set_ 53 (.bool true)).set_ 54 (fnV (snFn 3) s)
  have e:({ x with high:=X,has:=true,f:=3,over:=false,e:=0 }:SnP)={ x with high:=X,has:=true,f:=3 }:=by rw[HX.out.1,HX.out.2]
  show SnIs _ m s { x with high:=X,has:=true,f:=3,over:=false,e:=0 }
  rw[e]
  exact h
theorem SAgain_z (m s:Nat) (B:MB) (M:MemS) (x:SnP) (hx:x.f=3) (hok:x.OK M.view) (hE:(x.got (wdV M.view x.adr)).e=0) (w:World) (hm:MemIs w m B M) (hs:SnIs w m s x) (ha:s∉footM m B M):
  Calls Tryz.prog 205 #[ptrV s] w (SnPost m s B M (x.got (wdV M.view x.adr)) w):=by
 obtain⟨q1,q2,q3,q4,q5,q6,q7,q8⟩:=hok
 have hadr:x.adr=x.at'+8*((3:Nat):Int):=by unfold SnP.adr;rw[if_neg (by omega),if_neg (by omega)];rfl
 have LZ:=hid (Load_a m B M _ q1 w.drew (hm.only ((Only.refl [] w).drew) (by simp)))
 obtain⟨X,hX⟩: ∃X,X=wdV M.view x.adr:=⟨_,rfl⟩
 rw[←hX] at LZ hE ⊢
 rw[hadr] at LZ
 have WZ:=fun W=>hid (Word_s x.at' 3 q2 (by omega) W)
 have z0:w.drew.cell? ⟨s,0,none⟩=some (ptrV m):=hs.cell 0
 have z1:w.drew.cell? ⟨s,1,none⟩=some (.int .u64 x.at'):=hs.cell 1
 have hsm:s≠m:=fun e=>ha (by rw[e];simp[footM])
 have KF:Hid (∀W,Lded w.drew W m B M [m]→W.cell? ⟨s,0,none⟩=some (ptrV m)∧W.cell? ⟨s,1,none⟩=some (.int .u64 x.at')∧SnIs W m s x):=by
  intro W hW
  obtain⟨_,_,_,_,_,_,ho⟩:=hW
  have hb:SnIs W m s x:=ho.blk hs.drew (by simpa using hsm)
  exact⟨hb.cell 0,hb.cell 1,hb⟩
 have NQ:=fun W=>neq24 (fun i=>(q7 i).1) (fun i=>(q7 i).2) W
 obtain⟨Y,hY⟩: ∃Y,Y=x.got X:=⟨_,rfl⟩
 rw[←hY] at hE ⊢
 have hg:Y=if X≠x.a 3∨eq24 x.a x.b=false then x.anew else{ x with nd:=(nodeE x.a).1,over:=true,e:=(nodeE x.a).2 }:=by
  rw[hY]
  unfold SnP.got
  rw[if_neg (by omega),if_neg (by omega),if_neg (by omega)]
 have HU:=hid (fun i=>(q7 i).1: ∀i,U64 (x.a i))
 have HX:=hid (⟨q5,q6⟩:_∧_)
 have HA:=hid ha
 have HG:=hid hg
 have HE:=hid hE
 clear hs hm ha hsm q1 q2 q3 q4 q5 q6 q7 q8 hX hadr hg hx hY hE
 go_enter Tryz.func205,Tryz.ntmps205
 go_upto_region 1 with fail
 go_region_held3 (fun W=>W.cell? ⟨s,0,none⟩=some (ptrV m)∧W.cell? ⟨s,1,none⟩=some (.int .u64 x.at')) (go_keep)
  (first | (go_at_call 199;refine(WZ _).out.mono ?_;rintro e w1 ⟨rfl,rfl⟩) | (go_at_call 152;refine LZ.out.mono ?_;rintro e w1 ⟨rfl,hL⟩;obtain⟨x0,x1,hb⟩:=KF.out w1 hL;have HL:=hid hL;have HB:=hid hb;clear hL hb))
 have k4:w1.cell? ⟨s,7,none⟩=some (.int .u64 (x.a 3)):=HB.out.cell 7
 have lda:=fun k=>SnV.lda (HB.out.drewN k)
 have ldb:=fun k=>SnV.ldb (HB.out.drewN k)
 clear x0 x1 z0 z1
 by_cases hne:X=x.a 3
 ·have bne:(X !=x.a 3)=false:=by simpa using hne
  have NQ2: ∀W,nqR24 Tryz.prog (.agg (wordsC x.a)) (.agg (wordsC x.b)) W= .ok (.bool (!eq24 x.a x.b)) W:=NQ
  clear NQ
  cases heq:eq24 x.a x.b with
  | false=>
   have HG2:=hid (HG.out.trans (if_pos (Or.inr heq)))
   have NQ3: ∀W,nqR24 Tryz.prog (.agg (wordsC x.a)) (.agg (wordsC x.b)) W= .ok (.bool true) W:=fun W=>by rw[NQ2,heq];rfl
   clear NQ2 heq hne
   go_upto_region 4 with fail
   go_quiet (fail)
   go_wp2_with fail
   refine(SAnew_z m s _ _ (w1.drewN nq) (HB.out.drewN nq)).mono ?_
   rintro e w2 ⟨rfl,hb2,ho2⟩
   have HB2:=hid hb2
   have HO2:=hid ho2
   clear hb2 ho2
   go_wp2_with fail
   go_ret2
   rw[HG2.out]
   refine⟨by show _=Ending.returned (.tuple #[.bool x.over,_]);rw[HX.out.1];rfl,Lded.only (HL.out.drew.mono (g:=[s,m]) (by simp)) (g:=[s]) (((Only.refl _ _).drewN nq).trans HO2.out (fun y hy=>Or.inl hy)) (fun y hy=>⟨Or.inl (by simp at hy;simp[hy]),by simp at hy;subst hy;exact HA.out⟩),?_⟩
   have e:({ x.anew with over:=false,e:=0 }:SnP)=x.anew:=by rw[show({ x.anew with over:=false,e:=0 }:SnP)={ x.anew with over:=x.over,e:=x.e } by rw[HX.out.1,HX.out.2]];rfl
   show SnIs _ m s { x.anew with over:=false,e:=0 }
   rw[e]
   exact HB2.out
  | true=>
   have HG2:=hid (HG.out.trans (if_neg (by rw[heq,hne];simp)))
   have NQ3: ∀W,nqR24 Tryz.prog (.agg (wordsC x.a)) (.agg (wordsC x.b)) W= .ok (.bool false) W:=fun W=>by rw[NQ2,heq];rfl
   have ht:tagN≤x.a 0∧x.a 0≤tagN+15:=by
    apply Classical.byContradiction
    intro hn
    have h1:=HE.out
    rw[HG2.out] at h1
    have h2:(nodeE x.a).2=0:=h1
    unfold nodeE at h2
    rw[if_neg hn] at h2
    cases h2
   have hnE:nodeE x.a=(nodeOf x.a,0):=by unfold nodeE;rw[if_pos ht]
   have OF:=fun W=>hid (NOf_z x.a W HU.out ht)
   have HN:=hid hnE
   clear NQ2 heq hne ht hnE
   go_upto_region 4 with fail
   go_quiet (fail)
   go_wp2_with fail
   refine(OF _).out.mono ?_
   rintro e w2 ⟨rfl,hb2⟩
   have hB2:SnIs w2 m s x:=(HB.out.drewN nq).bel hb2
   obtain⟨W3,h3,k3,o3⟩:=SnV.stn hB2 (nodeOf x.a)
   have HO:=hid ((((Only.refl [s] w1).drewN nq).trans (Only.of_below hb2 [s]) (fun y hy=>Or.inl hy)).trans o3 (fun y hy=>Or.inl hy))
   have HK:=hid k3
   clear hb2 hB2 k3 o3
   go_wp2_with fail
   go_ret2
   rw[HG2.out,HN.out]
   refine⟨rfl,Lded.only (HL.out.drew.mono (g:=[s,m]) (by simp)) (g:=[s]) HO.out (fun y hy=>⟨Or.inl (by simp at hy;simp[hy]),by simp at hy;subst hy;exact HA.out⟩),?_⟩
   have e:({ x with nd:=nodeOf x.a,over:=false,e:=0 }:SnP)={ x with nd:=nodeOf x.a }:=by rw[show({ x with nd:=nodeOf x.a,over:=false,e:=0 }:SnP)={ x with nd:=nodeOf x.a,over:=x.over,e:=x.e } by rw[HX.out.1,HX.out.2]]
   show SnIs _ m s { x with nd:=nodeOf x.a,over:=false,e:=0 }
   rw[e]
   exact HK.out
 ·have bne:(X !=x.a 3)=true:=by simpa using hne
  have HG2:=hid (HG.out.trans (if_pos (Or.inl hne)))
  clear NQ hne
  go_upto_region 4 with fail
  go_quiet (fail)
  go_wp2_with fail
  refine(SAnew_z m s _ _ (w1.drewN nq) (HB.out.drewN nq)).mono ?_
  rintro e w2 ⟨rfl,hb2,ho2⟩
  have HB2:=hid hb2
  have HO2:=hid ho2
  clear hb2 ho2
  go_wp2_with fail
  go_ret2
  rw[HG2.out]
  refine⟨by show _=Ending.returned (.tuple #[.bool x.over,_]);rw[HX.out.1];rfl,Lded.only (HL.out.drew.mono (g:=[s,m]) (by simp)) (g:=[s]) (((Only.refl _ _).drewN nq).trans HO2.out (fun y hy=>Or.inl hy)) (fun y hy=>⟨Or.inl (by simp at hy;simp[hy]),by simp at hy;subst hy;exact HA.out⟩),?_⟩
  have e:({ x.anew with over:=false,e:=0 }:SnP)=x.anew:=by rw[show({ x.anew with over:=false,e:=0 }:SnP)={ x.anew with over:=x.over,e:=x.e } by rw[HX.out.1,HX.out.2]];rfl
  show SnIs _ m s { x.anew with over:=false,e:=0 }
  rw[e]
  exact HB2.out
theorem snBuild (ps:Array (Nat×Value)):Instr.build 299 ps=bldMg 299 ps:=rfl
attribute [local go_sem ↓ high] snBuild
attribute [local go_sem] bldMg_run
theorem sn_bld (m:Nat) (a:Int) (W:World):bldRg Tryz.prog 299 #[(0,ptrV m),(1,.int .u64 a)] W= .ok (.agg (snpC m (snNew a) .nilFunc)) W:=by kernel_rfl
theorem SNew_s (m:Nat) (a:Int) (w:World):Calls Tryz.prog 180 #[ptrV m,.int .u64 a] w fun e w'=> ∃s,e= .returned (ptrV s)∧w.heap.size≤s∧SnIs w' m s (snNew a)∧Below w.heap.size w w':=by
 have HB:=fun W=>sn_bld m a W
 go_enter Tryz.func180,Tryz.ntmps180
 go_wp2_with fail
 refine(SAnew_z m w.heap.size (snNew a) .nilFunc _ (Blk.new w 299 _)).mono ?_
 rintro e w2 ⟨rfl,hb2,ho2⟩
 have hbe:Below w.heap.size w w2:=(ba (Below.refl _ _) _).trans (ho2.below (fun y hy=>by simp at hy;omega) (by rw[World.size_alloc];omega))
 have H2:=hid (⟨hb2,hbe⟩:_∧_)
 clear hb2 ho2 hbe HB
 go_wp2_with fail
 go_ret
 exact⟨_,rfl,Nat.le_refl _,H2.out.1,H2.out.2⟩
theorem neFnE (F t:Nat) (w:World):(binOp .eql 108 (fnV F t) .nilFunc).run Tryz.prog w= .ok (.bool false) w:=by kernel_rfl
theorem neFnEG (F t:Nat) (x y:Operand) (w:World):(eqGuard .eql 108 x y (fnV F t) .nilFunc).run Tryz.prog w= .ok () w:=by cases x<;>cases y<;>kernel_rfl
attribute [local go_sem] neFnE neFnEG
theorem snFn_enter (f:Nat) (args:Array Value) (W:World):(callFunc (snFn f) args).run Tryz.prog W= .ok (.enter (snFn f) args) W:=by
 unfold snFn
 split
 ·kernel_rfl
 split
 ·kernel_rfl
 split
 ·kernel_rfl
 ·kernel_rfl
structure SnOK (v:List Int) (x:SnP):Prop extends SnP.OK v x where
 ne:(x.got (wdV v x.adr)).e=0
theorem SPart_z (m s:Nat) (B:MB) (M:MemS) (x:SnP) (hok:SnOK M.view x) (w:World) (hm:MemIs w m B M) (hs:SnIs w m s x) (ha:s∉footM m B M):
  Calls Tryz.prog (snFn x.f) #[ptrV s] w (SnPost m s B M (x.got (wdV M.view x.adr)) w):=by
 have h3:=hok.f3
 rcases(by omega:x.f=0∨x.f=1∨x.f=2∨x.f=3) with h | h | h | h
 ·rw[h];exact SCounts_z m s B M x h hok.toOK w hm hs ha
 ·rw[h];exact SReads_z m s B M x h hok.toOK w hm hs ha
 ·rw[h];exact SBound_z m s B M x h hok.toOK w hm hs ha
 ·rw[h];exact SAgain_z m s B M x h hok.toOK hok.ne w hm hs ha
theorem SStep_s (m s:Nat) (B:MB) (M:MemS) (x:SnP) (hok:SnOK M.view x) (w:World) (hm:MemIs w m B M) (hs:SnIs w m s x) (ha:s∉footM m B M):
  Calls Tryz.prog 236 #[ptrV s] w fun e w'=>e= .returned (.tuple #[.bool (x.next M.view).over,.int .i64 0])∧Lded w w' m B M [s,m]∧SnIs w' m s (x.next M.view):=by
 obtain⟨Y,hY⟩: ∃Y,Y=x.got (wdV M.view x.adr):=⟨_,rfl⟩
 have hn:x.next M.view=Y:=by unfold SnP.next;rw[if_neg (by rw[hok.live];simp),hY]
 have PZ:=fun(W:World) (hm:MemIs W m B M) (hs:SnIs W m s x)=>SPart_z m s B M x hok W hm hs ha
 rw[←hY] at PZ
 rw[hn]
 have HYE:Hid (Y.e=0):=hid (by rw[hY];exact hok.ne)
 have SZ:=hid (Size_m m B M.view.length M.st hm.pos hm.big w hm.blk)
 have c8:w.cell? ⟨s,54,none⟩=some (fnV (snFn x.f) s):=hs.cell 54
 have c9:w.cell? ⟨s,55,none⟩=some (.bool false):=by rw[←hok.live];exact hs.cell 55
 have c0:w.cell? ⟨s,0,none⟩=some (ptrV m):=hs.cell 0
 have i1: ¬((8*M.view.length:Nat):Int)=0:=by have:=hm.pos;omega
 have b1:(((8*M.view.length:Nat):Int)==0)=false:=by simpa using i1
 have PZ:=hid (PZ w hm hs)
 have HA:=hid ha
 clear hs hm ha hok hn hY i1
 have EN:=snFn_enter x.f
 obtain⟨F,hF⟩: ∃F,F=snFn x.f:=⟨_,rfl⟩
 rw[←hF] at PZ c8 EN
 clear hF
 cases hd:Y.over with
 | false=>
  have HD:=hid hd
  clear hd
  go_enter Tryz.func236,Tryz.ntmps236
  go_wp2_with fail
  refine SZ.out.mono ?_
  rintro e w1 ⟨rfl,rfl⟩
  go_wp2_with fail
  refine PZ.out.mono ?_
  rintro e w1 ⟨he,hL,hb⟩
  rw[HD.out] at he
  subst he
  have k9:w1.cell? ⟨s,55,none⟩=some (.bool false):=hb.cell 55
  have k10:w1.cell? ⟨s,56,none⟩=some (.int .i64 0):=hb.cell 56
  have f9:=hb.frozen 55
  have f10:=hb.frozen 56
  have HL:=hid hL
  have HB:=hid hb
  clear hL hb SZ PZ c8 c9 c0
  go_upto_region 8 with fail
  go_region
  go_wp2_with fail
  go_ret2
  refine⟨rfl,Lded.only HL.out (g:=[s]) (by repeat(first | exact Only.refl _ _ | (refine Only.drew ?_) | (refine Only.drewN ?_ _) | (refine Only.setCell ?_ (Or.inl (by simp)) _) | (refine Only.alloc ?_ _))) (fun y hy=>⟨Or.inl (by simp at hy;simp[hy]),by simp at hy;subst hy;exact HA.out⟩),?_⟩
  have h:=(HB.out.set_ 55 (.bool false)).set_ 56 (.int .i64 0)
  have e:({ Y with over:=false,e:=0 }:SnP)=Y:=by
   have h1:=HD.out
   have h2:=HYE.out
   obtain⟨y1,y2,y3,y4,y5,y6,y7,y8,y9,y10,y11⟩:=Y
   simp only at h1 h2
   subst h1 h2
   rfl
  exact(show SnIs _ m s { Y with over:=false,e:=0 } from h) |>fun h=>by rw[e] at h;exact h
 | true=>
  have HD:=hid hd
  clear hd
  go_enter Tryz.func236,Tryz.ntmps236
  go_wp2_with fail
  refine SZ.out.mono ?_
  rintro e w1 ⟨rfl,rfl⟩
  go_wp2_with fail
  refine PZ.out.mono ?_
  rintro e w1 ⟨he,hL,hb⟩
  rw[HD.out] at he
  subst he
  have k9:w1.cell? ⟨s,55,none⟩=some (.bool false):=hb.cell 55
  have k10:w1.cell? ⟨s,56,none⟩=some (.int .i64 0):=hb.cell 56
  have f9:=hb.frozen 55
  have f10:=hb.frozen 56
  have HL:=hid hL
  have HB:=hid hb
  clear hL hb SZ PZ c8 c9 c0
  go_upto_region 8 with fail
  go_region
  go_wp2_with fail
  go_ret2
  refine⟨rfl,Lded.only HL.out (g:=[s]) (by repeat(first | exact Only.refl _ _ | (refine Only.drew ?_) | (refine Only.drewN ?_ _) | (refine Only.setCell ?_ (Or.inl (by simp)) _) | (refine Only.alloc ?_ _))) (fun y hy=>⟨Or.inl (by simp at hy;simp[hy]),by simp at hy;subst hy;exact HA.out⟩),?_⟩
  have h:=(HB.out.set_ 55 (.bool true)).set_ 56 (.int .i64 0)
  have e:({ Y with over:=true,e:=0 }:SnP)=Y:=by
   have h1:=HD.out
   have h2:=HYE.out
   obtain⟨y1,y2,y3,y4,y5,y6,y7,y8,y9,y10,y11⟩:=Y
   simp only at h1 h2
   subst h1 h2
   rfl
  exact(show SnIs _ m s { Y with over:=true,e:=0 } from h) |>fun h=>by rw[e] at h;exact h
end Go.Proofs.YtjmaicckkkdjpaaGreat
