import Derived.Test.YtjmaicckkkdjpaaGreatF09
/- What a snapshot's functions do. -/
set_option maxRecDepth 100000
set_option maxHeartbeats 1000000
set_option linter.unusedVariables false
set_option linter.unusedSimpArgs false
namespace Go.Proofs.YtjmaicckkkdjpaaGreat
open Go.RowKit
attribute [local go_sem ↓ high] arrLoadS arrStoreS nodeLoadAt nodeStoreAt
attribute [local go_sem] ldM_run stM_run Oper.semAt_some run_store_fnG
theorem SAnew_z (m s:Nat) (x:SnP) (fv:Value) (w:World) (hs:SnV w m s x fv):Calls Tryz.prog 187 #[ptrV s] w fun e w'=>e= .returned (.tuple #[])∧SnIs w' m s x.anew∧Only [s] w w':=by
 obtain⟨W1,h1,k1,o1⟩:=hs.sta zeroF
 obtain⟨W2,h2,k2,o2⟩:=k1.stb zeroF
 have c53:W2.cell? ⟨s,53,none⟩=some (.bool x.has):=k2.cell 53
 have c52:W2.cell? ⟨s,52,none⟩=some (.int .u64 x.high):=k2.cell 52
 have c2:W2.cell? ⟨s,2,none⟩=some (.int .i64 x.k):=k2.cell 2
 have c3:W2.cell? ⟨s,3,none⟩=some (.bool x.last):=k2.cell 3
 have c54:W2.cell? ⟨s,54,none⟩=some fv:=k2.cell 54
 have f53:=k2.frozen 53
 have f52:=k2.frozen 52
 have f2:=k2.frozen 2
 have f3:=k2.frozen 3
 have f54:=k2.frozen 54
 simp only[wordsC,zeroF] at h1 h2
 have K2:=hid k2
 have O2:=hid (o1.trans o2 (fun y hy=>Or.inl hy))
 clear k1 k2 o1 o2 hs
 go_enter Tryz.func187,Tryz.ntmps187
 go_wp2_with fail
 refine bodyPost_end (v:= .tuple #[]) (by simp[results,Tryz.results187,go_sem]) rfl ?_
 refine⟨rfl,?_,?_⟩
 ·exact(((((K2.out.set_ 53 _).set_ 52 _).set_ 2 _).set_ 3 _).set_ 54 _)
 ·exact O2.out.trans ((((((Only.refl _ _).setCell (Or.inl (by simp)) _).setCell (Or.inl (by simp)) _).setCell (Or.inl (by simp)) _).setCell (Or.inl (by simp)) _).setCell (Or.inl (by simp)) _) (fun y hy=>Or.inl hy)
def SnPost (m s:Nat) (B:MB) (M:MemS) (y:SnP) (w:World) (e:Ending) (w':World):Prop:=
 e= .returned (.tuple #[.bool y.over,.int .i64 0])∧Lded w w' m B M [s,m]∧SnIs w' m s { y with over:=false,e:=0 }
theorem SCounts_z (m s:Nat) (B:MB) (M:MemS) (x:SnP) (hx:x.f=0) (hok:x.OK M.view) (w:World) (hm:MemIs w m B M) (hs:SnIs w m s x) (ha:s∉footM m B M):
  Calls Tryz.prog 194 #[ptrV s] w (SnPost m s B M (x.got (wdV M.view x.adr)) w):=by
 obtain⟨q1,q2,q3,q4,q5,q6,q7,q8⟩:=hok
 have hadr:x.adr=x.at'+8*((3:Nat):Int):=by unfold SnP.adr;rw[if_neg (by omega),if_neg (by omega)];rfl
 have LZ:=hid (Load_a m B M _ q1 w.drew (hm.only ((Only.refl [] w).drew) (by simp)))
 obtain⟨X,hX⟩: ∃X,X=wdV M.view x.adr:=⟨_,rfl⟩
 rw[←hX] at LZ ⊢
 rw[hadr] at LZ
 have WZ:=fun W=>hid (Word_s x.at' 3 q2 (by omega) W)
 have z0:w.drew.cell? ⟨s,0,none⟩=some (ptrV m):=hs.cell 0
 have z1:w.drew.cell? ⟨s,1,none⟩=some (.int .u64 x.at'):=hs.cell 1
 have hsm:s≠m:=fun e=>ha (by rw[e];simp[footM])
 have KF:Hid (∀W,Lded w.drew W m B M [m]→W.cell? ⟨s,0,none⟩=some (ptrV m)∧W.cell? ⟨s,1,none⟩=some (.int .u64 x.at')∧SnIs W m s x):=by
  intro W hW
  obtain⟨_,_,_,_,_,_,ho⟩:=hW
  have hb:SnIs W m s x:=ho.blk hs.drew (by simpa using hsm)
  exact⟨hb.cell 0,hb.cell 1,hb⟩
 have HSM:=hid hsm
 have HS:=hid hs
 have HM:=hid hm
 have HA:=hid ha
 have hg:x.got X={ x with a:=upd x.a 3 X,b:=upd x.b 3 X,f:=1 }:=by unfold SnP.got;rw[if_pos hx]
 rw[hg]
 have HX:=hid (⟨q5,q6⟩:_∧_)
 clear hs hm ha hsm q1 q2 q3 q4 q5 q6 q7 q8 hX hadr hg hx
 go_enter Tryz.func194,Tryz.ntmps194
 go_upto_region 1 with fail
 go_region_held3 (fun W=>W.cell? ⟨s,0,none⟩=some (ptrV m)∧W.cell? ⟨s,1,none⟩=some (.int .u64 x.at')) (go_keep)
  (first | (go_at_call 199;refine(WZ _).out.mono ?_;rintro e w1 ⟨rfl,rfl⟩) | (go_at_call 152;refine LZ.out.mono ?_;rintro e w1 ⟨rfl,hL⟩;obtain⟨x0,x1,hb⟩:=KF.out w1 hL;have HL:=hid hL;have HB:=hid hb;clear hL hb))
 have k4:w1.cell? ⟨s,7,none⟩=some (.int .u64 (x.a 3)):=HB.out.cell 7
 have k5:w1.cell? ⟨s,31,none⟩=some (.int .u64 (x.b 3)):=HB.out.cell 31
 have f4:=HB.out.frozen 7
 have f5:=HB.out.frozen 31
 have k6:w1.cell? ⟨s,54,none⟩=some (fnV (snFn x.f) s):=HB.out.cell 54
 have f6:=HB.out.frozen 54
 clear x0 x1 z0 z1
 go_upto_region 2 with fail
 go_region
 go_wp2_with fail
 go_ret2
 refine⟨by show _=Ending.returned (.tuple #[.bool x.over,_]);rw[HX.out.1];rfl,Lded.only (HL.out.drew.mono (g:=[s,m]) (by simp)) (g:=[s]) ?_ ?_,?_⟩
 ·exact(by repeat(first | exact Only.refl _ _ | (refine Only.drew ?_) | (refine Only.drewN ?_ _) | (refine Only.setCell ?_ (Or.inl (by simp)) _) | (refine Only.alloc ?_ _)))
 ·exact fun y hy=>⟨Or.inl (by simp at hy;simp[hy]),by simp at hy;subst hy;exact HA.out⟩
 ·have h:=((HB.out.set_ 7 (.int .u64 X)).set_ 31 (.int .u64 X)).set_ 54 (fnV (snFn 1) s)
  have e:({ x with a:=upd x.a 3 X,b:=upd x.b 3 X,f:=1,over:=false,e:=0 }:SnP)={ x with a:=upd x.a 3 X,b:=upd x.b 3 X,f:=1 }:=by rw[HX.out.1,HX.out.2]
  show SnIs _ m s { x with a:=upd x.a 3 X,b:=upd x.b 3 X,f:=1,over:=false,e:=0 }
  rw[e]
  rw[show(((snpC m x (fnV (snFn x.f) s)).setIfInBounds 7 (.int .u64 X)).setIfInBounds 31 (.int .u64 X)).setIfInBounds 54 (fnV (snFn 1) s)=snpC m { x with a:=upd x.a 3 X,b:=upd x.b 3 X,f:=1 } (fnV (snFn 1) s) from rfl] at h
  exact h
theorem After_z (k:Nat) (hk:k<24) (W:Int) (w:World):Calls Tryz.prog 203 #[.int .i64 (k:Int),.int .u64 W] w fun e w'=>e= .returned (.int .i64 (aftK (k:Int) W))∧w'=w:=by
 have ht:Int.tmod (k:Int) 2=(k:Int)% 2:=Int.tmod_eq_emod_of_nonneg (by omega)
 obtain⟨r,hr⟩: ∃r,r=aftK (k:Int) W:=⟨_,rfl⟩
 rw[←hr]
 unfold aftK at hr
 by_cases h2:(k:Int)=2
 ·rw[if_pos h2] at hr
  subst hr
  have b2:((k:Int)==2)=true:=by simpa using h2
  go_enter Tryz.func203,Tryz.ntmps203
  go_wp2
  go_ret
  exact⟨rfl,rfl⟩
 have b2:((k:Int)==2)=false:=by simpa using h2
 rw[if_neg h2] at hr
 by_cases h4:(k:Int)=4
 ·rw[if_pos h4] at hr
  subst hr
  have b4:((k:Int)==4)=true:=by simpa using h4
  go_enter Tryz.func203,Tryz.ntmps203
  go_wp2
  go_ret
  exact⟨rfl,rfl⟩
 have b4:((k:Int)==4)=false:=by simpa using h4
 rw[if_neg h4] at hr
 by_cases h3:(k:Int)<2
 ·rw[if_pos h3] at hr
  subst hr
  go_enter Tryz.func203,Tryz.ntmps203
  go_wp2
  go_ret
  exact⟨rfl,rfl⟩
 rw[if_neg h3] at hr
 by_cases h5:(k:Int)% 2=1
 ·have b5:((k:Int)% 2==1)=true:=by simpa using h5
  by_cases h6:W=0
  ·rw[if_pos ⟨h5,Or.inl h6⟩] at hr
   subst hr
   have b6:(W==0)=true:=by simpa using h6
   clear h2 h4 h5 h6
   go_enter Tryz.func203,Tryz.ntmps203
   go_wp2
   go_ret
   exact⟨rfl,rfl⟩
  ·have b6:(W==0)=false:=by simpa using h6
   by_cases h7:(k:Int)=23
   ·rw[if_pos ⟨h5,Or.inr h7⟩] at hr
    subst hr
    have b7:((k:Int)==23)=true:=by simpa using h7
    clear h2 h4 h5 h6 h7
    go_enter Tryz.func203,Tryz.ntmps203
    go_wp2
    go_ret
    exact⟨rfl,rfl⟩
   ·rw[if_neg (by rintro⟨_,h | h⟩;exact h6 h;exact h7 h)] at hr
    subst hr
    have b7:((k:Int)==23)=false:=by simpa using h7
    clear h2 h4 h5 h6 h7
    go_enter Tryz.func203,Tryz.ntmps203
    go_wp2
    go_ret
    exact⟨rfl,rfl⟩
 ·have b5:((k:Int)% 2==1)=false:=by simpa using h5
  rw[if_neg (fun h=>h5 h.1)] at hr
  subst hr
  clear h2 h4 h5
  go_enter Tryz.func203,Tryz.ntmps203
  go_wp2
  go_ret
  exact⟨rfl,rfl⟩
theorem SReads_z (m s:Nat) (B:MB) (M:MemS) (x:SnP) (hx:x.f=1) (hok:x.OK M.view) (w:World) (hm:MemIs w m B M) (hs:SnIs w m s x) (ha:s∉footM m B M):
  Calls Tryz.prog 200 #[ptrV s] w (SnPost m s B M (x.got (wdV M.view x.adr)) w):=by
 obtain⟨q1,q2,q3,q4,q5,q6,q7,q8⟩:=hok
 obtain⟨hk0,hk1⟩:=q3 hx
 obtain⟨kn,hkn⟩: ∃kn:Nat,x.k=(kn:Int):=⟨x.k.toNat,by omega⟩
 have hk24:kn<24:=by omega
 have hadr:x.adr=x.at'+8*(kn:Int):=by unfold SnP.adr;rw[if_pos hx,hkn]
 have LZ:=hid (Load_a m B M _ q1 w.drew (hm.only ((Only.refl [] w).drew) (by simp)))
 obtain⟨X,hX⟩: ∃X,X=wdV M.view x.adr:=⟨_,rfl⟩
 rw[←hX] at LZ ⊢
 rw[hadr] at LZ
 have WZ:=fun W=>hid (Word_s x.at' kn q2 hk24 W)
 have z0:w.drew.cell? ⟨s,0,none⟩=some (ptrV m):=hs.cell 0
 have z1:w.drew.cell? ⟨s,1,none⟩=some (.int .u64 x.at'):=hs.cell 1
 have z2:w.drew.cell? ⟨s,2,none⟩=some (.int .i64 (kn:Int)):=by rw[←hkn];exact hs.cell 2
 have hsm:s≠m:=fun e=>ha (by rw[e];simp[footM])
 have KF:Hid (∀W,Lded w.drew W m B M [m]→W.cell? ⟨s,0,none⟩=some (ptrV m)∧W.cell? ⟨s,1,none⟩=some (.int .u64 x.at')∧W.cell? ⟨s,2,none⟩=some (.int .i64 (kn:Int))∧SnIs W m s x):=by
  intro W hW
  obtain⟨_,_,_,_,_,_,ho⟩:=hW
  have hb:SnIs W m s x:=ho.blk hs.drew (by simpa using hsm)
  exact⟨hb.cell 0,hb.cell 1,by rw[←hkn];exact hb.cell 2,hb⟩
 have HX:=hid (⟨q5,q6,hx,hkn,hk24,ha⟩:_∧_∧_∧_∧_∧_)
 obtain⟨A,hA⟩: ∃A,A=aftK (kn:Int) X:=⟨_,rfl⟩
 have AZ:=fun W=>hid (After_z kn hk24 X W)
 rw[←hA] at AZ
 have HA:=hid hA
 clear hA
 obtain⟨Y,hY⟩: ∃Y,Y=x.got X:=⟨_,rfl⟩
 rw[←hY]
 have HY:=hid hY
 clear hY
 clear hs hm ha hsm q1 q2 q3 q4 q5 q6 q7 q8 hX hadr hx hkn hk0 hk1
 go_enter Tryz.func200,Tryz.ntmps200
 go_upto_region 1 with fail
 go_region_held3 (fun W=>W.cell? ⟨s,0,none⟩=some (ptrV m)∧W.cell? ⟨s,1,none⟩=some (.int .u64 x.at')∧W.cell? ⟨s,2,none⟩=some (.int .i64 (kn:Int))) (go_keep)
  (first | (go_at_call 199;refine(WZ _).out.mono ?_;rintro e w1 ⟨rfl,rfl⟩) | (go_at_call 152;refine LZ.out.mono ?_;rintro e w1 ⟨rfl,hL⟩;obtain⟨x0,x1,x2,hb⟩:=KF.out w1 hL;have HL:=hid hL;have HB:=hid hb;clear hL hb))
 clear x0 x1 z0 z1 z2
 have c3:w1.cell? ⟨s,3,none⟩=some (.bool x.last):=HB.out.cell 3
 cases hl:x.last with
 | true=>
  rw[hl] at c3
  have cb:w1.cell? ⟨s,28+kn,none⟩=some (.int .u64 (x.b kn)):=(HB.out.cell _).trans (snpC_b m x _ hk24)
  have fb:=HB.out.frozen (28+kn)
  go_upto_region 5 with fail
  go_region
  obtain⟨V1,hV1⟩: ∃V,V=(w1.setCell ⟨s,28+kn,none⟩ (.int .u64 X)).drew:=⟨_,rfl⟩
  rw[←hV1]
  have hB1:SnIs V1 m s { x with b:=upd x.b kn X }:=by
   have h:=(HB.out.set_ (28+kn) (.int .u64 X)).drew
   rw[snpC_setb m x _ hk24] at h
   rw[hV1];exact h
  have hO1:Only [s] w1 V1:=by rw[hV1];exact(by repeat(first | exact Only.refl _ _ | (refine Only.drew ?_) | (refine Only.drewN ?_ _) | (refine Only.setCell ?_ (Or.inl (by simp)) _) | (refine Only.alloc ?_ _)))
  have ca:V1.cell? ⟨s,4+kn,none⟩=some (.int .u64 (x.a kn)):=(hB1.cell _).trans (snpC_a m _ _ hk24)
  have c2:V1.cell? ⟨s,2,none⟩=some (.int .i64 (kn:Int)):=by rw[←HX.out.2.2.2.1];exact hB1.cell 2
  have HL1:=hid (HL.out.drew.mono (g:=[s,m]) (by simp) |>.only hO1 (fun y hy=>⟨Or.inl (by simp at hy;simp[hy]),by simp at hy;subst hy;exact HX.out.2.2.2.2.2⟩))
  have HB1:=hid hB1
  clear cb fb c3 hV1 hB1 hO1
  by_cases hne:X=x.a kn
  ·have bne:(X !=x.a kn)=false:=by simp[hne]
   have hgot:Y=({ x with b:=upd x.b kn X }:SnP).adv X:=by
    rw[HY.out]
    unfold SnP.got
    rw[if_neg (by rw[HX.out.2.2.1];omega),if_pos HX.out.2.2.1,if_pos hl,HX.out.2.2.2.1,Int.toNat_natCast,if_neg (by rw[hne];simp)]
   have f2:=HB1.out.frozen 2
   have HNE:=hid hne
   clear hne
   go_upto_region 6 with fail
   go_quiet (fail)
   go_wp2_with fail
   have c3':V1.cell? ⟨s,3,none⟩=some (.bool true):=by have:=HB1.out.cell 3;rw[←hl];exact this
   have c6:V1.cell? ⟨s,6,none⟩=some (.int .u64 (({ x with b:=upd x.b kn X }:SnP).a 2)):=HB1.out.cell 6
   have c54:V1.cell? ⟨s,54,none⟩=some (fnV (snFn x.f) s):=HB1.out.cell 54
   have f54:=HB1.out.frozen 54
   have f3:=HB1.out.frozen 3
   refine(AZ _).out.mono ?_
   rintro e w2 ⟨rfl,rfl⟩
   unfold SnP.adv at hgot
   have ek:aftK (({ x with b:=upd x.b kn X }:SnP).k) X=A:=by show aftK x.k X=_;rw[HX.out.2.2.2.1,HA.out]
   rw[ek] at hgot
   clear AZ ek
   by_cases hA0:0≤A
   ·rw[if_pos hA0] at hgot
    go_wp2_with fail
    have HG:=hid hgot
    clear hgot
    go_ret2
    rw[HG.out]
    refine⟨by show _=Ending.returned (.tuple #[.bool x.over,_]);rw[HX.out.1];rfl,HL1.out.only (g:=[s]) (by repeat(first | exact Only.refl _ _ | (refine Only.drew ?_) | (refine Only.drewN ?_ _) | (refine Only.setCell ?_ (Or.inl (by simp)) _) | (refine Only.alloc ?_ _))) (fun y hy=>⟨Or.inl (by simp at hy;simp[hy]),by simp at hy;subst hy;exact HX.out.2.2.2.2.2⟩),?_⟩
    have h:=((HB1.out.drewN nq).set_ 2 (.int .i64 A))
    have e:({ ({ ({ x with b:=upd x.b kn X }:SnP) with k:=A }:SnP) with over:=false,e:=0 }:SnP)={ ({ x with b:=upd x.b kn X }:SnP) with k:=A }:=by rw[show({ ({ ({ x with b:=upd x.b kn X }:SnP) with k:=A }:SnP) with over:=false,e:=0 }:SnP)={ ({ ({ x with b:=upd x.b kn X }:SnP) with k:=A }:SnP) with over:=x.over,e:=x.e } by rw[HX.out.1,HX.out.2.1]]
    show SnIs _ m s { ({ ({ x with b:=upd x.b kn X }:SnP) with k:=A }:SnP) with over:=false,e:=0 }
    rw[e]
    exact h
   ·rw[if_neg hA0] at hgot
    rw[if_neg (show ¬({ x with b:=upd x.b kn X }:SnP).last=false by rw[show({ x with b:=upd x.b kn X }:SnP).last=true from hl];simp)] at hgot
    by_cases h2:({ x with b:=upd x.b kn X }:SnP).a 2=0
    ·have b2:(({ x with b:=upd x.b kn X }:SnP).a 2 !=0)=false:=by simpa using h2
     rw[if_neg (fun h=>h h2)] at hgot
     clear h2
     go_wp2_with fail
     have HG:=hid hgot
     clear hgot
     go_ret2
     rw[HG.out]
     refine⟨by show _=Ending.returned (.tuple #[.bool x.over,_]);rw[HX.out.1];rfl,HL1.out.only (g:=[s]) (by repeat(first | exact Only.refl _ _ | (refine Only.drew ?_) | (refine Only.drewN ?_ _) | (refine Only.setCell ?_ (Or.inl (by simp)) _) | (refine Only.alloc ?_ _))) (fun y hy=>⟨Or.inl (by simp at hy;simp[hy]),by simp at hy;subst hy;exact HX.out.2.2.2.2.2⟩),?_⟩
     have h:=(((HB1.out.drewN nq).set_ 2 (.int .i64 A)).set_ 54 (fnV (snFn 3) s))
     have e:({ ({ ({ x with b:=upd x.b kn X }:SnP) with k:=A,f:=3 }:SnP) with over:=false,e:=0 }:SnP)={ ({ x with b:=upd x.b kn X }:SnP) with k:=A,f:=3 }:=by rw[show({ ({ ({ x with b:=upd x.b kn X }:SnP) with k:=A,f:=3 }:SnP) with over:=false,e:=0 }:SnP)={ ({ ({ x with b:=upd x.b kn X }:SnP) with k:=A,f:=3 }:SnP) with over:=x.over,e:=x.e } by rw[HX.out.1,HX.out.2.1]]
     show SnIs _ m s { ({ ({ x with b:=upd x.b kn X }:SnP) with k:=A,f:=3 }:SnP) with over:=false,e:=0 }
     rw[e]
     exact h
    ·have b2:(({ x with b:=upd x.b kn X }:SnP).a 2 !=0)=true:=by simpa using h2
     rw[if_pos h2] at hgot
     clear h2
     go_wp2_with fail
     have HG:=hid hgot
     clear hgot
     go_ret2
     rw[HG.out]
     refine⟨by show _=Ending.returned (.tuple #[.bool x.over,_]);rw[HX.out.1];rfl,HL1.out.only (g:=[s]) (by repeat(first | exact Only.refl _ _ | (refine Only.drew ?_) | (refine Only.drewN ?_ _) | (refine Only.setCell ?_ (Or.inl (by simp)) _) | (refine Only.alloc ?_ _))) (fun y hy=>⟨Or.inl (by simp at hy;simp[hy]),by simp at hy;subst hy;exact HX.out.2.2.2.2.2⟩),?_⟩
     have h:=(((HB1.out.drewN nq).set_ 2 (.int .i64 A)).set_ 54 (fnV (snFn 2) s))
     have e:({ ({ ({ x with b:=upd x.b kn X }:SnP) with k:=A,f:=2 }:SnP) with over:=false,e:=0 }:SnP)={ ({ x with b:=upd x.b kn X }:SnP) with k:=A,f:=2 }:=by rw[show({ ({ ({ x with b:=upd x.b kn X }:SnP) with k:=A,f:=2 }:SnP) with over:=false,e:=0 }:SnP)={ ({ ({ x with b:=upd x.b kn X }:SnP) with k:=A,f:=2 }:SnP) with over:=x.over,e:=x.e } by rw[HX.out.1,HX.out.2.1]]
     show SnIs _ m s { ({ ({ x with b:=upd x.b kn X }:SnP) with k:=A,f:=2 }:SnP) with over:=false,e:=0 }
     rw[e]
     exact h
  ·have bne:(X !=x.a kn)=true:=by simp[hne]
   have hgot:Y=({ x with b:=upd x.b kn X }:SnP).anew:=by
    rw[HY.out]
    unfold SnP.got
    rw[if_neg (by rw[HX.out.2.2.1];omega),if_pos HX.out.2.2.1,if_pos hl,HX.out.2.2.2.1,Int.toNat_natCast,if_pos hne]
   clear hne
   go_upto_region 6 with fail
   go_quiet (fail)
   go_wp2_with fail
   refine(SAnew_z m s _ _ (V1.drewN nq) (HB1.out.drewN nq)).mono ?_
   rintro e w2 ⟨rfl,hb2,ho2⟩
   have HB2:=hid hb2
   have HO2:=hid ho2
   clear hb2 ho2
   go_wp2_with fail
   have HG:=hid hgot
   clear hgot
   go_ret2
   rw[HG.out]
   refine⟨by show _=Ending.returned (.tuple #[.bool x.over,_]);rw[HX.out.1];rfl,HL1.out.only (g:=[s]) (((Only.refl _ _).drewN nq).trans HO2.out (fun y hy=>Or.inl hy)) (fun y hy=>⟨Or.inl (by simp at hy;simp[hy]),by simp at hy;subst hy;exact HX.out.2.2.2.2.2⟩),?_⟩
   have e:({ ({ x with b:=upd x.b kn X }:SnP).anew with over:=false,e:=0 }:SnP)=({ x with b:=upd x.b kn X }:SnP).anew:=by rw[show({ ({ x with b:=upd x.b kn X }:SnP).anew with over:=false,e:=0 }:SnP)={ ({ x with b:=upd x.b kn X }:SnP).anew with over:=x.over,e:=x.e } by rw[HX.out.1,HX.out.2.1]];rfl
   show SnIs _ m s { ({ x with b:=upd x.b kn X }:SnP).anew with over:=false,e:=0 }
   rw[e]
   exact HB2.out
 | false=>
  rw[hl] at c3
  have c2:w1.cell? ⟨s,2,none⟩=some (.int .i64 (kn:Int)):=by rw[←HX.out.2.2.2.1];exact HB.out.cell 2
  have cb:w1.cell? ⟨s,4+kn,none⟩=some (.int .u64 (x.a kn)):=(HB.out.cell _).trans (snpC_a m x _ hk24)
  have fb:=HB.out.frozen (4+kn)
  go_upto_region 9 with fail
  go_region
  obtain⟨V1,hV1⟩: ∃V,V=(w1.setCell ⟨s,4+kn,none⟩ (.int .u64 X)).drew:=⟨_,rfl⟩
  rw[←hV1]
  have hB1:SnIs V1 m s { x with a:=upd x.a kn X }:=by
   have h:=(HB.out.set_ (4+kn) (.int .u64 X)).drew
   rw[snpC_seta m x _ hk24] at h
   rw[hV1];exact h
  have hO1:Only [s] w1 V1:=by rw[hV1];exact(by repeat(first | exact Only.refl _ _ | (refine Only.drew ?_) | (refine Only.drewN ?_ _) | (refine Only.setCell ?_ (Or.inl (by simp)) _) | (refine Only.alloc ?_ _)))
  have HL1:=hid (HL.out.drew.mono (g:=[s,m]) (by simp) |>.only hO1 (fun y hy=>⟨Or.inl (by simp at hy;simp[hy]),by simp at hy;subst hy;exact HX.out.2.2.2.2.2⟩))
  have HB1:=hid hB1
  have c2:V1.cell? ⟨s,2,none⟩=some (.int .i64 (kn:Int)):=by rw[←HX.out.2.2.2.1];exact HB1.out.cell 2
  have f2:=HB1.out.frozen 2
  clear cb fb c3 hV1 hB1 hO1
  have hgot:Y=({ x with a:=upd x.a kn X }:SnP).adv X:=by
   rw[HY.out]
   unfold SnP.got
   rw[if_neg (by rw[HX.out.2.2.1];omega),if_pos HX.out.2.2.1,if_neg (by rw[hl];simp),HX.out.2.2.2.1,Int.toNat_natCast]
  go_wp2_with fail
  have c3':V1.cell? ⟨s,3,none⟩=some (.bool false):=by have:=HB1.out.cell 3;rw[←hl];exact this
  have c6:V1.cell? ⟨s,6,none⟩=some (.int .u64 (({ x with a:=upd x.a kn X }:SnP).a 2)):=HB1.out.cell 6
  have c54:V1.cell? ⟨s,54,none⟩=some (fnV (snFn x.f) s):=HB1.out.cell 54
  have f54:=HB1.out.frozen 54
  have f3:=HB1.out.frozen 3
  refine(AZ _).out.mono ?_
  rintro e w2 ⟨rfl,rfl⟩
  unfold SnP.adv at hgot
  have ek:aftK (({ x with a:=upd x.a kn X }:SnP).k) X=A:=by show aftK x.k X=_;rw[HX.out.2.2.2.1,HA.out]
  rw[ek] at hgot
  clear AZ ek
  by_cases hA0:0≤A
  ·rw[if_pos hA0] at hgot
   go_wp2_with fail
   have HG:=hid hgot
   clear hgot
   go_ret2
   rw[HG.out]
   refine⟨by show _=Ending.returned (.tuple #[.bool x.over,_]);rw[HX.out.1];rfl,HL1.out.only (g:=[s]) (by repeat(first | exact Only.refl _ _ | (refine Only.drew ?_) | (refine Only.drewN ?_ _) | (refine Only.setCell ?_ (Or.inl (by simp)) _) | (refine Only.alloc ?_ _))) (fun y hy=>⟨Or.inl (by simp at hy;simp[hy]),by simp at hy;subst hy;exact HX.out.2.2.2.2.2⟩),?_⟩
   have h:=((HB1.out).set_ 2 (.int .i64 A))
   have e:({ ({ ({ x with a:=upd x.a kn X }:SnP) with k:=A }:SnP) with over:=false,e:=0 }:SnP)={ ({ x with a:=upd x.a kn X }:SnP) with k:=A }:=by rw[show({ ({ ({ x with a:=upd x.a kn X }:SnP) with k:=A }:SnP) with over:=false,e:=0 }:SnP)={ ({ ({ x with a:=upd x.a kn X }:SnP) with k:=A }:SnP) with over:=x.over,e:=x.e } by rw[HX.out.1,HX.out.2.1]]
   show SnIs _ m s { ({ ({ x with a:=upd x.a kn X }:SnP) with k:=A }:SnP) with over:=false,e:=0 }
   rw[e]
   exact h
  ·rw[if_neg hA0] at hgot
   rw[if_pos (show({ x with a:=upd x.a kn X }:SnP).last=false from hl)] at hgot
   go_wp2_with fail
   have HG:=hid hgot
   clear hgot
   go_ret2
   rw[HG.out]
   refine⟨by show _=Ending.returned (.tuple #[.bool x.over,_]);rw[HX.out.1];rfl,HL1.out.only (g:=[s]) (by repeat(first | exact Only.refl _ _ | (refine Only.drew ?_) | (refine Only.drewN ?_ _) | (refine Only.setCell ?_ (Or.inl (by simp)) _) | (refine Only.alloc ?_ _))) (fun y hy=>⟨Or.inl (by simp at hy;simp[hy]),by simp at hy;subst hy;exact HX.out.2.2.2.2.2⟩),?_⟩
   have h:=((((HB1.out).set_ 2 (.int .i64 A)).set_ 2 (.int .i64 0)).set_ 3 (.bool true))
   have e:({ ({ ({ x with a:=upd x.a kn X }:SnP) with k:=0,last:=true }:SnP) with over:=false,e:=0 }:SnP)={ ({ x with a:=upd x.a kn X }:SnP) with k:=0,last:=true }:=by rw[show({ ({ ({ x with a:=upd x.a kn X }:SnP) with k:=0,last:=true }:SnP) with over:=false,e:=0 }:SnP)={ ({ ({ x with a:=upd x.a kn X }:SnP) with k:=0,last:=true }:SnP) with over:=x.over,e:=x.e } by rw[HX.out.1,HX.out.2.1]]
   show SnIs _ m s { ({ ({ x with a:=upd x.a kn X }:SnP) with k:=0,last:=true }:SnP) with over:=false,e:=0 }
   rw[e]
   exact h
end Go.Proofs.YtjmaicckkkdjpaaGreat
