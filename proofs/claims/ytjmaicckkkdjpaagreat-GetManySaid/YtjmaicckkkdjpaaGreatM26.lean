import Derived.Test.YtjmaicckkkdjpaaGreatM25
set_option maxRecDepth 100000
set_option maxHeartbeats 4000000
set_option linter.unusedVariables false
set_option linter.unusedSimpArgs false
/- What a get does behind a value, behind a walk. -/
namespace Go.Proofs.YtjmaicckkkdjpaaGreat
open Go.RowKit
attribute [local go_sem ↓ high] nodeLoadAt nodeLoadVar nodeStoreAt rsLoadAt rsLoadVar rsStoreAt gtBuild rsBuild
attribute [local go_sem] ldM_run lvM_run stM_run Oper.semAt_some run_store_fnG bldMg_run neFnE neFnEG
theorem LookC_z (N si m g br bg rg:Nat) (B:MB) (M:MemS) (x:GtP) (y:RdP) (lv:Value) (uv fv:Value) (E:Int) (hd:y.done=true) (w:World) (hm:MemIs w m B M) (hb:GtBlk w g si x uv fv) (hs:RdIs w N m rg y lv) (hg:w.cell? ⟨bg,0,none⟩=some (ptrV g)) (hrg:w.cell? ⟨br,0,none⟩=some (ptrV rg)) (hsi:w.cell? ⟨si,0,none⟩=some (ptrV m)) (hne:si≠g) (hbg:bg≠g) (hbr:br≠g):
  Calls Tryz.prog 125 #[.int .i64 E,.pointer (some ⟨br,0,none⟩),.pointer (some ⟨bg,0,none⟩)] w
   (GtGo si m g { x with v:=if y.bad=0 then y.s else{ data:= #[] },why:=y.bad,u:= .still (stNew x.at' x.leaf) } w (.bool false)):=by
 have VZ:=hid (RdValue_z N m rg B M y lv hd w.drew (hm.only (Only.refl [] w).drew (by simp)) ⟨Blk.drew hs.blk,hs.own,hs.ne⟩)
 obtain⟨vs,hvs⟩: ∃vs,vs=if y.bad=0 then y.s else{ data:= #[] }:=⟨_,rfl⟩
 rw[←hvs] at VZ ⊢
 have e0:w.drew.cell? ⟨bg,0,none⟩=some (ptrV g):=hg
 have e1:w.drew.cell? ⟨br,0,none⟩=some (ptrV rg):=hrg
 have KF:Hid (∀W v1 v2,Below w.drew.heap.size w.drew W→GtBlk W g si x uv fv∧Only [g] w W∧(W.cell? ⟨bg,0,none⟩=some (ptrV g)∧W.cell? ⟨br,0,none⟩=some (ptrV rg))∧((W.setCell ⟨g,28,none⟩ v1).cell? ⟨bg,0,none⟩=some (ptrV g)∧(W.setCell ⟨g,28,none⟩ v1).cell? ⟨br,0,none⟩=some (ptrV rg))∧(((W.setCell ⟨g,28,none⟩ v1).setCell ⟨g,29,none⟩ v2).cell? ⟨bg,0,none⟩=some (ptrV g)∧((W.setCell ⟨g,28,none⟩ v1).setCell ⟨g,29,none⟩ v2).cell? ⟨br,0,none⟩=some (ptrV rg))):=hid fun W v1 v2 hW=>by
  have a0:=cell_bel hW e0
  have a1:=cell_bel hW e1
  have far: ∀(W':World) (b i:Nat) (v u:Value),b≠g→W'.cell? ⟨b,0,none⟩=some u→(W'.setCell ⟨g,i,none⟩ v).cell? ⟨b,0,none⟩=some u:=fun W' b i v u hb h=>(World.cell?_setCell_far W' ⟨g,i,none⟩ ⟨b,0,none⟩ v (fun e=>hb e.symm)).trans h
  exact⟨(Blk.drew hb).bel hW,(Only.refl [g] w).drew.trans (Only.of_below hW [g]) (fun y hy=>Or.inl hy),⟨a0,a1⟩,⟨far _ _ _ _ _ hbg a0,far _ _ _ _ _ hbr a1⟩,⟨far _ _ _ _ _ hbg (far _ _ _ _ _ hbg a0),far _ _ _ _ _ hbr (far _ _ _ _ _ hbr a1)⟩⟩
 have HX:=hid (⟨hsi,hne⟩:_∧_)
 clear hb hm hs hsi hne hbg hbr hvs hg hrg
 go_enter Tryz.func125,Tryz.ntmps125
 go_upto_region 1 with fail
 go_region_held3 (fun W=>W.cell? ⟨bg,0,none⟩=some (ptrV g)∧W.cell? ⟨br,0,none⟩=some (ptrV rg)) (first | go_keep | (exact sC) | (exact sD) | (exact sE))
  (first | (go_at_call 126;refine VZ.out.mono ?_;rintro e w2 ⟨rfl,hb2⟩;obtain⟨hB2,ho2,sC,sD,sE⟩:=KF.out w2 (.string vs) (.int .i64 y.bad) hb2;have c28:w2.cell? ⟨g,28,none⟩=some (.string x.v):=hB2.cell 28;have c29:w2.cell? ⟨g,29,none⟩=some (.int .i64 x.why):=hB2.cell 29;have f28:=hB2.frozen 28;have f29:=hB2.frozen 29;have H2:=hid (⟨hB2,ho2,sE.1⟩:_∧_∧_);clear hb2 hB2 ho2))
 all_goals
  obtain⟨V,hV⟩: ∃V,V=(w2.setCell ⟨g,28,none⟩ (.string vs)).setCell ⟨g,29,none⟩ (.int .i64 y.bad):=⟨_,rfl⟩
  rw[show _=V from hV.symm]
  have hBV:GtBlk V g si { x with v:=vs,why:=y.bad } uv fv:=by rw[hV];exact GtBlk.val H2.out.1 vs y.bad
  have hOV:Only [g] w V:=H2.out.2.1.trans (by rw[hV];exact(by repeat(first | exact Only.refl _ _ | (refine Only.drew ?_) | (refine Only.drewN ?_ _) | (refine Only.setCell ?_ (Or.inl (by simp)) _) | (refine Only.alloc ?_ _))):Only [g] w2 V) (fun y hy=>Or.inl hy)
  have vg:V.cell? ⟨bg,0,none⟩=some (ptrV g):=by rw[hV];exact H2.out.2.2
  have hsV:V.cell? ⟨si,0,none⟩=some (ptrV m):=(hOV.cell (p:=⟨si,0,none⟩) (World.block_lt_of_cell? _ _ HX.out.1) (by simpa using HX.out.2)).trans HX.out.1
  have WZ:=hid (StillG_z si m g { x with v:=vs,why:=y.bad } uv fv V hBV hsV)
  have HV:=hid hOV
  clear hV hBV hOV hsV
  try clear sC sD sE
  try clear c28 c29 f28 f29
  go_wp2_with fail
  refine WZ.out.mono ?_
  intro e w3 hgo
  have he:=hgo.1
  subst he
  have HG:=hid hgo
  clear hgo WZ
  go_wp2_with fail
  go_ret
  exact HG.out.only HV.out
theorem GtBlk.att {w:World} {g si:Nat} {y:GtP} {uv fv:Value} (h:GtBlk w g si y uv fv) (a:Int):GtBlk (w.setCell ⟨g,6,none⟩ (.int .u64 a)) g si { y with at':=a } uv fv:=h.set_ 6 (.int .u64 a)
theorem WalkC_z (si m g bg bw wg:Nat) (x:GtP) (y:WkP) (f0:List Nat) (uv fv:Value) (hov:y.over=true) (he:y.e=0) (hat:0≤y.pa∧y.pa≤1099511627776) (w:World) (hb:GtBlk w g si x uv fv) (hs:WkIs w si m wg y f0) (hg:w.cell? ⟨bg,0,none⟩=some (ptrV g)) (hwg:w.cell? ⟨bw,0,none⟩=some (ptrV wg)) (hsi:w.cell? ⟨si,0,none⟩=some (ptrV m)) (hne:si≠g) (hbg:bg≠g) (hbw:bw≠g):
  Calls Tryz.prog 73 #[.int .i64 0,.pointer (some ⟨bg,0,none⟩),.pointer (some ⟨bw,0,none⟩)] w
   (GtGo si m g ({ x with at':=y.pa,leaf:=y.pn }:GtP).look w (.bool false)):=by
 have VZ:=hid (WkAt_z si m wg y hov he f0 w.drew (hs.only (Only.refl [] w).drew (by simp) (by simp)))
 obtain⟨pa,hpa⟩: ∃pa,pa=y.pa:=⟨_,rfl⟩
 obtain⟨pn,hpn⟩: ∃pn,pn=y.pn:=⟨_,rfl⟩
 rw[←hpa,←hpn] at VZ ⊢
 rw[←hpa] at hat
 have e0:w.drew.cell? ⟨bg,0,none⟩=some (ptrV g):=hg
 have e1:w.drew.cell? ⟨bw,0,none⟩=some (ptrV wg):=hwg
 have KF:Hid (∀W,Below w.drew.heap.size w.drew W→GtBlk W g si x uv fv∧Only [g] w W∧(W.cell? ⟨bg,0,none⟩=some (ptrV g)∧W.cell? ⟨bw,0,none⟩=some (ptrV wg))∧((W.setCell ⟨g,6,none⟩ (.int .u64 pa)).cell? ⟨bg,0,none⟩=some (ptrV g)∧(W.setCell ⟨g,6,none⟩ (.int .u64 pa)).cell? ⟨bw,0,none⟩=some (ptrV wg))∧ ∃W3,stR Tryz.prog 77 (.pointer (some ⟨g,7,none⟩)) (.agg (nodeC pn)) (W.setCell ⟨g,6,none⟩ (.int .u64 pa))= .ok () W3∧GtBlk W3 g si { x with at':=pa,leaf:=pn } uv fv∧Only [g] w W3∧(W3.cell? ⟨bg,0,none⟩=some (ptrV g)∧W3.cell? ⟨bw,0,none⟩=some (ptrV wg))):=hid fun W hW=>by
  have a0:=cell_bel hW e0
  have a1:=cell_bel hW e1
  have far: ∀(W':World) (b i:Nat) (v u:Value),b≠g→W'.cell? ⟨b,0,none⟩=some u→(W'.setCell ⟨g,i,none⟩ v).cell? ⟨b,0,none⟩=some u:=fun W' b i v u hb h=>(World.cell?_setCell_far W' ⟨g,i,none⟩ ⟨b,0,none⟩ v (fun e=>hb e.symm)).trans h
  have hB:=(Blk.drew hb).bel hW
  have hO:Only [g] w W:=(Only.refl [g] w).drew.trans (Only.of_below hW [g]) (fun y hy=>Or.inl hy)
  have b0:=far W bg 6 (.int .u64 pa) _ hbg a0
  have b1:=far W bw 6 (.int .u64 pa) _ hbw a1
  obtain⟨W3,h3,hB3,o3⟩:=GtBlk.stn (GtBlk.att (y:=x) hB pa) pn
  exact⟨hB,hO,⟨a0,a1⟩,⟨b0,b1⟩,W3,h3,hB3,(hO.trans (Only.setCell (Only.refl [g] W) (Or.inl (by simp)) _) (fun y hy=>Or.inl hy)).trans o3 (fun y hy=>Or.inl hy),(o3.cell (p:=⟨bg,0,none⟩) (World.block_lt_of_cell? _ _ b0) (by simpa using hbg)).trans b0,(o3.cell (p:=⟨bw,0,none⟩) (World.block_lt_of_cell? _ _ b1) (by simpa using hbw)).trans b1⟩
 have HX:=hid (⟨hsi,hne,hat⟩:_∧_∧_)
 clear hb hs hsi hne hbg hbw hpa hpn hg hwg hov he hat
 go_enter Tryz.func73,Tryz.ntmps73
 go_upto_region 3 with fail
 go_region_held3 (fun W=>W.cell? ⟨bg,0,none⟩=some (ptrV g)∧W.cell? ⟨bw,0,none⟩=some (ptrV wg)) (first | go_keep | (exact sC) | (exact sD) | (exact sE))
  (first | (go_at_call 75;refine VZ.out.mono ?_;rintro e w2 ⟨rfl,hb2⟩;obtain⟨hB2,ho2,sC,sD,W3,hst,hB3,ho3,sE⟩:=KF.out w2 hb2;have c6:w2.cell? ⟨g,6,none⟩=some (.int .u64 x.at'):=hB2.cell 6;have f6:=hB2.frozen 6;have H2:=hid (⟨hB3,ho3,sE.1⟩:_∧_∧_);clear hb2 hB2 ho2 hB3 ho3))
 all_goals
  have vg:W3.cell? ⟨bg,0,none⟩=some (ptrV g):=H2.out.2.2
  have hsV:W3.cell? ⟨si,0,none⟩=some (ptrV m):=(H2.out.2.1.cell (p:=⟨si,0,none⟩) (World.block_lt_of_cell? _ _ HX.out.1) (by simpa using HX.out.2.1)).trans HX.out.1
  have WZ:=hid (LookG_z si m g { x with at':=pa,leaf:=pn } uv fv HX.out.2.2 W3 H2.out.1 hsV HX.out.2.1)
  clear hsV
  try clear sC sD sE
  try clear c6 f6 hst
  go_wp2_with fail
  refine WZ.out.mono ?_
  intro e w3 hgo
  have he:=hgo.1
  subst he
  have HG:=hid hgo
  clear hgo WZ
  go_wp2_with fail
  go_ret
  exact HG.out.only H2.out.2.1
end Go.Proofs.YtjmaicckkkdjpaaGreat
/- A step of a get, whatever machine is under it. -/
namespace Go.Proofs.YtjmaicckkkdjpaaGreat
open Go.RowKit
attribute [local go_sem ↓ high] nodeLoadAt nodeLoadVar nodeStoreAt rsLoadAt rsLoadVar rsStoreAt gtBuild rsBuild
attribute [local go_sem] ldM_run lvM_run stM_run Oper.semAt_some run_store_fnG bldMg_run
def outV (d:Bool) (rc:Int):Value:= .tuple #[.bool d,.int .i64 (if d=true then(if rc=5 then 0 else rc) else 0)]
theorem neIfE (T b:Nat) (w:World):(binOp .eql 115 (.iface T (ptrV b)) .nilIface).run Tryz.prog w= .ok (.bool false) w:=by kernel_rfl
attribute [local go_sem] neIfE
theorem GtStep_still (si m g T F ub G a b:Nat) (x:GtP) (hd:x.done=false) (w:World) (hb:GtBlk w g si x (.iface T (ptrV ub)) (clV G a b)) (hsi:w.cell? ⟨si,0,none⟩=some (ptrV m))
  (hme: ∀W,(method 431 T (ptrV ub) "Step").run Tryz.prog W= .ok (F,ptrV ub) W) (hF: ∀args W,(callFunc F args).run Tryz.prog W= .ok (.enter F args) W)
  (Q:World→Prop) (hU:Calls Tryz.prog F #[ptrV ub] w fun e w1=>e= .returned (.tuple #[.bool false,.int .i64 0])∧Q w1)
  (hQ: ∀w1,Q w1→w1.cell? ⟨g,30,none⟩=some (.bool false)):
  Calls Tryz.prog 48 #[ptrV g] w fun e w'=>e= .returned (outV false 0)∧Q w':=by
 have MZ:=hid (XMem_c si m w hsi)
 have c3:w.cell? ⟨g,3,none⟩=some (.iface T (ptrV ub)):=hb.cell 3
 have c0:w.cell? ⟨g,0,none⟩=some (ptrV si):=hb.cell 0
 have c30:w.cell? ⟨g,30,none⟩=some (.bool false):=by rw[←hd];exact hb.cell 30
 have UZ:=hid hU
 have HQ:=hid hQ
 clear hb hsi hd hU hQ
 go_enter Tryz.func48,Tryz.ntmps48
 go_wp2_with fail
 refine MZ.out.mono ?_
 rintro e w1 ⟨rfl,rfl⟩
 go_wp2_with fail
 refine UZ.out.mono ?_
 rintro e w2 ⟨rfl,hq⟩
 have k30:=HQ.out w2 hq
 have HH:=hid hq
 clear hq HQ UZ MZ c0 c3 c30
 go_wp2_with fail
 go_ret2
 exact⟨rfl,HH.out⟩
theorem GtStep_over (si m g T F ub G a b:Nat) (x:GtP) (hd:x.done=false) (w:World) (hb:GtBlk w g si x (.iface T (ptrV ub)) (clV G a b)) (hsi:w.cell? ⟨si,0,none⟩=some (ptrV m))
  (hme: ∀W,(method 431 T (ptrV ub) "Step").run Tryz.prog W= .ok (F,ptrV ub) W) (hF: ∀args W,(callFunc F args).run Tryz.prog W= .ok (.enter F args) W) (hG: ∀args W,(callFunc G args).run Tryz.prog W= .ok (.enter G args) W)
  (E:Int) (Q:World→Prop) (hU:Calls Tryz.prog F #[ptrV ub] w fun e w1=>e= .returned (.tuple #[.bool true,.int .i64 E])∧Q w1)
  (hQ: ∀w1,Q w1→w1.cell? ⟨g,4,none⟩=some (clV G a b)) (R:World→Prop) (d:Bool) (rc:Int)
  (hC: ∀w1,Q w1→Calls Tryz.prog G #[.int .i64 E,.pointer (some ⟨a,0,none⟩),.pointer (some ⟨b,0,none⟩)] w1 fun e w2=>(∃r,e= .returned (.bool r))∧R w2)
  (hR: ∀w2,R w2→w2.cell? ⟨g,30,none⟩=some (.bool d)∧w2.cell? ⟨g,31,none⟩=some (.int .i64 rc)):
  Calls Tryz.prog 48 #[ptrV g] w fun e w'=>e= .returned (outV d rc)∧ ∃w2,R w2∧Only [] w2 w':=by
 have MZ:=hid (XMem_c si m w hsi)
 have c3:w.cell? ⟨g,3,none⟩=some (.iface T (ptrV ub)):=hb.cell 3
 have c0:w.cell? ⟨g,0,none⟩=some (ptrV si):=hb.cell 0
 have c30:w.cell? ⟨g,30,none⟩=some (.bool false):=by rw[←hd];exact hb.cell 30
 have UZ:=hid hU
 have HQ:=hid hQ
 have CZ:=hid hC
 have HR:=hid hR
 clear hb hsi hd hU hQ hC hR
 unfold outV
 unfold clV at HQ
 go_enter Tryz.func48,Tryz.ntmps48
 go_wp2_with fail
 refine MZ.out.mono ?_
 rintro e w1 ⟨rfl,rfl⟩
 go_wp2_with fail
 refine UZ.out.mono ?_
 rintro e w2 ⟨rfl,hq⟩
 have k4:=HQ.out w2 hq
 have HC:=hid (CZ.out w2 hq)
 clear hq HQ UZ MZ CZ c0 c3 c30
 go_wp2_with fail
 refine HC.out.mono ?_
 rintro e w3 ⟨⟨r,rfl⟩,hr⟩
 obtain⟨k30,k31⟩:=HR.out w3 hr
 have HRR:=hid hr
 clear hr HR HC k4
 cases d with
 | false=>
  go_wp2_with fail
  go_ret2
  exact⟨rfl,w3,HRR.out,Only.refl _ _⟩
 | true=>
  by_cases h5:rc=5
  ·subst h5
   go_wp2_with fail
   go_ret2
   exact⟨rfl,w3,HRR.out,Only.refl _ _⟩
  ·have b5:(rc==5)=false:=by simpa using h5
   have H5:=hid h5
   clear h5
   go_upto_region 9 with fail
   go_region
   go_wp2_with fail
   go_ret2
   exact⟨by simp[H5.out],w3,HRR.out,(Only.refl _ _).drew⟩
end Go.Proofs.YtjmaicckkkdjpaaGreat
/- A step of a get. -/
namespace Go.Proofs.YtjmaicckkkdjpaaGreat
open Go.RowKit
theorem GtP.look_u (x:GtP) (u:GtU):({ x with u:=u }:GtP).look=x.look:=by
 unfold GtP.look
 show(match findN x.leaf x.key with | none=>_ | some i=>_)=_
 cases findN x.leaf x.key<;>rfl
structure GtOK (v:List Int) (x:GtP):Prop where
 live:x.done=false
 client:0≤x.client∧x.client≤64
 at':0≤x.at'∧x.at'≤1099511627776
 tries:x.tries<4611686018427387904
 walk: ∀y,x.u= .walk y→WkOK v y∧(y.next v).e=0∧((y.next v).over=true→0≤(y.next v).pa∧(y.next v).pa≤1099511627776)
 read: ∀y,x.u= .read y→RdOK v y
 still: ∀y,x.u= .still y→y.over=false∧(y.k=2∨y.k=3)∧inV v y.adr∧(0≤y.at'∧y.at'≤1099511627776)
 last: ∀l rc rv,x.u= .last l rc rv→l.over=false∧(0≤l.client∧l.client≤64)∧ ∀a∈l.lines,inV v a
def GtP.eff (x:GtP) (A:MA):MA:=match x.u with
 | .walk y=>y.eff A
 | .last l _ _=>l.eff A
 | _=>A
def GtPost (si m g:Nat) (B:MB) (M:MemS) (K:Nat) (x:GtP) (f:List Nat) (w:World) (e:Ending) (w':World):Prop:=
 e= .returned (outV (x.next M.view).done (x.next M.view).rc)∧ ∃M' f',MSt m B K w M w' M' (x.eff (absM M)) (g::f)∧GtIs w' si m g (x.next M.view) f'∧ ∀y∈f',y∈f∨(w.heap.size≤y∧y∉footM m B M')
theorem RdIs.only {w w':World} {N m g:Nat} {x:RdP} {lv:Value} {ks:List Nat} (h:RdIs w N m g x lv) (ho:Only ks w w') (hg:g∉ks) (hl: ∀k,lv.ownBlock=some k→k∉ks):RdIs w' N m g x lv:=⟨ho.blk h.blk hg,ho.own h.own (fun j hj hc=>hl j hj hc),h.ne⟩
theorem GtU.at.only {w w':World} {si m g:Nat} {n:NodeA} {u:GtU} {uv fv:Value} {us bs ks:List Nat} (h:u.at w si m g n uv fv us bs) (ho:Only ks w w') (hu: ∀z∈us,z∉ks) (hb: ∀z∈bs,z∉ks):u.at w' si m g n uv fv us bs:=by
 have hc: ∀b,b∈bs→ ∀v,w.cell? ⟨b,0,none⟩=some v→w'.cell? ⟨b,0,none⟩=some v:=fun b h1 v h2=>(ho.cell (p:=⟨b,0,none⟩) (World.block_lt_of_cell? _ _ h2) (hb b h1)).trans h2
 cases u with
 | walk y=>
  obtain⟨wg,f0,bg,bw,rfl,rfl,h1,h2,h3,rfl,rfl⟩:=h
  exact⟨wg,f0,bg,bw,rfl,rfl,h1.only ho (hu _ (by simp)) (fun z hz=>hu z (by simp[hz])),hc _ (by simp) _ h2,hc _ (by simp) _ h3,rfl,rfl⟩
 | read y=>
  obtain⟨rg,lv,br,bg,N,rfl,rfl,h1,h4,h2,h3,rfl,rfl⟩:=h
  exact⟨rg,lv,br,bg,N,rfl,rfl,h1.only ho (hu _ (by simp)) (fun k hk=>hu k (by simp[hk])),Nat.le_trans h4 ho.size,hc _ (by simp) _ h2,hc _ (by simp) _ h3,rfl,rfl⟩
 | still y=>
  obtain⟨sg,bg,bs',rfl,rfl,h1,h2,h3,rfl,rfl⟩:=h
  exact⟨sg,bg,bs',rfl,rfl,h1.only ho (hu _ (by simp)),hc _ (by simp) _ h2,hc _ (by simp) _ h3,rfl,rfl⟩
 | last l rc rv=>
  obtain⟨lg,lr,br,bg,rfl,rfl,h1,h2,h3,rfl,rfl⟩:=h
  exact⟨lg,lr,br,bg,rfl,rfl,h1.only ho (hu _ (by simp)) (hu _ (by simp)),ho.blk h2 (hb _ (by simp)),hc _ (by simp) _ h3,rfl,rfl⟩
theorem GtIs.only {w w':World} {si m g:Nat} {x:GtP} {f ks:List Nat} (h:GtIs w si m g x f) (ho:Only ks w w') (hg:g∉ks) (hf: ∀z∈f,z∉ks):GtIs w' si m g x f:=by
 obtain⟨⟨uv,fv,us,bs,h1,h2,rfl,h4⟩,h5⟩:=h
 exact⟨⟨uv,fv,us,bs,ho.blk h1 hg,h2.only ho (fun z hz=>hf z (by simp[hz])) (fun z hz=>hf z (by simp[hz])),rfl,h4⟩,h5⟩
theorem MSt.of_load2 {m:Nat} {B:MB} {K:Nat} {w w':World} {M:MemS} {ks:List Nat} (hm:Mems w m B M K) (hs:St64 M.st) (h:Lded w w' m B M (ks++[m])): ∃M',MSt m B K w M w' M' (absM M) ks∧footM m B M'=footM m B M:=by
 obtain⟨st,a,b,c,d,e,ho⟩:=h
 exact⟨{ M with st:=st },⟨⟨e,hm.few,hm.two⟩,fun k hk=>Or.inl hk,rfl,⟨1,0,0,by omega,a,b,by unfold St64 at hs;show st.c=_;omega,by unfold St64 at hs;show st.d=_;omega⟩,ho.mono (fun x hx=>by
  rcases List.mem_append.1 hx with h | h
  ·exact List.mem_append_left _ h
  ·exact List.mem_append_right _ (by rw[List.mem_singleton.1 h];simp[footM]))⟩,rfl⟩
theorem gt_keep {si m g:Nat} {B:MB} {K:Nat} {M M':MemS} {ta:MA} {x:GtP} {uv fv:Value} {w w1:World} {us bs:List Nat} (hM:MSt m B K w M w1 M' ta us) (hbs: ∀z∈bs,z∉us) (hg:g∉us++bs) (hgm:g∉footM m B M) (fm: ∀y∈us++bs,y∉footM m B M)
  (hb:GtBlk w g si x uv fv) (hsi:w.cell? ⟨si,0,none⟩=some (ptrV m)) (hsf:si∉us++bs) (hsm:si∉footM m B M):
  GtBlk w1 g si x uv fv∧w1.cell? ⟨si,0,none⟩=some (ptrV m)∧(∀b∈bs,∀v,w.cell? ⟨b,0,none⟩=some v→w1.cell? ⟨b,0,none⟩=some v)∧(∀b∈bs,∀T cs,Blk w b T cs→Blk w1 b T cs):=by
 have nb: ∀b∈bs,b∉us++footM m B M:=fun b h1 h2=>(List.mem_append.1 h2).elim (hbs b h1) (fm b (by simp[h1]))
 refine⟨hM.only.blk hb ?_,(hM.only.cell (p:=⟨si,0,none⟩) (World.block_lt_of_cell? _ _ hsi) ?_).trans hsi,fun b h1 v h2=>(hM.only.cell (p:=⟨b,0,none⟩) (World.block_lt_of_cell? _ _ h2) (nb b h1)).trans h2,fun b h1 T cs h2=>hM.only.blk h2 (nb b h1)⟩
 ·intro h
  exact(List.mem_append.1 h).elim (fun h=>hg (by simp[h])) hgm
 ·intro h
  exact(List.mem_append.1 h).elim (fun h=>hsf (by simp[h])) hsm
theorem gt_stay {si m g:Nat} {B:MB} {K:Nat} {M M':MemS} {ta:MA} {x:GtP} {u':GtU} {uv fv:Value} {w w1:World} {us us' bs:List Nat} (hM:MSt m B K w M w1 M' ta us) (hB:GtBlk w1 g si x uv fv) (hat:u'.at w1 si m g x.leaf uv fv us' bs) (hus: ∀z∈us',z∈us∨(w.heap.size≤z∧z∉footM m B M')) (hbs: ∀z∈bs,z∉us) (hbl: ∀z∈bs,z<w.heap.size) (hg:g∉us++bs) (hgl:g<w.heap.size):
  ∃M' f',MSt m B K w M w1 M' ta (g::(us++bs))∧GtIs w1 si m g { x with u:=u' } f'∧ ∀y∈f',y∈us++bs∨(w.heap.size≤y∧y∉footM m B M'):=by
 refine⟨M',us'++bs,hM.mono (fun z hz=>by simp[hz]),⟨⟨uv,fv,us',bs,hB,hat,rfl,fun z hz h=> ?_⟩,fun h=> ?_⟩,fun y hy=> ?_⟩
 ·rcases hus z h with h1 | h1
  ·exact hbs z hz h1
  ·have:=hbl z hz;have:=h1.1;omega
 ·rcases List.mem_append.1 h with h1 | h1
  ·rcases hus g h1 with h2 | h2
   ·exact hg (by simp[h2])
   ·have:=h2.1;omega
  ·exact hg (by simp[h1])
 ·rcases List.mem_append.1 hy with h1 | h1
  ·exact(hus y h1).imp (fun h=>by simp[h]) id
  ·exact Or.inl (by simp[h1])
theorem gt_go {si m g:Nat} {B:MB} {K:Nat} {M M':MemS} {ta:MA} {X:GtP} {w w1 w2 w':World} {us bs:List Nat} {r:Value} {e:Ending} (hM:MSt m B K w M w1 M' ta us) (hgo:GtGo si m g X w1 r e w2) (ho:Only [] w2 w') (hgl:g<w.heap.size) (hgm:g∉footM m B M):
  ∃M' f',MSt m B K w M w' M' ta (g::(us++bs))∧GtIs w' si m g X f'∧ ∀y∈f',y∈us++bs∨(w.heap.size≤y∧y∉footM m B M'):=by
 obtain⟨_,f',h1,h2,h3⟩:=hgo
 refine⟨M',f',((hM.mono (fun z hz=>by simp[hz])).turn h3 (fun z hz=>⟨Or.inl (by rw[List.mem_singleton.1 hz];simp),by rw[List.mem_singleton.1 hz];exact hM.far hgl hgm⟩)).turn ho (fun z hz=>by cases hz),h1.only ho (by simp) (by simp),fun y hy=>Or.inr (hM.new (h2 y hy))⟩
theorem gt_ans {si m g:Nat} {B:MB} {K:Nat} {M M':MemS} {ta:MA} {x X:GtP} {uv fv:Value} {w w1 w2 w':World} {us us' bs:List Nat} {e:Ending} (hM:MSt m B K w M w1 M' ta us) (hat:X.u.at w1 si m g X.leaf uv fv us' bs) (hus: ∀z∈us',z∈us∨(w.heap.size≤z∧z∉footM m B M')) (hbs: ∀z∈bs,z∉us) (hbl: ∀z∈bs,z<w.heap.size) (hg:g∉us++bs) (hgl:g<w.heap.size) (hgm:g∉footM m B M)
  (hA:GtAn si g x uv fv w1 e w2) (hX: ∀W,GtBlk W g si x uv fv→GtBlk W g si X uv fv) (ho:Only [] w2 w'):
  ∃M' f',MSt m B K w M w' M' ta (g::(us++bs))∧GtIs w' si m g X f'∧ ∀y∈f',y∈us++bs∨(w.heap.size≤y∧y∉footM m B M'):=by
 obtain⟨_,hB,h3⟩:=hA
 have ng: ∀z∈us',z≠g:=fun z hz h=>by
  rcases hus z hz with h1 | h1
  ·exact hg (by rw[←h];simp[h1])
  ·have:=h1.1;omega
 have nb: ∀z∈bs,z≠g:=fun z hz h=>hg (by rw[←h];simp[hz])
 have hat':=(hat.only h3 (fun z hz=>by simpa using ng z hz) (fun z hz=>by simpa using nb z hz)).only ho (by simp) (by simp)
 refine⟨M',us'++bs,((hM.mono (fun z hz=>by simp[hz])).turn h3 (fun z hz=>⟨Or.inl (by rw[List.mem_singleton.1 hz];simp),by rw[List.mem_singleton.1 hz];exact hM.far hgl hgm⟩)).turn ho (fun z hz=>by cases hz),⟨⟨uv,fv,us',bs,ho.blk (hX _ hB) (by simp),hat',rfl,fun z hz h=> ?_⟩,fun h=> ?_⟩,fun y hy=> ?_⟩
 ·rcases hus z h with h1 | h1
  ·exact hbs z hz h1
  ·have:=hbl z hz;have:=h1.1;omega
 ·rcases List.mem_append.1 h with h1 | h1
  ·exact ng g h1 rfl
  ·exact nb g h1 rfl
 ·rcases List.mem_append.1 hy with h1 | h1
  ·exact(hus y h1).imp (fun h=>by simp[h]) id
  ·exact Or.inl (by simp[h1])
end Go.Proofs.YtjmaicckkkdjpaaGreat
/- Is a key among the law's keys? -/
namespace Go.Proofs.YtjmaicckkkdjpaaGreat
open Go.RowKit
theorem LHas_z (v:Value) (xs:List Int) (q:Int) (w:World) (hv:NumsAt .u64 w v xs) (hn:xs.length≤1000000):
  Calls Tryz.prog 16 #[v,.int .u64 q] w fun e w'=>e= .returned (.bool (decide (q∈xs)))∧w'=w:=by
 obtain⟨p,c,rfl,hp⟩:=hv
 obtain⟨n,hnn⟩: ∃n,n=xs.length:=⟨_,rfl⟩
 rw[←hnn]
 have HP:=hid (⟨hp,hnn,hn⟩:_∧_∧_)
 clear hp hn hnn
 go_enter Tryz.func16,Tryz.ntmps16
 go_wp2
 go_loopw [5] (fun i wr=> ∃k:Nat,k≤n∧i= .int .i64 (k:Int)∧wr=w∧Hid (∀j y,j<k→xs[j]?=some y→y≠q)) (fun i _=>n- (intOf i).toNat)
 case atStart=>exact⟨0,Nat.zero_le _,rfl,rfl,hid fun j y hj=>absurd hj (Nat.not_lt_zero _)⟩
 case round=>
  obtain⟨k,hk,rfl,rfl,hA⟩:=hrel
  by_cases hkn:k<n
  ·obtain⟨x,hx⟩: ∃x,xs[k]?=some x:=⟨_,List.getElem?_eq_getElem (by rw[←HP.out.2.1];exact hkn)⟩
   rcases HP.out.1 with h0 | ⟨r,off,rfl,hr,hc⟩
   ·rw[h0] at hx;simp at hx
   have c1:=hc k x hx
   have i0:(0:Int)≤(k:Int):=by omega
   have i1:(k:Int)< (n:Int):=by omega
   have i2:IntKind.i64.wrap ((k:Int)+1)=(k:Int)+1:=by rw[IntKind.wrap_i64];have:=HP.out.2.1;have:=HP.out.2.2;omega
   obtain⟨b,hb⟩: ∃b,b=(x==q):=⟨_,rfl⟩
   have HX:=hid (⟨hx,hb,hkn⟩:_∧_∧_)
   have b1:(x==q)=b:=hb.symm
   clear hx hb hkn hk
   cases b
   ·go_wp2_with fail
    go_roundw
    case rel=>
     refine⟨k+1,HX.out.2.2,by push_cast;rfl,trivial,hid fun j y hj hy=> ?_⟩
     by_cases hjk:j=k
     ·subst hjk
      rw[HX.out.1] at hy
      injection hy with hy
      subst hy
      simpa using b1
     ·exact hA.out j y (by omega) hy
    case measure=>simp[intOf];have:=HX.out.2.2;omega
   ·go_wp2_with fail
    go_ret
    refine⟨?_,rfl⟩
    have:q∈xs:=by
     have h1:x=q:=by simpa using b1
     rw[←h1]
     exact List.mem_of_getElem? HX.out.1
    simp[this]
  ·obtain rfl:k=n:=by omega
   have i1:decide ((k:Int)< (k:Int))=false:=decide_eq_false (by omega)
   clear hkn hk
   go_wp2_with fail
   go_ret
   refine⟨?_,rfl⟩
   have:q∉xs:=fun h=>by
    obtain⟨j,hj⟩:=List.mem_iff_getElem?.1 h
    exact hA.out j q (by have:=(List.getElem?_eq_some_iff.1 hj).1;rw[HP.out.2.1];exact this) hj rfl
   simp[this]
end Go.Proofs.YtjmaicckkkdjpaaGreat
