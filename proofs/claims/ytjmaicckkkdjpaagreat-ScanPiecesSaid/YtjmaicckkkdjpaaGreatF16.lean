import Derived.Test.YtjmaicckkkdjpaaGreatF15
/- A walk goes on with a snapshot. -/
set_option maxRecDepth 100000
set_option maxHeartbeats 6000000
set_option linter.unusedVariables false
set_option linter.unusedSimpArgs false
namespace Go.Proofs.YtjmaicckkkdjpaaGreat
open Go.RowKit
attribute [local go_sem ↓ high] nodeLoadAt nodeLoadVar nodeStoreAt
attribute [local go_sem] ldM_run lvM_run stM_run Oper.semAt_some run_store_fnG bldMg_run
theorem mSnapStep (v:Value) (w:World):(method 431 283 v "Step").run Tryz.prog w= .ok (236,v) w:=meth_own fuel_eq (by kernel_rfl) Tryz.underlying283 v w
theorem mLastStep (v:Value) (w:World):(method 431 267 v "Step").run Tryz.prog w= .ok (234,v) w:=meth_own fuel_eq (by kernel_rfl) Tryz.underlying267 v w
theorem taSnap (b:Nat) (W:World):(Instr.typeAssert (.iface 283 (ptrV b)) 230 283 true).run Tryz.prog W= .ok (.tuple #[ptrV b,.bool true]) W:=by kernel_rfl
theorem WkBlk.ret {w:World} {g si:Nat} {y:WkP} {uv fv:Value} (h:WkBlk w g si y uv fv) (uv' fv':Value) (u':WkU):WkBlk ((w.setCell ⟨g,30,none⟩ uv').setCell ⟨g,31,none⟩ fv') g si { y with u:=u' } uv' fv':=(h.set_ 30 uv').set_ 31 fv'
theorem WkP.eta0 {y:WkP} (h:y.over=false) (h0:y.e=0):({ y with over:=false,e:=0 }:WkP)=y:=by
 obtain⟨a1,a2,a3,a4,a5,a6,a7,a8,a9,a10,a11,a12⟩:=y
 simp only at h h0
 subst h h0
 rfl
theorem hop_fin {si m g b:Nat} {B:MB} {M M1:MemS} {K:Nat} {x:WkP} {S:SnP} {uv fv:Value} {w U w6 V2:World} {lb lr:Nat} {W7:World}
  (hok:WkOK M.view x) (hlk:(x.land S).look={ x.land S with u:= .hop ⟨x.client,[x.pa],false⟩ }) (hg:g<w.heap.size) (hgm:g∉footM m B M)
  (hMU:MSt m B K w M U M1 (absM M) [g,b]) (hsz:w.heap.size≤U.heap.size) (hU6:Below U.heap.size U w6) (hB6:WkBlk w6 g si (x.land S) uv fv)
  (hlb:W7.heap.size≤lb) (hlr:W7.heap.size≤lr) (hW7:U.heap.size≤W7.heap.size) (hlt:LtIs w6 m lb lr ⟨x.client,[x.pa],false⟩)
  (hV2:V2=(w6.setCell ⟨g,30,none⟩ (.iface 267 (ptrV lb))).setCell ⟨g,31,none⟩ (fnV 190 g)):
  Ending.returned (.tuple #[.bool false,.int .i64 0])=Ending.returned (.tuple #[.bool (x.land S).look.over,.int .i64 (x.land S).look.e])∧ ∃M' f',MSt m B K w M V2 M' (absM M) [g,b]∧WkIs V2 si m g { (x.land S).look with over:=false,e:=0 } f'∧ ∀y∈f',y∈[b]∨(w.heap.size≤y∧y∉footM m B M'):=by
 have hO:Only [g] w6 V2:=by rw[hV2];exact(by repeat(first | exact Only.refl _ _ | (refine Only.drew ?_) | (refine Only.drewN ?_ _) | (refine Only.setCell ?_ (Or.inl (by simp)) _) | (refine Only.alloc ?_ _)))
 have hgl:g<U.heap.size:=Nat.lt_of_lt_of_le hg hsz
 have n1:g≠lb:=by omega
 have n2:g≠lr:=by omega
 refine⟨by rw[hlk];show _=Ending.returned (.tuple #[.bool x.over,.int .i64 x.e]);rw[hok.live,hok.e0],M1,[lb,lr],?_,⟨⟨.iface 267 (ptrV lb),?_,?_⟩,?_⟩,fun y hy=>Or.inr ?_⟩
 ·exact(hMU.turn (js:=[]) (Only.of_below hU6 []) (fun y hy=>by cases hy)).turn hO (fun y hy=>⟨Or.inl (by rw[List.mem_singleton.1 hy];simp),by rw[List.mem_singleton.1 hy];exact hMU.far hg hgm⟩)
 ·rw[hlk,WkP.eta0 (y:={ x.land S with u:= .hop ⟨x.client,[x.pa],false⟩ }) hok.live hok.e0,hV2];exact WkBlk.ret hB6 _ _ _
 ·rw[hlk]
  obtain⟨⟨p,c,h2,h3,h4⟩,h5,h6⟩:=hlt
  refine⟨lb,lr,rfl,⟨⟨p,c,hO.blk h2 (by simpa using n1.symm),h3,fun hn=> ?_⟩,Nat.lt_of_lt_of_le h5 hO.size,h6⟩,rfl⟩
  obtain⟨off,q1,q2⟩:=h4 hn
  exact⟨off,q1,fun i a hi=>(hO.cell (p:=⟨lr,off+i,none⟩) h5 (by simpa using n2.symm)).trans (q2 i a hi)⟩
 ·simp;exact⟨n1,n2⟩
 ·refine hMU.new ?_
  simp at hy
  rcases hy with rfl | rfl<;>omega
theorem child_fin {si m g b b':Nat} {B:MB} {M M1:MemS} {K:Nat} (y:WkP) {a:Int} {w U w5 w6:World} (hov:y.over=false) (h0:y.e=0) (hg:g<w.heap.size) (hgm:g∉footM m B M)
  (hM:MSt m B K w M U M1 (absM M) [g,b]) (hsz:w.heap.size≤U.heap.size) (h5:Below U.drew.heap.size U.drew w5) (hW:WkIs w6 si m g (y.come a) [b']) (hb:w5.heap.size≤b') (ho:Only [g] w5 w6):
  Ending.returned (.tuple #[.bool false,.int .i64 0])=Ending.returned (.tuple #[.bool (y.come a).over,.int .i64 (y.come a).e])∧ ∃M' f',MSt m B K w M w6 M' (absM M) [g,b]∧WkIs w6 si m g { y.come a with over:=false,e:=0 } f'∧ ∀z∈f',z∈[b]∨(w.heap.size≤z∧z∉footM m B M'):=by
 refine⟨by show _=Ending.returned (.tuple #[.bool y.over,.int .i64 y.e]);rw[hov,h0],M1,[b'],?_,?_,fun z hz=>Or.inr ?_⟩
 ·refine((hM.turn (js:=[]) ((Only.refl [] U).drew) (fun z hz=>by cases hz)).turn (js:=[]) (Only.of_below h5 []) (fun z hz=>by cases hz)).turn ho (fun z hz=>⟨Or.inl (by rw[List.mem_singleton.1 hz];simp),by rw[List.mem_singleton.1 hz];exact hM.far hg hgm⟩)
 ·rw[WkP.eta0 (y:=y.come a) hov h0];exact hW
 ·refine hM.new ?_
  rw[List.mem_singleton.1 hz]
  have h1:U.heap.size≤w5.heap.size:=h5.size
  omega
theorem level_fin {si m g b:Nat} {B:MB} {M M1:MemS} {K:Nat} (y:WkP) {S:SnP} {w U:World} (hov:y.over=false) (h0:y.e=0) (hgb:g≠b) (hB:WkBlk U g si y (.iface 283 (ptrV b)) (fnV (wkFn y.u) g)) (hyu:y.u= .snap S)
  (hs:SnIs U m b S) (hM:MSt m B K w M U M1 (absM M) [g,b]) (n:Nat):
  Ending.returned (.tuple #[.bool true,.int .i64 0])=Ending.returned (.tuple #[.bool ({ y with over:=true }:WkP).over,.int .i64 ({ y with over:=true }:WkP).e])∧ ∃M' f',MSt m B K w M (U.drewN n) M' (absM M) [g,b]∧WkIs (U.drewN n) si m g { ({ y with over:=true }:WkP) with over:=false,e:=0 } f'∧ ∀z∈f',z∈[b]∨(w.heap.size≤z∧z∉footM m B M'):=by
 have ho:Only [] U (U.drewN n):=(Only.refl [] U).drewN n
 refine⟨by show _=Ending.returned (.tuple #[.bool true,.int .i64 y.e]);rw[h0],M1,[b],hM.turn (js:=[]) ho (fun z hz=>by cases hz),?_,fun z hz=>Or.inl hz⟩
 rw[show({ ({ y with over:=true }:WkP) with over:=false,e:=0 }:WkP)={ y with over:=false,e:=0 } from rfl,WkP.eta0 hov h0]
 refine⟨⟨.iface 283 (ptrV b),hB.drewN n,?_⟩,by simpa using hgb⟩
 rw[hyu]
 exact⟨b,rfl,ho.blk hs (by simp),rfl⟩
theorem XMem_d {a b c:Prop} {si m:Nat} {w:World} (h:a∧b∧c∧w.cell? ⟨si,0,none⟩=some (ptrV m)):Calls Tryz.prog 66 #[ptrV si] w fun e w'=>e= .returned (ptrV m)∧w'=w:=XMem_c si m w h.2.2.2
theorem WLook_z (si m g:Nat) (B:MB) (M:MemS) (K:Nat) (x:WkP) (s:SnP) (f:List Nat) (hu:x.u= .snap s) (hok:WkOK M.view x) (w:World) (hin:WkIn w si m g B M K f) (hs:WkIs w si m g x f):
  Calls Tryz.prog 181 #[ptrV g] w (WkPart si m g B M K x f w):=by
 obtain⟨⟨uv,hb,hat⟩,hgf⟩:=hs
 rw[hu] at hat
 obtain⟨b,rfl,hsn,rfl⟩:=hat
 obtain⟨q1,q2,q3,q4,q5,q6,q7,q8,q9,q10⟩:=hin
 obtain⟨hsok,hlv⟩:=hok.snap s hu
 have heff:x.eff (absM M)=absM M:=by unfold WkP.eff;rw[if_neg (by rw[hok.live];simp),hu]
 obtain⟨S,hS⟩: ∃S,S=s.next M.view:=⟨_,rfl⟩
 have hn:x.next M.view=if S.over=true then(x.land S).look else{ x with u:= .snap S }:=by unfold WkP.next;rw[if_neg (by rw[hok.live];simp),hu,hS]
 have SS:=SStep_s m b B M s hsok w q1.is hsn (q10 b (by simp))
 rw[←hS] at SS hlv
 have SS:=hid SS
 have c30:w.cell? ⟨g,30,none⟩=some (.iface 283 (ptrV b)):=hb.cell 30
 have hgb:g≠b:=fun e=>hgf (by rw[e];simp)
 have hgm:g≠m:=fun e=>q9 (by rw[e];simp[footM])
 unfold WkPart
 rw[hn,heff]
 have HX:=hid (⟨q1,q2,hb,hgb,hgm,hok,q9⟩:_∧_∧_∧_∧_∧_∧_)
 have HX2:=hid q2
 have HSI:=hid (⟨q4,q5,q6,q8,q7⟩:_∧_∧_∧_∧_)
 have hms:=fun v W=>mSnapStep v W
 have hta:=fun W=>taSnap b W
 have hse:S.e=0:=by
  rw[hS]
  unfold SnP.next
  rw[if_neg (by rw[hsok.live];simp)]
  exact hsok.ne
 have HSE:=hid hse
 clear hb hgf q1 q2 q3 q4 q5 q6 q7 q8 q9 q10 hok hn heff hsok hS hsn hgb hgm hse
 cases hov:S.over with
 | false=>
  rw[hov] at SS
  rw[if_neg (by simp)]
  go_enter Tryz.func181,Tryz.ntmps181
  go_wp2_with fail
  refine SS.out.mono ?_
  rintro e w1 ⟨rfl,hL,hsn1⟩
  have hho:Only [b,m] w w1:=by obtain⟨_,_,_,_,_,_,ho⟩:=hL;exact ho
  have hB1:WkBlk w1 g si x (.iface 283 (ptrV b)) (fnV (wkFn x.u) g):=hho.blk HX.out.2.2.1 (by simp only[List.mem_cons,List.not_mem_nil,or_false];rintro(h | h);exact HX.out.2.2.2.1 h;exact HX.out.2.2.2.2.1 h)
  have c30':w1.cell? ⟨g,30,none⟩=some (.iface 283 (ptrV b)):=hB1.cell 30
  have HH:=hid (⟨hL,hsn1,hB1⟩:_∧_∧_)
  clear hL hsn1 hho hB1 SS
  go_wp2_with fail
  go_ret2
  obtain⟨hL,hsn1,hB1⟩:=HH.out
  obtain⟨M1,hM1⟩:=MSt.of_load (ks:=[b]) HX.out.1 HX2.out hL
  refine⟨?_,M1,[b],hM1.mono (by simp),⟨⟨_,?_,b,rfl,hsn1,rfl⟩,by simpa using HX.out.2.2.2.1⟩,fun y hy=>Or.inl hy⟩
  ·show _=Ending.returned (.tuple #[.bool x.over,.int .i64 x.e])
   rw[HX.out.2.2.2.2.2.1.live,HX.out.2.2.2.2.2.1.e0];rfl
  ·have e:({ ({ x with u:= .snap S }:WkP) with over:=false,e:=0 }:WkP)={ x with u:= .snap S }:=by
    rw[show({ ({ x with u:= .snap S }:WkP) with over:=false,e:=0 }:WkP)={ x with u:= .snap S,over:=x.over,e:=x.e } by rw[HX.out.2.2.2.2.2.1.live,HX.out.2.2.2.2.2.1.e0]]
   rw[e]
   have h:=hB1
   rw[hu] at h
   exact h
 | true=>
  rw[hov] at SS
  rw[if_pos rfl]
  have HOV:=hid (⟨hov,hlv hov⟩:_∧_)
  clear hov hlv
  go_enter Tryz.func181,Tryz.ntmps181
  go_wp2_with fail
  refine SS.out.mono ?_
  rintro e w1 ⟨rfl,hL,hsn1⟩
  have hho:Only [b,m] w w1:=by obtain⟨_,_,_,_,_,_,ho⟩:=hL;exact ho
  have hB1:WkBlk w1 g si x (.iface 283 (ptrV b)) (fnV (wkFn x.u) g):=hho.blk HX.out.2.2.1 (by simp only[List.mem_cons,List.not_mem_nil,or_false];rintro(h | h);exact HX.out.2.2.2.1 h;exact HX.out.2.2.2.2.1 h)
  have c30':w1.cell? ⟨g,30,none⟩=some (.iface 283 (ptrV b)):=hB1.cell 30
  have NZ:=hid (SNode_s m b S HOV.out.1 HSE.out w1 hsn1)
  have HH:=hid (⟨hL,hsn1,hB1,hho⟩:_∧_∧_∧_)
  clear hL hsn1 hho hB1 SS
  go_wp2_with fail
  refine NZ.out.mono ?_
  rintro e w2 ⟨rfl,hb2⟩
  have hB2:WkBlk w2 g si x (.iface 283 (ptrV b)) (fnV (wkFn x.u) g):=HH.out.2.2.1.bel hb2
  have hsn2:=HH.out.2.1.bel hb2
  obtain⟨W3,hst3,k3,o3⟩:=WkBlk.stn hB2 S.nd
  have hsn3:SnIs W3 m b S:=o3.blk hsn2 (by simpa using HX.out.2.2.2.1.symm)
  have HG:=hid (SHigh_s m b S HOV.out.1 HSE.out W3 hsn3)
  have H3:=hid (⟨hb2,k3,o3,hsn3⟩:_∧_∧_∧_)
  clear hb2 hB2 hsn2 k3 o3 hsn3 NZ
  go_wp2_with fail
  refine HG.out.mono ?_
  rintro e w4 ⟨rfl,hb4⟩
  have hB4:=H3.out.2.1.bel hb4
  have c26:w4.cell? ⟨g,26,none⟩=some (.int .u64 x.ph):=hB4.cell 26
  have c27:w4.cell? ⟨g,27,none⟩=some (.bool x.phas):=hB4.cell 27
  have f26:=hB4.frozen 26
  have f27:=hB4.frozen 27
  obtain⟨ph,hph⟩: ∃ph,ph=if S.has=true then S.high else 0:=⟨_,rfl⟩
  rw[←hph]
  have H4:=hid (⟨hb4,hB4,hph⟩:_∧_∧_)
  clear hb4 hB4 HG hph
  go_upto_region 8 with fail
  obtain⟨V,hV⟩: ∃V,V=(w4.setCell ⟨g,26,none⟩ (.int .u64 ph)).setCell ⟨g,27,none⟩ (.bool S.has):=⟨_,rfl⟩
  rw[show _=V from hV.symm]
  obtain⟨hb4,hB4,hph⟩:=H4.out
  obtain⟨hb2,k3,o3,hsn3⟩:=H3.out
  obtain⟨hL,hsn1,hB1,hho⟩:=HH.out
  have hBV:WkBlk V g si (x.land S) (.iface 283 (ptrV b)) (fnV (wkFn x.u) g):=by
   have h:=(hB4.set_ 26 (.int .u64 ph)).set_ 27 (.bool S.has)
   rw[hph] at h
   rw[hV,hph];exact h
  have hOV:Only [g] w1 V:=by
   have o4:Only [g] W3 w4:=Only.of_below hb4 [g]
   have o5:Only [g] w4 V:=by rw[hV];exact(by repeat(first | exact Only.refl _ _ | (refine Only.drew ?_) | (refine Only.drewN ?_ _) | (refine Only.setCell ?_ (Or.inl (by simp)) _) | (refine Only.alloc ?_ _)))
   exact(((Only.of_below hb2 [g]).trans o3 (fun y hy=>Or.inl hy)).trans o4 (fun y hy=>Or.inl hy)).trans o5 (fun y hy=>Or.inl hy)
  have hsnV:SnIs V m b S:=by
   have h4:SnIs w4 m b S:=hsn3.bel hb4
   rw[hV]
   exact(Only.setCell (Only.setCell (Only.refl [g] w4) (Or.inl (by simp)) _) (Or.inl (by simp)) _:Only [g] w4 _).blk h4 (by simpa using HX.out.2.2.2.1.symm)
  have hsiV:V.cell? ⟨si,0,none⟩=some (ptrV m):=by
   have h1:w1.cell? ⟨si,0,none⟩=some (ptrV m):=(hho.cell (p:=⟨si,0,none⟩) HSI.out.2.1 (by
    simp only[List.mem_cons,List.not_mem_nil,or_false]
    rintro(h | h)
    ·exact HSI.out.2.2.2.2 (by rw[h];simp)
    ·exact HSI.out.2.2.2.1 (by rw[h];simp[footM]))).trans HSI.out.1
   exact(hOV.cell (p:=⟨si,0,none⟩) (Nat.lt_of_lt_of_le HSI.out.2.1 hho.size) (by simpa using HSI.out.2.2.1)).trans h1
  obtain⟨M1,hM1⟩:=MSt.of_load (ks:=[b]) HX.out.1 HX2.out hL
  have hMV:MSt m B K w M V M1 (absM M) [g,b]:=(hM1.mono (by simp)).turn (js:=[g]) hOV (fun y hy=>⟨Or.inl (by rw[List.mem_singleton.1 hy];simp),by rw[List.mem_singleton.1 hy];exact hM1.far HX.out.2.2.1.lt HX.out.2.2.2.2.2.2⟩)
  have HV:=hid (⟨hBV,hsnV,hsiV,hMV,Nat.le_trans hho.size hOV.size⟩:_∧_∧_∧_∧_)
  have d27:V.cell? ⟨g,27,none⟩=some (.bool S.has):=hBV.cell 27
  have d26:V.cell? ⟨g,26,none⟩=some (.int .u64 ((x.land S).ph)):=hBV.cell 26
  have d2:V.cell? ⟨g,2,none⟩=some (.int .u64 x.key):=hBV.cell 2
  have d5:V.cell? ⟨g,5,none⟩=some (.int .i64 S.nd.lv):=hBV.cell 5
  have d3:V.cell? ⟨g,3,none⟩=some (.int .i64 0):=by rw[←HX.out.2.2.2.2.2.1.level];exact hBV.cell 3
  have d0:V.cell? ⟨g,0,none⟩=some (ptrV si):=hBV.cell 0
  have d1:V.cell? ⟨g,1,none⟩=some (.int .i64 x.client):=hBV.cell 1
  have d4:V.cell? ⟨g,4,none⟩=some (.int .u64 x.pa):=hBV.cell 4
  clear hb4 hB4 hph hb2 k3 o3 hsn3 hL hsn1 hB1 hho hBV hOV hsnV hsiV hM1 hMV hV H4 H3 HH c26 c27 f26 f27 c30' SS
  by_cases hhop:S.has=true∧(x.land S).ph≤x.key
  ·have b7:decide (x.key≥(x.land S).ph)=true:=decide_eq_true hhop.2
   rw[hhop.1] at d27
   have hlook:(x.land S).look={ x.land S with u:= .hop ⟨x.client,[x.pa],false⟩ }:=by unfold WkP.look;rw[if_pos ⟨hhop.1,hhop.2⟩];rfl
   have HLK:=hid hlook
   clear hlook hhop
   go_upto_region 8 with fail
   go_quiet (fail)
   obtain⟨U,hU⟩: ∃U,U=V.drewN nq:=⟨_,rfl⟩
   rw[show _=U from hU.symm]
   obtain⟨hBV,hsnV,hsiV,hMV,hsz⟩:=HV.out
   have hBU:WkBlk U g si (x.land S) (.iface 283 (ptrV b)) (fnV (wkFn x.u) g):=by rw[hU];exact hBV.drewN nq
   have hsiU:U.cell? ⟨si,0,none⟩=some (ptrV m):=by rw[hU];exact hsiV
   have hMU:MSt m B K w M U M1 (absM M) [g,b]:=hMV.turn (js:=[]) (by rw[hU];exact(Only.refl _ _).drewN nq) (fun y hy=>by cases hy)
   have hszU:w.heap.size≤U.heap.size:=by rw[hU];exact hsz
   have HU:=hid (⟨hBU,hsiU,hMU,hszU⟩:_∧_∧_∧_)
   have SF: ∀W,WkBlk W g si (x.land S) (.iface 283 (ptrV b)) (fnV (wkFn x.u) g)→W.cell? ⟨si,0,none⟩=some (ptrV m)→W.cell? ⟨g,0,none⟩=some (ptrV si)∧W.cell? ⟨g,1,none⟩=some (.int .i64 x.client)∧W.cell? ⟨g,4,none⟩=some (.int .u64 x.pa)∧W.cell? ⟨si,0,none⟩=some (ptrV m):=fun W h1 h2=>⟨h1.cell 0,h1.cell 1,h1.cell 4,h2⟩
   have sA:=SF U.drew hBU.drew hsiU
   have sB:=SF (U.alloc (.cells #[.int .u64 x.pa] 62)).drew (hBU.alloc (.cells #[.int .u64 x.pa] 62)).drew (ca (.cells #[.int .u64 x.pa] 62) hsiU)
   have hnums:NumsAt .u64 (U.alloc (.cells #[.int .u64 x.pa] 62)).drew (.slice (some ⟨U.heap.size,0,none⟩) 1 1) [x.pa]:=by
    refine⟨_,1,rfl,Or.inr ⟨U.heap.size,0,rfl,?_,fun i y hi=> ?_⟩⟩
    ·show U.heap.size< (U.alloc _).heap.size
     rw[World.size_alloc];omega
    ·cases i with
     | zero=>
      injection hi with hi
      rw[←hi]
      exact(Blk.new U 62 #[.int .u64 x.pa]).cell 0
     | succ i=>simp at hi
   have LN:=hid (LtNew_z m x.client (.slice (some ⟨U.heap.size,0,none⟩) 1 1) [x.pa] _ hnums (by simp) (by simp))
   have hgsi:g≠si:=fun e=>HSI.out.2.2.1 e.symm
   have KF:Hid (∀W v1 v2,Below (U.alloc (.cells #[.int .u64 x.pa] 62)).drew.heap.size (U.alloc (.cells #[.int .u64 x.pa] 62)).drew W→(WkBlk W g si (x.land S) (.iface 283 (ptrV b)) (fnV (wkFn x.u) g)∧Below U.heap.size U W)∧(W.cell? ⟨g,0,none⟩=some (ptrV si)∧W.cell? ⟨g,1,none⟩=some (.int .i64 x.client)∧W.cell? ⟨g,4,none⟩=some (.int .u64 x.pa)∧W.cell? ⟨si,0,none⟩=some (ptrV m))∧((W.setCell ⟨g,30,none⟩ v1).cell? ⟨g,0,none⟩=some (ptrV si)∧(W.setCell ⟨g,30,none⟩ v1).cell? ⟨g,1,none⟩=some (.int .i64 x.client)∧(W.setCell ⟨g,30,none⟩ v1).cell? ⟨g,4,none⟩=some (.int .u64 x.pa)∧(W.setCell ⟨g,30,none⟩ v1).cell? ⟨si,0,none⟩=some (ptrV m))∧(((W.setCell ⟨g,30,none⟩ v1).setCell ⟨g,31,none⟩ v2).cell? ⟨g,0,none⟩=some (ptrV si)∧((W.setCell ⟨g,30,none⟩ v1).setCell ⟨g,31,none⟩ v2).cell? ⟨g,1,none⟩=some (.int .i64 x.client)∧((W.setCell ⟨g,30,none⟩ v1).setCell ⟨g,31,none⟩ v2).cell? ⟨g,4,none⟩=some (.int .u64 x.pa)∧((W.setCell ⟨g,30,none⟩ v1).setCell ⟨g,31,none⟩ v2).cell? ⟨si,0,none⟩=some (ptrV m))):=fun W v1 v2 hW=>by
    have h1:WkBlk W g si (x.land S) (.iface 283 (ptrV b)) (fnV (wkFn x.u) g):=((hBU.alloc (.cells #[.int .u64 x.pa] 62)).drew).bel hW
    have h2:Below U.heap.size U W:=bx (Below.drew (ba (Below.refl _ _) _)) hW
    have h3:W.cell? ⟨si,0,none⟩=some (ptrV m):=(h2.cell (p:=⟨si,0,none⟩) (World.block_lt_of_cell? _ _ hsiU)).trans hsiU
    have h4: ∀W':World,W'.cell? ⟨si,0,none⟩=some (ptrV m)→ ∀i v,(W'.setCell ⟨g,i,none⟩ v).cell? ⟨si,0,none⟩=some (ptrV m):=fun W' h i v=>(World.cell?_setCell_far W' ⟨g,i,none⟩ ⟨si,0,none⟩ v hgsi).trans h
    exact⟨⟨h1,h2⟩,SF _ h1 h3,⟨(h1.set_ 30 v1).cell 0,(h1.set_ 30 v1).cell 1,(h1.set_ 30 v1).cell 4,h4 _ h3 _ _⟩,⟨((h1.set_ 30 v1).set_ 31 v2).cell 0,((h1.set_ 30 v1).set_ 31 v2).cell 1,((h1.set_ 30 v1).set_ 31 v2).cell 4,h4 _ (h4 _ h3 _ _) _ _⟩⟩
   clear hBV hsnV hsiV hMV hsz hBU hsiU hMU hszU hnums d27 d26 d2 d5 d3 d0 d1 d4 hU HV SF c30 b7 hgsi
   go_upto_region 9 with fail
   go_region_held3 (fun W=>W.cell? ⟨g,0,none⟩=some (ptrV si)∧W.cell? ⟨g,1,none⟩=some (.int .i64 x.client)∧W.cell? ⟨g,4,none⟩=some (.int .u64 x.pa)∧W.cell? ⟨si,0,none⟩=some (ptrV m)) (first | go_keep | (exact sC) | (exact sD) | (exact sE))
    (first | (go_at_call 66;refine(XMem_d (by assumption)).mono ?_;rintro e w5 ⟨rfl,rfl⟩) | (go_at_call 158;refine LN.out.mono ?_;rintro e w6 ⟨lb,lr,rfl,hlb,hlr,hlt,hbe⟩;obtain⟨⟨hB6,hU6⟩,sC,sD,sE⟩:=KF.out w6 (.iface 267 (ptrV lb)) (fnV 190 g) hbe;have c30:w6.cell? ⟨g,30,none⟩=some (.iface 283 (ptrV b)):=hB6.cell 30;have c31:w6.cell? ⟨g,31,none⟩=some (fnV (wkFn x.u) g):=hB6.cell 31;have f30:=hB6.frozen 30;have f31:=hB6.frozen 31;have H6:=hid (⟨hlb,hlr,hlt,hB6,hU6⟩:_∧_∧_∧_∧_);clear hlb hlr hlt hbe hB6 hU6))
   all_goals
    go_wp2_with fail
    go_ret2
    obtain⟨hlb,hlr,hlt,hB6,hU6⟩:=H6.out
    obtain⟨hBU,hsiU,hMU,hszU⟩:=HU.out
    obtain⟨V2,hV2⟩: ∃V2,V2=(w6.setCell ⟨g,30,none⟩ (.iface 267 (ptrV lb))).setCell ⟨g,31,none⟩ (fnV 190 g):=⟨_,rfl⟩
    rw[show _=V2 from hV2.symm]
    exact hop_fin HX.out.2.2.2.2.2.1 HLK.out HX.out.2.2.1.lt HX.out.2.2.2.2.2.2 hMU hszU hU6 hB6 hlb hlr (by show _≤(U.alloc _).heap.size;rw[World.size_alloc];omega) hlt hV2
  ·have hlook:(x.land S).look=if 0<S.nd.lv then(x.land S).come (childN S.nd x.key) else{ x.land S with over:=true }:=by
    have h0:=HX.out.2.2.2.2.2.1.level
    have h1:=HOV.out.2
    unfold WkP.look
    rw[if_neg (show ¬((x.land S).phas=true∧(x.land S).ph≤(x.land S).key) from hhop)]
    show(if x.level<S.nd.lv then(x.land S).come (childN S.nd x.key) else if S.nd.lv<x.level then{ x.land S with over:=true,e:=5 } else{ x.land S with over:=true })=_
    rw[h0,if_neg (show ¬S.nd.lv<0 by omega)]
   have HLK:=hid hlook
   clear hlook
   cases hh:S.has
   all_goals
    rw[hh] at d27
    first
     | (have b7:decide (x.key≥(x.land S).ph)=false:=decide_eq_false (fun h=>hhop ⟨hh,h⟩))
     | skip
    clear hhop hh
    go_upto_region 8 with fail
    go_quiet (fail)
    try clear b7
    obtain⟨U,hU⟩: ∃U,U=V.drewN nq:=⟨_,rfl⟩
    rw[show _=U from hU.symm]
    have u5:U.cell? ⟨g,5,none⟩=some (.int .i64 S.nd.lv):=by rw[hU];exact d5
    have u3:U.cell? ⟨g,3,none⟩=some (.int .i64 0):=by rw[hU];exact d3
    obtain⟨hBV,hsnV,hsiV,hMV,hsz⟩:=HV.out
    have hBU:WkBlk U g si (x.land S) (.iface 283 (ptrV b)) (fnV (wkFn x.u) g):=by rw[hU];exact hBV.drewN nq
    have hsnU:SnIs U m b S:=by rw[hU];exact((Only.refl [] V).drewN nq).blk hsnV (by simp)
    have hsiU:U.cell? ⟨si,0,none⟩=some (ptrV m):=by rw[hU];exact hsiV
    have hMU:MSt m B K w M U M1 (absM M) [g,b]:=hMV.turn (js:=[]) (by rw[hU];exact(Only.refl _ _).drewN nq) (fun y hy=>by cases hy)
    have hszU:w.heap.size≤U.heap.size:=by rw[hU];exact hsz
    have HU:=hid (⟨hBU,hsnU,hsiU,hMU,hszU⟩:_∧_∧_∧_∧_)
    clear hBV hsnV hsiV hMV hsz hBU hsnU hsiU hMU hszU d27 d26 d2 d5 d3 d0 d1 d4 HV c30
    clear hU
    clear nq
    go_upto_region 10 with fail
    by_cases hl:0<S.nd.lv
    ·rw[if_pos hl] at HLK
     have b10:decide (S.nd.lv>0)=true:=decide_eq_true hl
     clear hl
     go_quiet (fail)
     clear b10 u5 u3
     obtain⟨U2,hU2⟩: ∃U2,U2=U.drewN nq:=⟨_,rfl⟩
     rw[show _=U2 from hU2.symm]
     obtain⟨hBU,hsnU,hsiU,hMU,hszU⟩:=HU.out
     have hB2:WkBlk U2 g si (x.land S) (.iface 283 (ptrV b)) (fnV (wkFn x.u) g):=by rw[hU2];exact hBU.drewN nq
     have hsi2:U2.cell? ⟨si,0,none⟩=some (ptrV m):=by rw[hU2];exact hsiU
     have hM2:MSt m B K w M U2 M1 (absM M) [g,b]:=hMU.turn (js:=[]) (by rw[hU2];exact(Only.refl _ _).drewN nq) (fun y hy=>by cases hy)
     have hsz2:w.heap.size≤U2.heap.size:=by rw[hU2];exact hszU
     have d2:U2.drew.cell? ⟨g,2,none⟩=some (.int .u64 x.key):=hB2.drew.cell 2
     have dn:ldR Tryz.prog 77 (.pointer (some ⟨g,5,none⟩)) U2.drew= .ok (.agg (nodeC S.nd)) U2.drew:=WkBlk.ldn (x:=x.land S) hB2.drew
     have CH:=hid (Child_z S.nd x.key U2.drew)
     have KC:Hid (∀W,Below U2.drew.heap.size U2.drew W→Calls Tryz.prog 154 #[ptrV g,.int .u64 (childN S.nd x.key)] W fun e w'=>e= .returned (.tuple #[])∧ ∃b',WkIs w' si m g ((x.land S).come (childN S.nd x.key)) [b']∧W.heap.size≤b'∧Only [g] W w'):=hid fun W hW=>
      Come_z si m g (x.land S) _ _ _ W (hB2.drew.bel hW) ((hW.cell (p:=⟨si,0,none⟩) (World.block_lt_of_cell? _ _ hsi2)).trans hsi2) (Nat.lt_of_lt_of_le (World.block_lt_of_cell? _ _ hsi2) hW.size) HSI.out.2.2.1
     have H2:=hid (⟨hM2,hsz2⟩:_∧_)
     clear hBU hsnU hsiU hMU hszU hB2 hsi2 hM2 hsz2 hU2 HU nq
     go_upto_region 11 with fail
     go_region_with
      (first | (go_at_call 191;refine CH.out.mono ?_;rintro e w5 ⟨rfl,hb5⟩;have HB5:=hid hb5;clear hb5 d2 dn) | (go_at_call 154;refine(KC.out _ HB5.out).mono ?_;rintro e w6 ⟨rfl,b',hW6,hb6,ho6⟩;have H6:=hid (⟨hW6,hb6,ho6⟩:_∧_∧_);clear hW6 hb6 ho6))
     all_goals
      go_wp2_with fail
      go_ret2
      rw[HLK.out]
      exact child_fin (x.land S) HX.out.2.2.2.2.2.1.live HX.out.2.2.2.2.2.1.e0 HX.out.2.2.1.lt HX.out.2.2.2.2.2.2 H2.out.1 H2.out.2 HB5.out H6.out.1 H6.out.2.1 H6.out.2.2
    ·rw[if_neg hl] at HLK
     have b10:decide (S.nd.lv>0)=false:=decide_eq_false hl
     have b12:decide (S.nd.lv<0)=false:=decide_eq_false (by have:=HOV.out.2;omega)
     clear hl
     go_quiet (fail)
     clear b10
     obtain⟨U2,hU2⟩: ∃U2,U2=U.drewN nq:=⟨_,rfl⟩
     rw[show _=U2 from hU2.symm]
     obtain⟨hBU,hsnU,hsiU,hMU,hszU⟩:=HU.out
     have hB2:WkBlk U2 g si (x.land S) (.iface 283 (ptrV b)) (fnV (wkFn x.u) g):=by rw[hU2];exact hBU.drewN nq
     have hsn2:SnIs U2 m b S:=by rw[hU2];exact((Only.refl [] U).drewN nq).blk hsnU (by simp)
     have hM2:MSt m B K w M U2 M1 (absM M) [g,b]:=hMU.turn (js:=[]) (by rw[hU2];exact(Only.refl _ _).drewN nq) (fun y hy=>by cases hy)
     have u5':U2.cell? ⟨g,5,none⟩=some (.int .i64 S.nd.lv):=by rw[hU2];exact u5
     have u3':U2.cell? ⟨g,3,none⟩=some (.int .i64 0):=by rw[hU2];exact u3
     have H2:=hid (⟨hB2,hsn2,hM2⟩:_∧_∧_)
     clear hBU hsnU hsiU hMU hszU hB2 hsn2 hM2 HU hU2 u5 u3 nq
     go_upto_region 12 with fail
     go_quiet (fail)
     go_wp2_with fail
     go_ret2
     rw[HLK.out]
     obtain⟨r1,M',f',r2,r3,r4⟩:=level_fin (x.land S) HX.out.2.2.2.2.2.1.live HX.out.2.2.2.2.2.1.e0 HX.out.2.2.2.1 (by have h:=H2.out.1;rw[hu] at h;exact h) rfl H2.out.2.1 H2.out.2.2 nq
     exact⟨r1,M',r2,f',r3,by simpa using r4⟩
end Go.Proofs.YtjmaicckkkdjpaaGreat
