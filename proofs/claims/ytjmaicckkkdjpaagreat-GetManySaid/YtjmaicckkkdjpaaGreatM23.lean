import Derived.Test.YtjmaicckkkdjpaaGreatM22
set_option maxRecDepth 100000
set_option maxHeartbeats 6000000
set_option linter.unusedVariables false
set_option linter.unusedSimpArgs false
/- A walk goes on over a link to the right. -/
namespace Go.Proofs.YtjmaicckkkdjpaaGreat
open Go.RowKit
attribute [local go_sem ↓ high] nodeLoadAt nodeLoadVar nodeStoreAt
attribute [local go_sem] ldM_run lvM_run stM_run Oper.semAt_some run_store_fnG bldMg_run
theorem come_fin {si m g b':Nat} {f:List Nat} {B:MB} {M M1:MemS} {K:Nat} {ta:MA} (y:WkP) {a:Int} {w U w6:World} (hov:y.over=false) (h0:y.e=0) (hg:g<w.heap.size) (hgm:g∉footM m B M)
  (hM:MSt m B K w M U M1 ta (g::f)) (hsz:w.heap.size≤U.heap.size) (hW:WkIs w6 si m g (y.come a) [b']) (hb:U.heap.size≤b') (ho:Only [g] U w6):
  Ending.returned (.tuple #[.bool false,.int .i64 0])=Ending.returned (.tuple #[.bool (y.come a).over,.int .i64 (y.come a).e])∧ ∃M' f',MSt m B K w M w6 M' ta (g::f)∧WkIs w6 si m g { y.come a with over:=false,e:=0 } f'∧ ∀z∈f',z∈f∨(w.heap.size≤z∧z∉footM m B M'):=by
 refine⟨by show _=Ending.returned (.tuple #[.bool y.over,.int .i64 y.e]);rw[hov,h0],M1,[b'],?_,?_,fun z hz=>Or.inr ?_⟩
 ·exact hM.turn ho (fun z hz=>⟨Or.inl (by rw[List.mem_singleton.1 hz];simp),by rw[List.mem_singleton.1 hz];exact hM.far hg hgm⟩)
 ·rw[WkP.eta0 (y:=y.come a) hov h0];exact hW
 ·exact hM.new (by rw[List.mem_singleton.1 hz];exact hb)
theorem WkBlk.low {w:World} {g si:Nat} {y:WkP} {uv fv:Value} (h:WkBlk w g si y uv fv) (a d:Int):WkBlk ((w.setCell ⟨g,28,none⟩ (.int .u64 a)).setCell ⟨g,29,none⟩ (.int .u64 d)) g si { y with low:=a,dest:=d } uv fv:=(h.set_ 28 (.int .u64 a)).set_ 29 (.int .u64 d)
theorem WHop_z (si m g:Nat) (B:MB) (M:MemS) (K:Nat) (x:WkP) (l:LtP) (f:List Nat) (hu:x.u= .hop l) (hok:WkOK M.view x) (w:World) (hin:WkIn w si m g B M K f) (hs:WkIs w si m g x f):
  Calls Tryz.prog 190 #[ptrV g] w (WkPart si m g B M K x f w):=by
 obtain⟨⟨uv,hb,hat⟩,hgf⟩:=hs
 rw[hu] at hat
 obtain⟨b,r,rfl,hlt,rfl⟩:=hat
 obtain⟨q1,q2,q3,q4,q5,q6,q7,q8,q9,q10⟩:=hin
 obtain⟨hlo,hlc,hll⟩:=hok.hop l hu
 have heff:x.eff (absM M)=l.eff (absM M):=by unfold WkP.eff;rw[if_neg (by rw[hok.live];simp),hu]
 have hn:x.next M.view=if l.next.over=true then({ x with u:= .hop l.next }:WkP).hopped else{ x with u:= .hop l.next }:=by unfold WkP.next;rw[if_neg (by rw[hok.live];simp),hu]
 have SS:=hid (LtStep_z m b r B M K q3 l hlo hlc hll w q1 q2 hlt (q10 b (by simp)) (q10 r (by simp)))
 have c30:w.cell? ⟨g,30,none⟩=some (.iface 267 (ptrV b)):=hb.cell 30
 have hgb:g≠b:=fun e=>hgf (by rw[e];simp)
 unfold WkPart
 rw[hn,heff]
 have HX:=hid (⟨q1,q2,hb,hgf,hgb,hok,q9⟩:_∧_∧_∧_∧_∧_∧_)
 have HSI:=hid (⟨q4,q5,q6,q8,q7⟩:_∧_∧_∧_∧_)
 have hms:=fun v W=>mLastStep v W
 have hov:=hok.live
 have he0:=hok.e0
 have hl0:=hok.level
 clear hb hgf q1 q2 q3 q4 q5 q6 q7 q8 q9 q10 hok hn heff hlo hlc hll hlt hgb
 have KF:Hid (∀M1 w1,MSt m B K w M w1 M1 (l.eff (absM M)) [b]→WkBlk w1 g si x (.iface 267 (ptrV b)) (fnV (wkFn x.u) g)∧w1.cell? ⟨si,0,none⟩=some (ptrV m)∧MSt m B K w M w1 M1 (l.eff (absM M)) [g,b,r]∧w.heap.size≤w1.heap.size):=hid fun M1 w1 hM=>
  ⟨hM.only.blk HX.out.2.2.1 (by
    intro h
    rcases List.mem_append.1 h with h | h
    ·exact HX.out.2.2.2.2.1 (by simpa using h)
    ·exact HX.out.2.2.2.2.2.2 h),
   (hM.only.cell (p:=⟨si,0,none⟩) HSI.out.2.1 (by
    intro h
    rcases List.mem_append.1 h with h | h
    ·exact HSI.out.2.2.2.2 (by simp only[List.mem_singleton] at h;rw[h];simp)
    ·exact HSI.out.2.2.2.1 h)).trans HSI.out.1,hM.mono (by simp),hM.only.size⟩
 cases hno:l.next.over with
 | false=>
  rw[if_neg (by simp)]
  go_enter Tryz.func190,Tryz.ntmps190
  go_wp2_with fail
  refine SS.out.mono ?_
  intro e w1 hp
  unfold LtPost at hp
  rw[hno] at hp
  obtain⟨rfl,M1,hM,hlt⟩:=hp
  have HH:=hid (⟨hM,hlt⟩:_∧_)
  clear hM hlt SS
  go_wp2_with fail
  go_ret2
  obtain⟨hM,hlt⟩:=HH.out
  obtain⟨hB1,_,hM1,_⟩:=KF.out M1 w1 hM
  refine⟨?_,M1,[b,r],hM1,⟨⟨.iface 267 (ptrV b),?_,b,r,rfl,hlt,rfl⟩,by simpa using HX.out.2.2.2.1⟩,fun y hy=>Or.inl hy⟩
  ·show _=Ending.returned (.tuple #[.bool x.over,.int .i64 x.e])
   rw[hov,he0]
   rfl
  ·rw[WkP.eta0 (y:={ x with u:= .hop l.next }) hov he0]
   have h:=hB1
   rw[hu] at h
   exact h
 | true=>
  rw[if_pos rfl]
  go_enter Tryz.func190,Tryz.ntmps190
  go_wp2_with fail
  refine SS.out.mono ?_
  intro e w1 hp
  unfold LtPost at hp
  rw[hno] at hp
  obtain⟨rfl,M1,hM,hlt⟩:=hp
  obtain⟨hB1,hsi1,hM1,hsz1⟩:=KF.out M1 w1 hM
  have d5:w1.cell? ⟨g,5,none⟩=some (.int .i64 x.pn.lv):=hB1.cell 5
  have d3:w1.cell? ⟨g,3,none⟩=some (.int .i64 0):=by rw[←hl0];exact hB1.cell 3
  have H1:=hid (⟨hB1,hsi1,hM1,hsz1⟩:_∧_∧_∧_)
  clear hM hlt hB1 hsi1 hM1 hsz1 SS KF
  have hhp:({ x with u:= .hop l.next }:WkP).hopped=if x.pn.lv=0 then({ x with u:= .hop l.next,low:=x.ph,dest:=x.pn.nx }:WkP).come x.pn.nx else({ x with u:= .hop l.next }:WkP).come x.pn.nx:=by
   unfold WkP.hopped
   simp only[hl0]
   by_cases h:x.pn.lv=0
   ·rw[if_pos h,if_pos h,if_pos h]
   ·rw[if_neg h,if_neg h,if_neg h]
  have HP:=hid hhp
  clear hhp
  go_upto_region 4 with fail
  by_cases hl:x.pn.lv=0
  ·have b4:(x.pn.lv==0)=true:=by simpa using hl
   rw[if_pos hl] at HP
   clear hl
   go_quiet (fail)
   clear b4
   obtain⟨U,hU⟩: ∃U,U=w1.drewN nq:=⟨_,rfl⟩
   rw[show _=U from hU.symm]
   have H2:Hid (WkBlk U g si x (.iface 267 (ptrV b)) (fnV (wkFn x.u) g)∧Only [] w1 U):=hid (by rw[hU];exact⟨H1.out.1.drewN nq,(Only.refl _ _).drewN nq⟩)
   clear hU nq d5 d3
   have d26:U.cell? ⟨g,26,none⟩=some (.int .u64 x.ph):=H2.out.1.cell 26
   have d7:U.cell? ⟨g,7,none⟩=some (.int .u64 x.pn.nx):=H2.out.1.cell 7
   have d28:U.cell? ⟨g,28,none⟩=some (.int .u64 x.low):=H2.out.1.cell 28
   have d29:U.cell? ⟨g,29,none⟩=some (.int .u64 x.dest):=H2.out.1.cell 29
   have f28:=H2.out.1.frozen 28
   have f29:=H2.out.1.frozen 29
   go_upto_region 5 with fail
   go_region
   obtain⟨V,hV⟩: ∃V,V=((U.setCell ⟨g,28,none⟩ (.int .u64 x.ph)).setCell ⟨g,29,none⟩ (.int .u64 x.pn.nx)).drew:=⟨_,rfl⟩
   rw[show _=V from hV.symm]
   have hBV:WkBlk V g si { x with low:=x.ph,dest:=x.pn.nx } (.iface 267 (ptrV b)) (fnV (wkFn x.u) g):=by rw[hV];exact Blk.drew (WkBlk.low H2.out.1 x.ph x.pn.nx)
   have hOV:Only [g] w1 V:=by
    have o5:Only [g] U V:=by rw[hV];exact(Only.setCell (Only.setCell (Only.refl [g] U) (Or.inl (by simp)) _) (Or.inl (by simp)) _).drew
    exact(H2.out.2.mono (by simp)).trans o5 (fun y hy=>Or.inl hy)
   have hsiV:V.cell? ⟨si,0,none⟩=some (ptrV m):=(hOV.cell (p:=⟨si,0,none⟩) (Nat.lt_of_lt_of_le HSI.out.2.1 H1.out.2.2.2) (by simpa using HSI.out.2.2.1)).trans H1.out.2.1
   have CZ:=hid (Come_z si m g { x with u:= .hop l.next,low:=x.ph,dest:=x.pn.nx } _ _ x.pn.nx V (by have h:=hBV;rw[hu] at h;exact h) hsiV (Nat.lt_of_lt_of_le HSI.out.2.1 (Nat.le_trans H1.out.2.2.2 hOV.size)) HSI.out.2.2.1)
   have v7:V.cell? ⟨g,7,none⟩=some (.int .u64 x.pn.nx):=hBV.cell 7
   have H3:=hid hOV
   clear hBV hOV hsiV hV d26 d7 d28 d29 f28 f29
   go_wp2_with fail
   refine CZ.out.mono ?_
   rintro e w6 ⟨rfl,b',hW,hb6,ho6⟩
   have H6:=hid (⟨hW,hb6,ho6⟩:_∧_∧_)
   clear hW hb6 ho6 CZ
   go_wp2_with fail
   go_ret2
   obtain⟨r1,M',f',r2,r3,r4⟩:=come_fin (f:=[b,r]) { x with u:= .hop l.next,low:=x.ph,dest:=x.pn.nx } hov he0 HX.out.2.2.1.lt HX.out.2.2.2.2.2.2 (H1.out.2.2.1.turn (js:=[g]) H3.out (fun z hz=>⟨Or.inl (by rw[List.mem_singleton.1 hz];simp),by rw[List.mem_singleton.1 hz];exact H1.out.2.2.1.far HX.out.2.2.1.lt HX.out.2.2.2.2.2.2⟩)) (Nat.le_trans H1.out.2.2.2 H3.out.size) H6.out.1 H6.out.2.1 H6.out.2.2
   rw[HP.out]
   exact⟨r1,M',f',r2,r3,by simpa using r4⟩
  ·have b4:(x.pn.lv==0)=false:=by simpa using hl
   rw[if_neg hl] at HP
   clear hl
   go_quiet (fail)
   clear b4
   obtain⟨U,hU⟩: ∃U,U=w1.drewN nq:=⟨_,rfl⟩
   rw[show _=U from hU.symm]
   have H2:Hid (WkBlk U g si x (.iface 267 (ptrV b)) (fnV (wkFn x.u) g)∧Only [] w1 U):=hid (by rw[hU];exact⟨H1.out.1.drewN nq,(Only.refl _ _).drewN nq⟩)
   clear hU nq d5 d3
   obtain⟨V,hV⟩: ∃V,V=U:=⟨_,rfl⟩
   rw[show _=V from hV.symm]
   have hBV:WkBlk V g si x (.iface 267 (ptrV b)) (fnV (wkFn x.u) g):=by rw[hV];exact H2.out.1
   have hOV:Only [g] w1 V:=by
    rw[hV];exact H2.out.2.mono (by simp)
   have hsiV:V.cell? ⟨si,0,none⟩=some (ptrV m):=(hOV.cell (p:=⟨si,0,none⟩) (Nat.lt_of_lt_of_le HSI.out.2.1 H1.out.2.2.2) (by simpa using HSI.out.2.2.1)).trans H1.out.2.1
   have CZ:=hid (Come_z si m g { x with u:= .hop l.next } _ _ x.pn.nx V (by have h:=hBV;rw[hu] at h;exact h) hsiV (Nat.lt_of_lt_of_le HSI.out.2.1 (Nat.le_trans H1.out.2.2.2 hOV.size)) HSI.out.2.2.1)
   have v7:V.cell? ⟨g,7,none⟩=some (.int .u64 x.pn.nx):=hBV.cell 7
   have H3:=hid hOV
   clear hBV hOV hsiV hV
   go_wp2_with fail
   refine CZ.out.mono ?_
   rintro e w6 ⟨rfl,b',hW,hb6,ho6⟩
   have H6:=hid (⟨hW,hb6,ho6⟩:_∧_∧_)
   clear hW hb6 ho6 CZ
   go_wp2_with fail
   go_ret2
   obtain⟨r1,M',f',r2,r3,r4⟩:=come_fin (f:=[b,r]) { x with u:= .hop l.next } hov he0 HX.out.2.2.1.lt HX.out.2.2.2.2.2.2 (H1.out.2.2.1.turn (js:=[g]) H3.out (fun z hz=>⟨Or.inl (by rw[List.mem_singleton.1 hz];simp),by rw[List.mem_singleton.1 hz];exact H1.out.2.2.1.far HX.out.2.2.1.lt HX.out.2.2.2.2.2.2⟩)) (Nat.le_trans H1.out.2.2.2 H3.out.size) H6.out.1 H6.out.2.1 H6.out.2.2
   rw[HP.out]
   exact⟨r1,M',f',r2,r3,by simpa using r4⟩
end Go.Proofs.YtjmaicckkkdjpaaGreat
/- A step of a walk; where it stands. -/
namespace Go.Proofs.YtjmaicckkkdjpaaGreat
open Go.RowKit
attribute [local go_sem ↓ high] nodeLoadAt nodeLoadVar nodeStoreAt
attribute [local go_sem] ldM_run lvM_run stM_run Oper.semAt_some run_store_fnG bldMg_run neFnE neFnEG
theorem wkFn_enter (u:WkU) (args:Array Value) (W:World):(callFunc (wkFn u) args).run Tryz.prog W= .ok (.enter (wkFn u) args) W:=by
 cases u<;>kernel_rfl
theorem WPart_z (si m g:Nat) (B:MB) (M:MemS) (K:Nat) (x:WkP) (f:List Nat) (hok:WkOK M.view x) (w:World) (hin:WkIn w si m g B M K f) (hs:WkIs w si m g x f):
  Calls Tryz.prog (wkFn x.u) #[ptrV g] w (WkPart si m g B M K x f w):=by
 cases hu:x.u with
 | root=>exact WRoot_z si m g B M K x f hu hok w hin hs
 | snap s=>exact WLook_z si m g B M K x s f hu hok w hin hs
 | hop l=>exact WHop_z si m g B M K x l f hu hok w hin hs
def WkPost (si m g:Nat) (B:MB) (M:MemS) (K:Nat) (x:WkP) (f:List Nat) (w:World) (e:Ending) (w':World):Prop:=
 e= .returned (.tuple #[.bool (x.next M.view).over,.int .i64 (x.next M.view).e])∧ ∃M' f',MSt m B K w M w' M' (x.eff (absM M)) (g::f)∧WkIs w' si m g (x.next M.view) f'∧ ∀y∈f',y∈f∨(w.heap.size≤y∧y∉footM m B M')
theorem WkBlk.done {w:World} {g si:Nat} {y:WkP} {uv fv:Value} (h:WkBlk w g si y uv fv) (o:Bool) (e:Int):WkBlk ((w.setCell ⟨g,32,none⟩ (.bool o)).setCell ⟨g,33,none⟩ (.int .i64 e)) g si { y with over:=o,e:=e } uv fv:=(h.set_ 32 (.bool o)).set_ 33 (.int .i64 e)
theorem wk_fin {si m g:Nat} {f:List Nat} {B:MB} {M M1:MemS} {K:Nat} {ta:MA} {Y:WkP} {w w1 V:World} {f':List Nat} (hg:g<w.heap.size) (hgm:g∉footM m B M)
  (hM:MSt m B K w M w1 M1 ta (g::f)) (hW:WkIs w1 si m g { Y with over:=false,e:=0 } f') (hV:V=((w1.setCell ⟨g,32,none⟩ (.bool Y.over)).setCell ⟨g,33,none⟩ (.int .i64 Y.e)).drew):
  MSt m B K w M V M1 ta (g::f)∧WkIs V si m g Y f':=by
 obtain⟨⟨uv,hb,hat⟩,hne⟩:=hW
 have hO:Only [g] w1 V:=by rw[hV];exact(Only.setCell (Only.setCell (Only.refl [g] w1) (Or.inl (by simp)) _) (Or.inl (by simp)) _).drew
 refine⟨hM.turn hO (fun z hz=>⟨Or.inl (by rw[List.mem_singleton.1 hz];simp),by rw[List.mem_singleton.1 hz];exact hM.far hg hgm⟩),⟨⟨uv,?_,hat.only hO (fun z hz h=>hne (by rw[←List.mem_singleton.1 h];exact hz))⟩,hne⟩⟩
 rw[hV]
 exact Blk.drew (WkBlk.done hb Y.over Y.e)
theorem WkStep_z (si m g:Nat) (B:MB) (M:MemS) (K:Nat) (x:WkP) (f:List Nat) (hok:WkOK M.view x) (w:World) (hin:WkIn w si m g B M K f) (hs:WkIs w si m g x f):
  Calls Tryz.prog 227 #[ptrV g] w (WkPost si m g B M K x f w):=by
 obtain⟨Y,hY⟩: ∃Y,Y=x.next M.view:=⟨_,rfl⟩
 have PZ:=hid (WPart_z si m g B M K x f hok w hin hs)
 unfold WkPart at PZ
 unfold WkPost
 rw[←hY] at PZ ⊢
 have MZ:=hid (XMem_c si m w hin.sc)
 obtain⟨⟨uv,hb,hat⟩,hgf⟩:=hs
 have c0:w.cell? ⟨g,0,none⟩=some (ptrV si):=hb.cell 0
 have c3:w.cell? ⟨g,3,none⟩=some (.int .i64 0):=by rw[←hok.level];exact hb.cell 3
 have c31:w.cell? ⟨g,31,none⟩=some (fnV (wkFn x.u) g):=hb.cell 31
 have c32:w.cell? ⟨g,32,none⟩=some (.bool false):=by rw[←hok.live];exact hb.cell 32
 have EN:=wkFn_enter x.u
 have HX:=hid (⟨hb.lt,hin.gm⟩:_∧_)
 obtain⟨F,hF⟩: ∃F,F=wkFn x.u:=⟨_,rfl⟩
 rw[←hF] at PZ c31 EN
 clear hF hb hat hgf hin hok hY
 go_enter Tryz.func227,Tryz.ntmps227
 go_wp2_with fail
 refine MZ.out.mono ?_
 rintro e w1 ⟨rfl,rfl⟩
 go_wp2_with fail
 refine PZ.out.mono ?_
 rintro e w2 ⟨rfl,M1,f',hM,hW,hf⟩
 obtain⟨⟨uv',hb,hat⟩,hne⟩:=hW
 have k32:w2.cell? ⟨g,32,none⟩=some (.bool false):=hb.cell 32
 have k33:w2.cell? ⟨g,33,none⟩=some (.int .i64 0):=hb.cell 33
 have f32:=hb.frozen 32
 have f33:=hb.frozen 33
 have H2:=hid (⟨hM,(⟨⟨uv',hb,hat⟩,hne⟩:WkIs w2 si m g { Y with over:=false,e:=0 } f'),hf⟩:_∧_∧_)
 clear hM hb hat hne hf PZ MZ c0 c3 c31 c32
 go_upto_region 9 with fail
 go_region
 go_wp2_with fail
 go_ret2
 obtain⟨V,hV⟩: ∃V,V=((w2.setCell ⟨g,32,none⟩ (.bool Y.over)).setCell ⟨g,33,none⟩ (.int .i64 Y.e)).drew:=⟨_,rfl⟩
 rw[show _=V from hV.symm]
 obtain⟨r1,r2⟩:=wk_fin HX.out.1 HX.out.2 H2.out.1 H2.out.2.1 hV
 exact⟨rfl,M1,f',r1,r2,H2.out.2.2⟩
end Go.Proofs.YtjmaicckkkdjpaaGreat
/- Where a walk stands. A get's object. -/
namespace Go.Proofs.YtjmaicckkkdjpaaGreat
open Go.RowKit
attribute [local go_sem ↓ high] nodeLoadAt nodeLoadVar nodeStoreAt
attribute [local go_sem] ldM_run lvM_run stM_run Oper.semAt_some run_store_fnG bldMg_run neFnE neFnEG
theorem results_tct {P:Program} {fn:Func} {o p u:Tmp} {ty:TypeId} (h:fn.results= #[.tmp o,.cell p ty,.tmp u]) (tmps:Array Value) (w:World) (a:Addr) (v x y:Value) (hy:tmps.getD o undef=y) (hp:tmps.getD p undef= .pointer (some a)) (hx:tmps.getD u undef=x) (hl:lvR P ty a w= .ok v w):(results fn tmps).run P w= .ok (.tuple #[y,v,x]) w:=by
 have hl':(loadVar ty a).run P w= .ok v w:=hl
 have hp':tmps[p]?.getD undef= .pointer (some a):=by simpa using hp
 have hx':tmps[u]?.getD undef=x:=by simpa using hx
 have hy':tmps[o]?.getD undef=y:=by simpa using hy
 simp[results,h,hp',hx',hy',asAddr,hl']
theorem WkAt_z (si m g:Nat) (x:WkP) (hov:x.over=true) (he:x.e=0) (f:List Nat) (w:World) (hs:WkIs w si m g x f):
  Calls Tryz.prog 75 #[ptrV g] w fun e w'=>e= .returned (.tuple #[.int .u64 x.pa,.agg (nodeC x.pn),.int .i64 0])∧Below w.heap.size w w':=by
 obtain⟨⟨uv,hb,hat⟩,hgf⟩:=hs
 obtain⟨W1,hW1⟩: ∃W1,W1=w.alloc (.cells #[.int .i64 0,.int .u64 0,.int .u64 0,.int .u64 0,.int .u64 0,.int .u64 0,.int .u64 0,.int .u64 0,.int .u64 0,.int .u64 0,.int .u64 0,.int .u64 0,.int .u64 0,.int .u64 0,.int .u64 0,.int .u64 0,.int .u64 0,.int .u64 0,.int .u64 0,.int .u64 0,.int .u64 0] 77):=⟨_,rfl⟩
 have hb1:Below w.heap.size w W1:=by rw[hW1];exact ba (Below.refl _ _) _
 have k1:Blk W1 w.heap.size 77 (nodeC zeroN):=by rw[hW1];exact Blk.new w 77 (nodeC zeroN)
 have h1:WkBlk W1 g si x uv (fnV (wkFn x.u) g):=hb.bel hb1
 have c31:W1.cell? ⟨g,31,none⟩=some (fnV (wkFn x.u) g):=h1.cell 31
 have c32:W1.cell? ⟨g,32,none⟩=some (.bool true):=by rw[←hov];exact h1.cell 32
 have c33:W1.cell? ⟨g,33,none⟩=some (.int .i64 0):=by rw[←he];exact h1.cell 33
 have d4:W1.drew.cell? ⟨g,4,none⟩=some (.int .u64 x.pa):=h1.cell 4
 have d33:W1.drew.cell? ⟨g,33,none⟩=some (.int .i64 0):=c33
 have hld:ldR Tryz.prog 77 (.pointer (some ⟨g,5,none⟩)) W1.drew= .ok (.agg (nodeC x.pn)) W1.drew:=WkBlk.ldn (x:=x) h1.drew
 obtain⟨W2,hst,k2,o2⟩:=node_stA k1.drew x.pn
 have hgn:g≠w.heap.size:=by have:=hb.lt;omega
 have h2:WkBlk W2 g si x uv (fnV (wkFn x.u) g):=o2.blk h1.drew (by simpa using hgn)
 have e4:W2.cell? ⟨g,4,none⟩=some (.int .u64 x.pa):=h2.cell 4
 have e33:W2.cell? ⟨g,33,none⟩=some (.int .i64 0):=by rw[←he];exact h2.cell 33
 have hlv:=node_lv k2
 have HB:=hid ((hb1.drew).trans (o2.below (fun y hy=>by simp at hy;omega) (by show _≤W1.heap.size;exact hb1.size)))
 have HW:=hid hW1
 obtain⟨F,hF⟩: ∃F,F=wkFn x.u:=⟨_,rfl⟩
 rw[←hF] at c31
 clear hW1 hb1 k1 h1 hb hat hgf k2 o2 h2 hF
 go_enter Tryz.func75,Tryz.ntmps75
 go_upto_region 1 with fail
 rw[show _=W1 from HW.out.symm]
 go_upto_region 7 with fail
 go_region
 go_wp2_with fail
 refine bodyPost_ret (v:= .tuple #[.int .u64 x.pa,.agg (nodeC x.pn),.int .i64 0]) (results_tct rfl _ _ _ _ _ _ rfl rfl rfl hlv) rfl ?_
 exact⟨rfl,HB.out⟩
end Go.Proofs.YtjmaicckkkdjpaaGreat
/- A get's object. -/
namespace Go.Proofs.YtjmaicckkkdjpaaGreat
open Go.RowKit
def respC (rc:Int) (rv:ByteArray):Array Value:= #[.int .i64 rc,.string rv,.slice none 0 0]
def getC (si:Nat) (x:GtP) (uv fv:Value):Array Value:= #[ptrV si,.int .i64 x.client,.int .u64 x.key,uv,fv,.int .i64 (x.tries:Int),.int .u64 x.at',
 .int .i64 x.leaf.lv,.int .u64 x.leaf.low,.int .u64 x.leaf.nx,.int .u64 x.leaf.ct,.int .u64 x.leaf.fi,.int .u64 (x.leaf.k 0),.int .u64 (x.leaf.k 1),.int .u64 (x.leaf.k 2),.int .u64 (x.leaf.k 3),.int .u64 (x.leaf.k 4),.int .u64 (x.leaf.k 5),.int .u64 (x.leaf.k 6),.int .u64 (x.leaf.k 7),.int .u64 (x.leaf.p 0),.int .u64 (x.leaf.p 1),.int .u64 (x.leaf.p 2),.int .u64 (x.leaf.p 3),.int .u64 (x.leaf.p 4),.int .u64 (x.leaf.p 5),.int .u64 (x.leaf.p 6),.int .u64 (x.leaf.p 7),.string x.v,.int .i64 x.why,.bool x.done,.int .i64 x.rc,.string x.rv,.slice none 0 0]
abbrev GtBlk (w:World) (g si:Nat) (x:GtP) (uv fv:Value):Prop:=Blk w g 118 (getC si x uv fv)
theorem gtBuild (ps:Array (Nat×Value)):Instr.build 118 ps=bldMg 118 ps:=rfl
theorem rsBuild (ps:Array (Nat×Value)):Instr.build 41 ps=bldMg 41 ps:=rfl
theorem gt_bld (si:Nat) (c q:Int) (W:World):bldRg Tryz.prog 118 #[(0,ptrV si),(1,.int .i64 c),(2,.int .u64 q)] W= .ok (.agg (getC si (gtNew c q) .nilIface .nilFunc)) W:=by kernel_rfl
theorem rs_bld (c:Int) (W:World):bldRg Tryz.prog 41 #[(0,.int .i64 c)] W= .ok (.agg (respC c { data:= #[] })) W:=by kernel_rfl
theorem rs_bldv (s:ByteArray) (W:World):bldRg Tryz.prog 41 #[(1,.string s)] W= .ok (.agg (respC 0 s)) W:=by kernel_rfl
end Go.Proofs.YtjmaicckkkdjpaaGreat
/- A get's object and what it holds; how it answers, how it goes on. -/
namespace Go.Proofs.YtjmaicckkkdjpaaGreat
open Go.RowKit
theorem rsLoadAt (v:Value):Instr.loadAt 41 v=ldM 41 v:=rfl
theorem rsLoadVar (a:Addr):loadVar 41 a=lvM 41 a:=rfl
theorem rsStoreAt (p v:Value):Instr.storeAt 41 p v=stM 41 p v:=rfl
attribute [local go_sem ↓ high] nodeLoadAt nodeLoadVar nodeStoreAt rsLoadAt rsLoadVar rsStoreAt gtBuild rsBuild
attribute [local go_sem] ldM_run lvM_run stM_run Oper.semAt_some run_store_fnG bldMg_run neFnE neFnEG
theorem getC_L (si:Nat) (x:GtP) (uv fv:Value) (n:NodeA):setL (getC si x uv fv) 7 (nodeC n).toList=getC si { x with leaf:=n } uv fv:=by kernel_rfl
theorem getC_R (si:Nat) (x:GtP) (uv fv:Value) (c:Int) (s:ByteArray):setL (getC si x uv fv) 31 (respC c s).toList=getC si { x with rc:=c,rv:=s } uv fv:=by kernel_rfl
theorem getC_n (si:Nat) (x:GtP) (uv fv:Value) {i:Nat} (h:i<21):(getC si x uv fv)[7+i]?=(nodeC x.leaf)[i]?:=by
 rcases(by omega:i=0∨i=1∨i=2∨i=3∨i=4∨i=5∨i=6∨i=7∨i=8∨i=9∨i=10∨i=11∨i=12∨i=13∨i=14∨i=15∨i=16∨i=17∨i=18∨i=19∨i=20) with rfl | rfl | rfl | rfl | rfl | rfl | rfl | rfl | rfl | rfl | rfl | rfl | rfl | rfl | rfl | rfl | rfl | rfl | rfl | rfl | rfl<;>rfl
theorem GtBlk.stn {w:World} {g si:Nat} {x:GtP} {uv fv:Value} (h:GtBlk w g si x uv fv) (n:NodeA): ∃W',stR Tryz.prog 77 (.pointer (some ⟨g,7,none⟩)) (.agg (nodeC n)) w= .ok () W'∧GtBlk W' g si { x with leaf:=n } uv fv∧Only [g] w W':=
 ⟨_,Blk.stAt h 7 (by show 7+21≤34;omega) (by kernel_rfl) (by kernel_rfl),by have:=Blk.setCells (nodeC n).toList 7 h;rw[getC_L] at this;exact this,Only.setCellsM g _ 7 w⟩
theorem GtBlk.str {w:World} {g si:Nat} {x:GtP} {uv fv:Value} (h:GtBlk w g si x uv fv) (c:Int) (s:ByteArray): ∃W',stR Tryz.prog 41 (.pointer (some ⟨g,31,none⟩)) (.agg (respC c s)) w= .ok () W'∧GtBlk W' g si { x with rc:=c,rv:=s } uv fv∧Only [g] w W':=
 ⟨_,Blk.stAt h 31 (by show 31+3≤34;omega) (by kernel_rfl) (by kernel_rfl),by have:=Blk.setCells (respC c s).toList 31 h;rw[getC_R] at this;exact this,Only.setCellsM g _ 31 w⟩
theorem GtBlk.ldn {w:World} {g si:Nat} {x:GtP} {uv fv:Value} (h:GtBlk w g si x uv fv):ldR Tryz.prog 77 (.pointer (some ⟨g,7,none⟩)) w= .ok (.agg (nodeC x.leaf)) w:=h.ldAt 7 (xs:=nodeC x.leaf) (fun j v hj=>by
 have hj2:j<21:=(Array.getElem?_eq_some_iff.1 hj).1
 rw[getC_n si x uv fv hj2];exact hj) Tryz.underlying77 rfl (by kernel_rfl)
theorem GtBlk.ldr {w:World} {g si:Nat} {x:GtP} {uv fv:Value} (h:GtBlk w g si x uv fv):ldR Tryz.prog 41 (.pointer (some ⟨g,31,none⟩)) w= .ok (.agg (respC x.rc x.rv)) w:=h.ldAt 31 (xs:=respC x.rc x.rv) (fun j v hj=>by
 have hj2:j<3:=(Array.getElem?_eq_some_iff.1 hj).1
 rcases(by omega:j=0∨j=1∨j=2) with rfl | rfl | rfl<;>exact hj) Tryz.underlying41 rfl (by kernel_rfl)
theorem resp_ld {w:World} {b:Nat} {c:Int} {s:ByteArray} (h:Blk w b 41 (respC c s)):ldR Tryz.prog 41 (.pointer (some ⟨b,0,none⟩)) w= .ok (.agg (respC c s)) w:=h.ld Tryz.underlying41 rfl (by kernel_rfl)
theorem resp_lv {w:World} {b:Nat} {c:Int} {s:ByteArray} (h:Blk w b 41 (respC c s)):lvR Tryz.prog 41 ⟨b,0,none⟩ w= .ok (.agg (respC c s)) w:=h.lv Tryz.underlying41 rfl (by kernel_rfl)
def clV (F a b:Nat):Value:= .func (.func F) #[] #[.pointer (some ⟨a,0,none⟩),.pointer (some ⟨b,0,none⟩)]
def GtU.at (w:World) (si m g:Nat) (n:NodeA) (u:GtU) (uv fv:Value) (us bs:List Nat):Prop:=match u with
 | .walk y=> ∃wg f0 bg bw,uv= .iface 171 (ptrV wg)∧fv=clV 73 bg bw∧WkIs w si m wg y f0∧w.cell? ⟨bg,0,none⟩=some (ptrV g)∧w.cell? ⟨bw,0,none⟩=some (ptrV wg)∧us=wg::f0∧bs=[bg,bw]
 | .read y=> ∃rg lv br bg N,uv= .iface 235 (ptrV rg)∧fv=clV 125 br bg∧RdIs w N m rg y lv∧N≤w.heap.size∧w.cell? ⟨br,0,none⟩=some (ptrV rg)∧w.cell? ⟨bg,0,none⟩=some (ptrV g)∧us=rg::lv.ownBlock.toList∧bs=[br,bg]
 | .still y=> ∃sg bg bs',uv= .iface 272 (ptrV sg)∧fv=clV 163 bg bs'∧StIs w m sg n y∧w.cell? ⟨bg,0,none⟩=some (ptrV g)∧w.cell? ⟨bs',0,none⟩=some (ptrV sg)∧us=[sg]∧bs=[bg,bs']
 | .last l rc rv=> ∃lg lr br bg,uv= .iface 267 (ptrV lg)∧fv=clV 160 br bg∧LtIs w m lg lr l∧Blk w br 41 (respC rc rv)∧w.cell? ⟨bg,0,none⟩=some (ptrV g)∧us=[lg,lr]∧bs=[br,bg]
structure GtIs (w:World) (si m g:Nat) (x:GtP) (f:List Nat):Prop where
 obj: ∃uv fv us bs,GtBlk w g si x uv fv∧x.u.at w si m g x.leaf uv fv us bs∧f=us++bs∧ ∀z∈bs,z∉us
 ne:g∉f
theorem Lines_z (a:Int) (ha:0≤a∧a≤1099511627776) (w:World):Calls Tryz.prog 159 #[.int .u64 a] w fun e w'=> ∃b,e= .returned (.slice (some ⟨b,0,none⟩) 3 3)∧NumsAt .u64 w' (.slice (some ⟨b,0,none⟩) 3 3) (linesL a)∧Below w.heap.size w w':=by
 have i1:IntKind.u64.wrap (a+64)=a+64:=by rw[IntKind.wrap_u64];omega
 have i2:IntKind.u64.wrap (a+128)=a+128:=by rw[IntKind.wrap_u64];omega
 go_enter Tryz.func159,Tryz.ntmps159
 go_wp2_with fail
 go_ret
 refine⟨_,rfl,⟨_,3,rfl,Or.inr ⟨_,0,rfl,?_,fun i y hi=> ?_⟩⟩,by(repeat(first | exact Below.refl _ _ | (refine ba ?_ _) | (refine Below.drew ?_) | (refine below_drewN ?_ _) | (refine Below.alloc ?_ (by first | omega | (simp;done) | (simp;omega)) _) | (refine Below.setCell ?_ (by first | omega | (simp;done) | (simp;omega)) _) | (refine bx ?_ (by assumption)) | (refine Below.trans ?_ (Below.mono (by assumption) (by first | omega | (simp;done) | (simp;omega))))))⟩
 ·rw[World.size_alloc];omega
 ·have hB:=Blk.new w 62 #[.int .u64 a,.int .u64 (a+64),.int .u64 (a+128)]
  match i,hi with
  | 0,hi=>injection hi with hi;rw[←hi];exact hB.cell 0
  | 1,hi=>injection hi with hi;rw[←hi];exact hB.cell 1
  | 2,hi=>injection hi with hi;rw[←hi];exact hB.cell 2
theorem To_z (si g:Nat) (x:GtP) (uv fv:Value) (T ub:Nat) (fn:Fn) (c1 c2:Array Value) (w:World) (hb:GtBlk w g si x uv fv):
  Calls Tryz.prog 72 #[ptrV g,.iface T (ptrV ub),.func fn c1 c2] w fun e w'=>e= .returned (.tuple #[])∧GtBlk w' g si x (.iface T (ptrV ub)) (.func fn c1 c2)∧Only [g] w w':=by
 have c3:w.cell? ⟨g,3,none⟩=some uv:=hb.cell 3
 have c4:w.cell? ⟨g,4,none⟩=some fv:=hb.cell 4
 have f3:=hb.frozen 3
 have f4:=hb.frozen 4
 have HB:=hid hb
 clear hb
 go_enter Tryz.func72,Tryz.ntmps72
 go_wp2_with fail
 refine bodyPost_end (v:= .tuple #[]) (by simp[results,Tryz.results72,go_sem]) rfl ?_
 exact⟨rfl,(HB.out.set_ 3 (.iface T (ptrV ub))).set_ 4 (.func fn c1 c2),(by repeat(first | exact Only.refl _ _ | (refine Only.drew ?_) | (refine Only.drewN ?_ _) | (refine Only.setCell ?_ (Or.inl (by simp)) _) | (refine Only.alloc ?_ _)))⟩
theorem GtBlk.done {w:World} {g si:Nat} {y:GtP} {uv fv:Value} (h:GtBlk w g si y uv fv) (o:Bool):GtBlk (w.setCell ⟨g,30,none⟩ (.bool o)) g si { y with done:=o } uv fv:=h.set_ 30 (.bool o)
theorem Answer_z (si g:Nat) (x:GtP) (uv fv:Value) (rc:Int) (rv:ByteArray) (w:World) (hb:GtBlk w g si x uv fv):
  Calls Tryz.prog 74 #[ptrV g,.agg (respC rc rv)] w fun e w'=>e= .returned (.bool true)∧GtBlk w' g si (x.answer rc rv) uv fv∧Only [g] w w':=by
 obtain⟨W1,hW1⟩: ∃W1,W1=w.alloc (.cells (respC rc rv) 41):=⟨_,rfl⟩
 have hb1:Below w.heap.size w W1:=by rw[hW1];exact ba (Below.refl _ _) _
 have k1:Blk W1 w.heap.size 41 (respC rc rv):=by rw[hW1];exact Blk.new _ _ _
 have h1:=hb.bel hb1
 have hld:=resp_ld k1.drew
 have hDn:GtBlk (W1.setCell ⟨g,30,none⟩ (.bool true)).drew g si { x with done:=true } uv fv:=Blk.drew (GtBlk.done (y:=x) h1 true)
 obtain⟨W2,hst,k2,o2⟩:=GtBlk.str (x:={ x with done:=true }) hDn rc rv
 have hgn:g≠w.heap.size:=by have:=hb.lt;omega
 have hld2:ldR Tryz.prog 41 (.pointer (some ⟨w.heap.size,0,none⟩)) (W1.setCell ⟨g,30,none⟩ (.bool true)).drew= .ok (.agg (respC rc rv)) (W1.setCell ⟨g,30,none⟩ (.bool true)).drew:=resp_ld (((Only.setCell (Only.refl [g] W1) (Or.inl (by simp)) _:Only [g] W1 (W1.setCell ⟨g,30,none⟩ (.bool true))).drew).blk k1 (by simpa using hgn.symm))
 have c30:W1.drew.cell? ⟨g,30,none⟩=some (.bool x.done):=h1.cell 30
 have f30:W1.drew.frozen? ⟨g,30,none⟩=false:=h1.drew.frozen 30
 have hO:Only [g] w W2:=((Only.of_below hb1 [g]).trans ((Only.setCell (Only.refl [g] W1) (Or.inl (by simp)) _:Only [g] W1 (W1.setCell ⟨g,30,none⟩ (.bool true))).drew) (fun y hy=>Or.inl hy)).trans o2 (fun y hy=>Or.inl hy)
 have HB:=hid (⟨k2,hO⟩:_∧_)
 have HW:=hid hW1
 clear hW1 hb1 k1 h1 hDn k2 o2 hO hb
 go_enter Tryz.func74,Tryz.ntmps74
 go_upto_region 1 with fail
 rw[show _=W1 from HW.out.symm]
 go_region
 go_wp2_with fail
 go_ret
 exact⟨rfl,HB.out⟩
end Go.Proofs.YtjmaicckkkdjpaaGreat
