import Derived.Test.YtjmaicckkkdjpaaGreatF16
set_option maxRecDepth 100000
set_option maxHeartbeats 6000000
set_option linter.unusedVariables false
set_option linter.unusedSimpArgs false
/- A walk goes on over a link to the right. -/
namespace Go.Proofs.YtjmaicckkkdjpaaGreat
open Go.RowKit
attribute [local go_sem ↓ high] nodeLoadAt nodeLoadVar nodeStoreAt
attribute [local go_sem] ldM_run lvM_run stM_run Oper.semAt_some run_store_fnG bldMg_run
theorem come_fin {si m g b':Nat} {f:List Nat} {B:MB} {M M1:MemS} {K:Nat} {ta:MA} (y:WkP) {a:Int} {w U w6:World} (hov:y.over=false) (h0:y.e=0) (hg:g<w.heap.size) (hgm:g∉footM m B M)
  (hM:MSt m B K w M U M1 ta (g::f)) (hsz:w.heap.size≤U.heap.size) (hW:WkIs w6 si m g (y.come a) [b']) (hb:U.heap.size≤b') (ho:Only [g] U w6):
  Ending.returned (.tuple #[.bool false,.int .i64 0])=Ending.returned (.tuple #[.bool (y.come a).over,.int .i64 (y.come a).e])∧ ∃M' f',MSt m B K w M w6 M' ta (g::f)∧WkIs w6 si m g { y.come a with over:=false,e:=0 } f'∧ ∀z∈f',z∈f∨(w.heap.size≤z∧z∉footM m B M'):=by
 refine⟨by show _=Ending.returned (.tuple #[.bool y.over,.int .i64 y.e]);rw[hov,h0],M1,[b'],?_,?_,fun z hz=>Or.inr ?_⟩
 ·exact hM.turn ho (fun z hz=>⟨Or.inl (by rw[List.mem_singleton.1 hz];simp),by rw[List.mem_singleton.1 hz];exact hM.far hg hgm⟩)
 ·rw[WkP.eta0 (y:=y.come a) hov h0];exact hW
 ·exact hM.new (by rw[List.mem_singleton.1 hz];exact hb)
theorem WkBlk.low {w:World} {g si:Nat} {y:WkP} {uv fv:Value} (h:WkBlk w g si y uv fv) (a d:Int):WkBlk ((w.setCell ⟨g,28,none⟩ (.int .u64 a)).setCell ⟨g,29,none⟩ (.int .u64 d)) g si { y with low:=a,dest:=d } uv fv:=(h.set_ 28 (.int .u64 a)).set_ 29 (.int .u64 d)
theorem WHop_z (si m g:Nat) (B:MB) (M:MemS) (K:Nat) (x:WkP) (l:LtP) (f:List Nat) (hu:x.u= .hop l) (hok:WkOK M.view x) (w:World) (hin:WkIn w si m g B M K f) (hs:WkIs w si m g x f):
  Calls Tryz.prog 190 #[ptrV g] w (WkPart si m g B M K x f w):=by
 obtain⟨⟨uv,hb,hat⟩,hgf⟩:=hs
 rw[hu] at hat
 obtain⟨b,r,rfl,hlt,rfl⟩:=hat
 obtain⟨q1,q2,q3,q4,q5,q6,q7,q8,q9,q10⟩:=hin
 obtain⟨hlo,hlc,hll⟩:=hok.hop l hu
 have heff:x.eff (absM M)=l.eff (absM M):=by unfold WkP.eff;rw[if_neg (by rw[hok.live];simp),hu]
 have hn:x.next M.view=if l.next.over=true then({ x with u:= .hop l.next }:WkP).hopped else{ x with u:= .hop l.next }:=by unfold WkP.next;rw[if_neg (by rw[hok.live];simp),hu]
 have SS:=hid (LtStep_z m b r B M K q3 l hlo hlc hll w q1 q2 hlt (q10 b (by simp)) (q10 r (by simp)))
 have c30:w.cell? ⟨g,30,none⟩=some (.iface 267 (ptrV b)):=hb.cell 30
 have hgb:g≠b:=fun e=>hgf (by rw[e];simp)
 unfold WkPart
 rw[hn,heff]
 have HX:=hid (⟨q1,q2,hb,hgf,hgb,hok,q9⟩:_∧_∧_∧_∧_∧_∧_)
 have HSI:=hid (⟨q4,q5,q6,q8,q7⟩:_∧_∧_∧_∧_)
 have hms:=fun v W=>mLastStep v W
 have hov:=hok.live
 have he0:=hok.e0
 have hl0:=hok.level
 clear hb hgf q1 q2 q3 q4 q5 q6 q7 q8 q9 q10 hok hn heff hlo hlc hll hlt hgb
 have KF:Hid (∀M1 w1,MSt m B K w M w1 M1 (l.eff (absM M)) [b]→WkBlk w1 g si x (.iface 267 (ptrV b)) (fnV (wkFn x.u) g)∧w1.cell? ⟨si,0,none⟩=some (ptrV m)∧MSt m B K w M w1 M1 (l.eff (absM M)) [g,b,r]∧w.heap.size≤w1.heap.size):=hid fun M1 w1 hM=>
  ⟨hM.only.blk HX.out.2.2.1 (by
    intro h
    rcases List.mem_append.1 h with h | h
    ·exact HX.out.2.2.2.2.1 (by simpa using h)
    ·exact HX.out.2.2.2.2.2.2 h),
   (hM.only.cell (p:=⟨si,0,none⟩) HSI.out.2.1 (by
    intro h
    rcases List.mem_append.1 h with h | h
    ·exact HSI.out.2.2.2.2 (by simp only[List.mem_singleton] at h;rw[h];simp)
    ·exact HSI.out.2.2.2.1 h)).trans HSI.out.1,hM.mono (by simp),hM.only.size⟩
 cases hno:l.next.over with
 | false=>
  rw[if_neg (by simp)]
  go_enter Tryz.func190,Tryz.ntmps190
  go_wp2_with fail
  refine SS.out.mono ?_
  intro e w1 hp
  unfold LtPost at hp
  rw[hno] at hp
  obtain⟨rfl,M1,hM,hlt⟩:=hp
  have HH:=hid (⟨hM,hlt⟩:_∧_)
  clear hM hlt SS
  go_wp2_with fail
  go_ret2
  obtain⟨hM,hlt⟩:=HH.out
  obtain⟨hB1,_,hM1,_⟩:=KF.out M1 w1 hM
  refine⟨?_,M1,[b,r],hM1,⟨⟨.iface 267 (ptrV b),?_,b,r,rfl,hlt,rfl⟩,by simpa using HX.out.2.2.2.1⟩,fun y hy=>Or.inl hy⟩
  ·show _=Ending.returned (.tuple #[.bool x.over,.int .i64 x.e])
   rw[hov,he0]
   rfl
  ·rw[WkP.eta0 (y:={ x with u:= .hop l.next }) hov he0]
   have h:=hB1
   rw[hu] at h
   exact h
 | true=>
  rw[if_pos rfl]
  go_enter Tryz.func190,Tryz.ntmps190
  go_wp2_with fail
  refine SS.out.mono ?_
  intro e w1 hp
  unfold LtPost at hp
  rw[hno] at hp
  obtain⟨rfl,M1,hM,hlt⟩:=hp
  obtain⟨hB1,hsi1,hM1,hsz1⟩:=KF.out M1 w1 hM
  have d5:w1.cell? ⟨g,5,none⟩=some (.int .i64 x.pn.lv):=hB1.cell 5
  have d3:w1.cell? ⟨g,3,none⟩=some (.int .i64 0):=by rw[←hl0];exact hB1.cell 3
  have H1:=hid (⟨hB1,hsi1,hM1,hsz1⟩:_∧_∧_∧_)
  clear hM hlt hB1 hsi1 hM1 hsz1 SS KF
  have hhp:({ x with u:= .hop l.next }:WkP).hopped=if x.pn.lv=0 then({ x with u:= .hop l.next,low:=x.ph,dest:=x.pn.nx }:WkP).come x.pn.nx else({ x with u:= .hop l.next }:WkP).come x.pn.nx:=by
   unfold WkP.hopped
   simp only[hl0]
   by_cases h:x.pn.lv=0
   ·rw[if_pos h,if_pos h,if_pos h]
   ·rw[if_neg h,if_neg h,if_neg h]
  have HP:=hid hhp
  clear hhp
  go_upto_region 4 with fail
  by_cases hl:x.pn.lv=0
  ·have b4:(x.pn.lv==0)=true:=by simpa using hl
   rw[if_pos hl] at HP
   clear hl
   go_quiet (fail)
   clear b4
   obtain⟨U,hU⟩: ∃U,U=w1.drewN nq:=⟨_,rfl⟩
   rw[show _=U from hU.symm]
   have H2:Hid (WkBlk U g si x (.iface 267 (ptrV b)) (fnV (wkFn x.u) g)∧Only [] w1 U):=hid (by rw[hU];exact⟨H1.out.1.drewN nq,(Only.refl _ _).drewN nq⟩)
   clear hU nq d5 d3
   have d26:U.cell? ⟨g,26,none⟩=some (.int .u64 x.ph):=H2.out.1.cell 26
   have d7:U.cell? ⟨g,7,none⟩=some (.int .u64 x.pn.nx):=H2.out.1.cell 7
   have d28:U.cell? ⟨g,28,none⟩=some (.int .u64 x.low):=H2.out.1.cell 28
   have d29:U.cell? ⟨g,29,none⟩=some (.int .u64 x.dest):=H2.out.1.cell 29
   have f28:=H2.out.1.frozen 28
   have f29:=H2.out.1.frozen 29
   go_upto_region 5 with fail
   go_region
   obtain⟨V,hV⟩: ∃V,V=((U.setCell ⟨g,28,none⟩ (.int .u64 x.ph)).setCell ⟨g,29,none⟩ (.int .u64 x.pn.nx)).drew:=⟨_,rfl⟩
   rw[show _=V from hV.symm]
   have hBV:WkBlk V g si { x with low:=x.ph,dest:=x.pn.nx } (.iface 267 (ptrV b)) (fnV (wkFn x.u) g):=by rw[hV];exact Blk.drew (WkBlk.low H2.out.1 x.ph x.pn.nx)
   have hOV:Only [g] w1 V:=by
    have o5:Only [g] U V:=by rw[hV];exact(Only.setCell (Only.setCell (Only.refl [g] U) (Or.inl (by simp)) _) (Or.inl (by simp)) _).drew
    exact(H2.out.2.mono (by simp)).trans o5 (fun y hy=>Or.inl hy)
   have hsiV:V.cell? ⟨si,0,none⟩=some (ptrV m):=(hOV.cell (p:=⟨si,0,none⟩) (Nat.lt_of_lt_of_le HSI.out.2.1 H1.out.2.2.2) (by simpa using HSI.out.2.2.1)).trans H1.out.2.1
   have CZ:=hid (Come_z si m g { x with u:= .hop l.next,low:=x.ph,dest:=x.pn.nx } _ _ x.pn.nx V (by have h:=hBV;rw[hu] at h;exact h) hsiV (Nat.lt_of_lt_of_le HSI.out.2.1 (Nat.le_trans H1.out.2.2.2 hOV.size)) HSI.out.2.2.1)
   have v7:V.cell? ⟨g,7,none⟩=some (.int .u64 x.pn.nx):=hBV.cell 7
   have H3:=hid hOV
   clear hBV hOV hsiV hV d26 d7 d28 d29 f28 f29
   go_wp2_with fail
   refine CZ.out.mono ?_
   rintro e w6 ⟨rfl,b',hW,hb6,ho6⟩
   have H6:=hid (⟨hW,hb6,ho6⟩:_∧_∧_)
   clear hW hb6 ho6 CZ
   go_wp2_with fail
   go_ret2
   obtain⟨r1,M',f',r2,r3,r4⟩:=come_fin (f:=[b,r]) { x with u:= .hop l.next,low:=x.ph,dest:=x.pn.nx } hov he0 HX.out.2.2.1.lt HX.out.2.2.2.2.2.2 (H1.out.2.2.1.turn (js:=[g]) H3.out (fun z hz=>⟨Or.inl (by rw[List.mem_singleton.1 hz];simp),by rw[List.mem_singleton.1 hz];exact H1.out.2.2.1.far HX.out.2.2.1.lt HX.out.2.2.2.2.2.2⟩)) (Nat.le_trans H1.out.2.2.2 H3.out.size) H6.out.1 H6.out.2.1 H6.out.2.2
   rw[HP.out]
   exact⟨r1,M',f',r2,r3,by simpa using r4⟩
  ·have b4:(x.pn.lv==0)=false:=by simpa using hl
   rw[if_neg hl] at HP
   clear hl
   go_quiet (fail)
   clear b4
   obtain⟨U,hU⟩: ∃U,U=w1.drewN nq:=⟨_,rfl⟩
   rw[show _=U from hU.symm]
   have H2:Hid (WkBlk U g si x (.iface 267 (ptrV b)) (fnV (wkFn x.u) g)∧Only [] w1 U):=hid (by rw[hU];exact⟨H1.out.1.drewN nq,(Only.refl _ _).drewN nq⟩)
   clear hU nq d5 d3
   obtain⟨V,hV⟩: ∃V,V=U:=⟨_,rfl⟩
   rw[show _=V from hV.symm]
   have hBV:WkBlk V g si x (.iface 267 (ptrV b)) (fnV (wkFn x.u) g):=by rw[hV];exact H2.out.1
   have hOV:Only [g] w1 V:=by
    rw[hV];exact H2.out.2.mono (by simp)
   have hsiV:V.cell? ⟨si,0,none⟩=some (ptrV m):=(hOV.cell (p:=⟨si,0,none⟩) (Nat.lt_of_lt_of_le HSI.out.2.1 H1.out.2.2.2) (by simpa using HSI.out.2.2.1)).trans H1.out.2.1
   have CZ:=hid (Come_z si m g { x with u:= .hop l.next } _ _ x.pn.nx V (by have h:=hBV;rw[hu] at h;exact h) hsiV (Nat.lt_of_lt_of_le HSI.out.2.1 (Nat.le_trans H1.out.2.2.2 hOV.size)) HSI.out.2.2.1)
   have v7:V.cell? ⟨g,7,none⟩=some (.int .u64 x.pn.nx):=hBV.cell 7
   have H3:=hid hOV
   clear hBV hOV hsiV hV
   go_wp2_with fail
   refine CZ.out.mono ?_
   rintro e w6 ⟨rfl,b',hW,hb6,ho6⟩
   have H6:=hid (⟨hW,hb6,ho6⟩:_∧_∧_)
   clear hW hb6 ho6 CZ
   go_wp2_with fail
   go_ret2
   obtain⟨r1,M',f',r2,r3,r4⟩:=come_fin (f:=[b,r]) { x with u:= .hop l.next } hov he0 HX.out.2.2.1.lt HX.out.2.2.2.2.2.2 (H1.out.2.2.1.turn (js:=[g]) H3.out (fun z hz=>⟨Or.inl (by rw[List.mem_singleton.1 hz];simp),by rw[List.mem_singleton.1 hz];exact H1.out.2.2.1.far HX.out.2.2.1.lt HX.out.2.2.2.2.2.2⟩)) (Nat.le_trans H1.out.2.2.2 H3.out.size) H6.out.1 H6.out.2.1 H6.out.2.2
   rw[HP.out]
   exact⟨r1,M',f',r2,r3,by simpa using r4⟩
end Go.Proofs.YtjmaicckkkdjpaaGreat
/- A step of a walk; where it stands. -/
namespace Go.Proofs.YtjmaicckkkdjpaaGreat
open Go.RowKit
attribute [local go_sem ↓ high] nodeLoadAt nodeLoadVar nodeStoreAt
attribute [local go_sem] ldM_run lvM_run stM_run Oper.semAt_some run_store_fnG bldMg_run neFnE neFnEG
theorem wkFn_enter (u:WkU) (args:Array Value) (W:World):(callFunc (wkFn u) args).run Tryz.prog W= .ok (.enter (wkFn u) args) W:=by
 cases u<;>kernel_rfl
theorem WPart_z (si m g:Nat) (B:MB) (M:MemS) (K:Nat) (x:WkP) (f:List Nat) (hok:WkOK M.view x) (w:World) (hin:WkIn w si m g B M K f) (hs:WkIs w si m g x f):
  Calls Tryz.prog (wkFn x.u) #[ptrV g] w (WkPart si m g B M K x f w):=by
 cases hu:x.u with
 | root=>exact WRoot_z si m g B M K x f hu hok w hin hs
 | snap s=>exact WLook_z si m g B M K x s f hu hok w hin hs
 | hop l=>exact WHop_z si m g B M K x l f hu hok w hin hs
def WkPost (si m g:Nat) (B:MB) (M:MemS) (K:Nat) (x:WkP) (f:List Nat) (w:World) (e:Ending) (w':World):Prop:=
 e= .returned (.tuple #[.bool (x.next M.view).over,.int .i64 (x.next M.view).e])∧ ∃M' f',MSt m B K w M w' M' (x.eff (absM M)) (g::f)∧WkIs w' si m g (x.next M.view) f'∧ ∀y∈f',y∈f∨(w.heap.size≤y∧y∉footM m B M')
theorem WkBlk.done {w:World} {g si:Nat} {y:WkP} {uv fv:Value} (h:WkBlk w g si y uv fv) (o:Bool) (e:Int):WkBlk ((w.setCell ⟨g,32,none⟩ (.bool o)).setCell ⟨g,33,none⟩ (.int .i64 e)) g si { y with over:=o,e:=e } uv fv:=(h.set_ 32 (.bool o)).set_ 33 (.int .i64 e)
theorem wk_fin {si m g:Nat} {f:List Nat} {B:MB} {M M1:MemS} {K:Nat} {ta:MA} {Y:WkP} {w w1 V:World} {f':List Nat} (hg:g<w.heap.size) (hgm:g∉footM m B M)
  (hM:MSt m B K w M w1 M1 ta (g::f)) (hW:WkIs w1 si m g { Y with over:=false,e:=0 } f') (hV:V=((w1.setCell ⟨g,32,none⟩ (.bool Y.over)).setCell ⟨g,33,none⟩ (.int .i64 Y.e)).drew):
  MSt m B K w M V M1 ta (g::f)∧WkIs V si m g Y f':=by
 obtain⟨⟨uv,hb,hat⟩,hne⟩:=hW
 have hO:Only [g] w1 V:=by rw[hV];exact(Only.setCell (Only.setCell (Only.refl [g] w1) (Or.inl (by simp)) _) (Or.inl (by simp)) _).drew
 refine⟨hM.turn hO (fun z hz=>⟨Or.inl (by rw[List.mem_singleton.1 hz];simp),by rw[List.mem_singleton.1 hz];exact hM.far hg hgm⟩),⟨⟨uv,?_,hat.only hO (fun z hz h=>hne (by rw[←List.mem_singleton.1 h];exact hz))⟩,hne⟩⟩
 rw[hV]
 exact Blk.drew (WkBlk.done hb Y.over Y.e)
theorem WkStep_z (si m g:Nat) (B:MB) (M:MemS) (K:Nat) (x:WkP) (f:List Nat) (hok:WkOK M.view x) (w:World) (hin:WkIn w si m g B M K f) (hs:WkIs w si m g x f):
  Calls Tryz.prog 227 #[ptrV g] w (WkPost si m g B M K x f w):=by
 obtain⟨Y,hY⟩: ∃Y,Y=x.next M.view:=⟨_,rfl⟩
 have PZ:=hid (WPart_z si m g B M K x f hok w hin hs)
 unfold WkPart at PZ
 unfold WkPost
 rw[←hY] at PZ ⊢
 have MZ:=hid (XMem_c si m w hin.sc)
 obtain⟨⟨uv,hb,hat⟩,hgf⟩:=hs
 have c0:w.cell? ⟨g,0,none⟩=some (ptrV si):=hb.cell 0
 have c3:w.cell? ⟨g,3,none⟩=some (.int .i64 0):=by rw[←hok.level];exact hb.cell 3
 have c31:w.cell? ⟨g,31,none⟩=some (fnV (wkFn x.u) g):=hb.cell 31
 have c32:w.cell? ⟨g,32,none⟩=some (.bool false):=by rw[←hok.live];exact hb.cell 32
 have EN:=wkFn_enter x.u
 have HX:=hid (⟨hb.lt,hin.gm⟩:_∧_)
 obtain⟨F,hF⟩: ∃F,F=wkFn x.u:=⟨_,rfl⟩
 rw[←hF] at PZ c31 EN
 clear hF hb hat hgf hin hok hY
 go_enter Tryz.func227,Tryz.ntmps227
 go_wp2_with fail
 refine MZ.out.mono ?_
 rintro e w1 ⟨rfl,rfl⟩
 go_wp2_with fail
 refine PZ.out.mono ?_
 rintro e w2 ⟨rfl,M1,f',hM,hW,hf⟩
 obtain⟨⟨uv',hb,hat⟩,hne⟩:=hW
 have k32:w2.cell? ⟨g,32,none⟩=some (.bool false):=hb.cell 32
 have k33:w2.cell? ⟨g,33,none⟩=some (.int .i64 0):=hb.cell 33
 have f32:=hb.frozen 32
 have f33:=hb.frozen 33
 have H2:=hid (⟨hM,(⟨⟨uv',hb,hat⟩,hne⟩:WkIs w2 si m g { Y with over:=false,e:=0 } f'),hf⟩:_∧_∧_)
 clear hM hb hat hne hf PZ MZ c0 c3 c31 c32
 go_upto_region 9 with fail
 go_region
 go_wp2_with fail
 go_ret2
 obtain⟨V,hV⟩: ∃V,V=((w2.setCell ⟨g,32,none⟩ (.bool Y.over)).setCell ⟨g,33,none⟩ (.int .i64 Y.e)).drew:=⟨_,rfl⟩
 rw[show _=V from hV.symm]
 obtain⟨r1,r2⟩:=wk_fin HX.out.1 HX.out.2 H2.out.1 H2.out.2.1 hV
 exact⟨rfl,M1,f',r1,r2,H2.out.2.2⟩
end Go.Proofs.YtjmaicckkkdjpaaGreat
/- Where a walk stands. A get's object. -/
namespace Go.Proofs.YtjmaicckkkdjpaaGreat
open Go.RowKit
attribute [local go_sem ↓ high] nodeLoadAt nodeLoadVar nodeStoreAt
attribute [local go_sem] ldM_run lvM_run stM_run Oper.semAt_some run_store_fnG bldMg_run neFnE neFnEG
theorem results_tct {P:Program} {fn:Func} {o p u:Tmp} {ty:TypeId} (h:fn.results= #[.tmp o,.cell p ty,.tmp u]) (tmps:Array Value) (w:World) (a:Addr) (v x y:Value) (hy:tmps.getD o undef=y) (hp:tmps.getD p undef= .pointer (some a)) (hx:tmps.getD u undef=x) (hl:lvR P ty a w= .ok v w):(results fn tmps).run P w= .ok (.tuple #[y,v,x]) w:=by
 have hl':(loadVar ty a).run P w= .ok v w:=hl
 have hp':tmps[p]?.getD undef= .pointer (some a):=by simpa using hp
 have hx':tmps[u]?.getD undef=x:=by simpa using hx
 have hy':tmps[o]?.getD undef=y:=by simpa using hy
 simp[results,h,hp',hx',hy',asAddr,hl']
theorem WkAt_z (si m g:Nat) (x:WkP) (hov:x.over=true) (he:x.e=0) (f:List Nat) (w:World) (hs:WkIs w si m g x f):
  Calls Tryz.prog 75 #[ptrV g] w fun e w'=>e= .returned (.tuple #[.int .u64 x.pa,.agg (nodeC x.pn),.int .i64 0])∧Below w.heap.size w w':=by
 obtain⟨⟨uv,hb,hat⟩,hgf⟩:=hs
 obtain⟨W1,hW1⟩: ∃W1,W1=w.alloc (.cells #[.int .i64 0,.int .u64 0,.int .u64 0,.int .u64 0,.int .u64 0,.int .u64 0,.int .u64 0,.int .u64 0,.int .u64 0,.int .u64 0,.int .u64 0,.int .u64 0,.int .u64 0,.int .u64 0,.int .u64 0,.int .u64 0,.int .u64 0,.int .u64 0,.int .u64 0,.int .u64 0,.int .u64 0] 77):=⟨_,rfl⟩
 have hb1:Below w.heap.size w W1:=by rw[hW1];exact ba (Below.refl _ _) _
 have k1:Blk W1 w.heap.size 77 (nodeC zeroN):=by rw[hW1];exact Blk.new w 77 (nodeC zeroN)
 have h1:WkBlk W1 g si x uv (fnV (wkFn x.u) g):=hb.bel hb1
 have c31:W1.cell? ⟨g,31,none⟩=some (fnV (wkFn x.u) g):=h1.cell 31
 have c32:W1.cell? ⟨g,32,none⟩=some (.bool true):=by rw[←hov];exact h1.cell 32
 have c33:W1.cell? ⟨g,33,none⟩=some (.int .i64 0):=by rw[←he];exact h1.cell 33
 have d4:W1.drew.cell? ⟨g,4,none⟩=some (.int .u64 x.pa):=h1.cell 4
 have d33:W1.drew.cell? ⟨g,33,none⟩=some (.int .i64 0):=c33
 have hld:ldR Tryz.prog 77 (.pointer (some ⟨g,5,none⟩)) W1.drew= .ok (.agg (nodeC x.pn)) W1.drew:=WkBlk.ldn (x:=x) h1.drew
 obtain⟨W2,hst,k2,o2⟩:=node_stA k1.drew x.pn
 have hgn:g≠w.heap.size:=by have:=hb.lt;omega
 have h2:WkBlk W2 g si x uv (fnV (wkFn x.u) g):=o2.blk h1.drew (by simpa using hgn)
 have e4:W2.cell? ⟨g,4,none⟩=some (.int .u64 x.pa):=h2.cell 4
 have e33:W2.cell? ⟨g,33,none⟩=some (.int .i64 0):=by rw[←he];exact h2.cell 33
 have hlv:=node_lv k2
 have HB:=hid ((hb1.drew).trans (o2.below (fun y hy=>by simp at hy;omega) (by show _≤W1.heap.size;exact hb1.size)))
 have HW:=hid hW1
 obtain⟨F,hF⟩: ∃F,F=wkFn x.u:=⟨_,rfl⟩
 rw[←hF] at c31
 clear hW1 hb1 k1 h1 hb hat hgf k2 o2 h2 hF
 go_enter Tryz.func75,Tryz.ntmps75
 go_upto_region 1 with fail
 rw[show _=W1 from HW.out.symm]
 go_upto_region 7 with fail
 go_region
 go_wp2_with fail
 refine bodyPost_ret (v:= .tuple #[.int .u64 x.pa,.agg (nodeC x.pn),.int .i64 0]) (results_tct rfl _ _ _ _ _ _ rfl rfl rfl hlv) rfl ?_
 exact⟨rfl,HB.out⟩
end Go.Proofs.YtjmaicckkkdjpaaGreat
/- A get's object. -/
namespace Go.Proofs.YtjmaicckkkdjpaaGreat
open Go.RowKit
theorem gtBuild (ps:Array (Nat×Value)):Instr.build 118 ps=bldMg 118 ps:=rfl
theorem rsBuild (ps:Array (Nat×Value)):Instr.build 41 ps=bldMg 41 ps:=rfl
end Go.Proofs.YtjmaicckkkdjpaaGreat
/- A get's object and what it holds; how it answers, how it goes on. -/
namespace Go.Proofs.YtjmaicckkkdjpaaGreat
open Go.RowKit
theorem rsLoadAt (v:Value):Instr.loadAt 41 v=ldM 41 v:=rfl
theorem rsLoadVar (a:Addr):loadVar 41 a=lvM 41 a:=rfl
theorem rsStoreAt (p v:Value):Instr.storeAt 41 p v=stM 41 p v:=rfl
attribute [local go_sem ↓ high] nodeLoadAt nodeLoadVar nodeStoreAt rsLoadAt rsLoadVar rsStoreAt gtBuild rsBuild
attribute [local go_sem] ldM_run lvM_run stM_run Oper.semAt_some run_store_fnG bldMg_run neFnE neFnEG
def clV (F a b:Nat):Value:= .func (.func F) #[] #[.pointer (some ⟨a,0,none⟩),.pointer (some ⟨b,0,none⟩)]
theorem Lines_z (a:Int) (ha:0≤a∧a≤1099511627776) (w:World):Calls Tryz.prog 159 #[.int .u64 a] w fun e w'=> ∃b,e= .returned (.slice (some ⟨b,0,none⟩) 3 3)∧NumsAt .u64 w' (.slice (some ⟨b,0,none⟩) 3 3) (linesL a)∧Below w.heap.size w w':=by
 have i1:IntKind.u64.wrap (a+64)=a+64:=by rw[IntKind.wrap_u64];omega
 have i2:IntKind.u64.wrap (a+128)=a+128:=by rw[IntKind.wrap_u64];omega
 go_enter Tryz.func159,Tryz.ntmps159
 go_wp2_with fail
 go_ret
 refine⟨_,rfl,⟨_,3,rfl,Or.inr ⟨_,0,rfl,?_,fun i y hi=> ?_⟩⟩,by(repeat(first | exact Below.refl _ _ | (refine ba ?_ _) | (refine Below.drew ?_) | (refine below_drewN ?_ _) | (refine Below.alloc ?_ (by first | omega | (simp;done) | (simp;omega)) _) | (refine Below.setCell ?_ (by first | omega | (simp;done) | (simp;omega)) _) | (refine bx ?_ (by assumption)) | (refine Below.trans ?_ (Below.mono (by assumption) (by first | omega | (simp;done) | (simp;omega))))))⟩
 ·rw[World.size_alloc];omega
 ·have hB:=Blk.new w 62 #[.int .u64 a,.int .u64 (a+64),.int .u64 (a+128)]
  match i,hi with
  | 0,hi=>injection hi with hi;rw[←hi];exact hB.cell 0
  | 1,hi=>injection hi with hi;rw[←hi];exact hB.cell 1
  | 2,hi=>injection hi with hi;rw[←hi];exact hB.cell 2
end Go.Proofs.YtjmaicckkkdjpaaGreat
/- A get goes on to its last lines. -/
namespace Go.Proofs.YtjmaicckkkdjpaaGreat
open Go.RowKit
attribute [local go_sem ↓ high] nodeLoadAt nodeLoadVar nodeStoreAt rsLoadAt rsLoadVar rsStoreAt gtBuild rsBuild
attribute [local go_sem] ldM_run lvM_run stM_run Oper.semAt_some run_store_fnG bldMg_run neFnE neFnEG
theorem cell_bel {W W':World} (hb:Below W.heap.size W W') {p:Addr} {v:Value} (h:W.cell? p=some v):W'.cell? p=some v:=(hb.cell (World.block_lt_of_cell? _ _ h)).trans h
theorem XMem_e {a:Prop} {si m:Nat} {w:World} (h:w.cell? ⟨si,0,none⟩=some (ptrV m)∧a):Calls Tryz.prog 66 #[ptrV si] w fun e w'=>e= .returned (ptrV m)∧w'=w:=XMem_c si m w h.1
theorem LtIs.only {w w':World} {m b r:Nat} {l:LtP} {ks:List Nat} (h:LtIs w m b r l) (ho:Only ks w w') (hb:b∉ks) (hr:r∉ks):LtIs w' m b r l:=by
 obtain⟨⟨p,c,h2,h3,h4⟩,h5,h6⟩:=h
 refine⟨⟨p,c,ho.blk h2 hb,h3,fun hn=> ?_⟩,Nat.lt_of_lt_of_le h5 ho.size,h6⟩
 obtain⟨off,q1,q2⟩:=h4 hn
 exact⟨off,q1,fun i a hi=>(ho.cell (p:=⟨r,off+i,none⟩) h5 hr).trans (q2 i a hi)⟩
end Go.Proofs.YtjmaicckkkdjpaaGreat
/- A get goes on to see whether a leaf is as it was; to a walk; to a value. -/
namespace Go.Proofs.YtjmaicckkkdjpaaGreat
open Go.RowKit
attribute [local go_sem ↓ high] nodeLoadAt nodeLoadVar nodeStoreAt rsLoadAt rsLoadVar rsStoreAt gtBuild rsBuild
attribute [local go_sem] ldM_run lvM_run stM_run Oper.semAt_some run_store_fnG bldMg_run neFnE neFnEG
theorem StIs.only {w w':World} {m g:Nat} {n:NodeA} {x:StP} {ks:List Nat} (h:StIs w m g n x) (ho:Only ks w w') (hg:g∉ks):StIs w' m g n x:=⟨ho.blk h.blk hg,h.nx,h.ct⟩
theorem StIs.bel {w w':World} {m g:Nat} {n:NodeA} {x:StP} (h:StIs w m g n x) (hb:Below w.heap.size w w'):StIs w' m g n x:=⟨h.blk.bel hb,h.nx,h.ct⟩
end Go.Proofs.YtjmaicckkkdjpaaGreat
/- A get goes on to a walk. -/
namespace Go.Proofs.YtjmaicckkkdjpaaGreat
open Go.RowKit
attribute [local go_sem ↓ high] nodeLoadAt nodeLoadVar nodeStoreAt rsLoadAt rsLoadVar rsStoreAt gtBuild rsBuild
attribute [local go_sem] ldM_run lvM_run stM_run Oper.semAt_some run_store_fnG bldMg_run neFnE neFnEG
theorem WkIs.bel {w w':World} {si m g:Nat} {x:WkP} {f:List Nat} (h:WkIs w si m g x f) (hb:Below w.heap.size w w'):WkIs w' si m g x f:=h.only (Only.of_below hb []) (by simp) (by simp)
end Go.Proofs.YtjmaicckkkdjpaaGreat
/- A get looks at its leaf: it goes on to a value, or to its last lines. -/
namespace Go.Proofs.YtjmaicckkkdjpaaGreat
open Go.RowKit
attribute [local go_sem ↓ high] nodeLoadAt nodeLoadVar nodeStoreAt rsLoadAt rsLoadVar rsStoreAt gtBuild rsBuild
attribute [local go_sem] ldM_run lvM_run stM_run Oper.semAt_some run_store_fnG bldMg_run neFnE neFnEG
theorem RdIs.only0 {w w':World} {N m g:Nat} {x:RdP} {ks:List Nat} (h:RdIs w N m g x (.slice none 0 0)) (ho:Only ks w w') (hg:g∉ks) (hl:x.l=[]:=by rfl):RdIs w' N m g x (.slice none 0 0):=⟨ho.blk h.blk hg,by rw[hl];exact World.ownsRow_nil _ _ _ _,h.ne⟩
theorem RdIs.bel {w w':World} {N m g:Nat} {x:RdP} (h:RdIs w N m g x (.slice none 0 0)) (hb:Below w.heap.size w w') (hl:x.l=[]:=by rfl):RdIs w' N m g x (.slice none 0 0):=h.only0 (Only.of_below hb []) (by simp) hl
end Go.Proofs.YtjmaicckkkdjpaaGreat
/- What a get does behind each of its machines. -/
namespace Go.Proofs.YtjmaicckkkdjpaaGreat
open Go.RowKit
attribute [local go_sem ↓ high] nodeLoadAt nodeLoadVar nodeStoreAt rsLoadAt rsLoadVar rsStoreAt gtBuild rsBuild
attribute [local go_sem] ldM_run lvM_run stM_run Oper.semAt_some run_store_fnG bldMg_run neFnE neFnEG
end Go.Proofs.YtjmaicckkkdjpaaGreat
/- What a get does behind a value, behind a walk. -/
namespace Go.Proofs.YtjmaicckkkdjpaaGreat
open Go.RowKit
attribute [local go_sem ↓ high] nodeLoadAt nodeLoadVar nodeStoreAt rsLoadAt rsLoadVar rsStoreAt gtBuild rsBuild
attribute [local go_sem] ldM_run lvM_run stM_run Oper.semAt_some run_store_fnG bldMg_run neFnE neFnEG
end Go.Proofs.YtjmaicckkkdjpaaGreat
/- A step of a get, whatever machine is under it. -/
namespace Go.Proofs.YtjmaicckkkdjpaaGreat
open Go.RowKit
attribute [local go_sem ↓ high] nodeLoadAt nodeLoadVar nodeStoreAt rsLoadAt rsLoadVar rsStoreAt gtBuild rsBuild
attribute [local go_sem] ldM_run lvM_run stM_run Oper.semAt_some run_store_fnG bldMg_run
theorem neIfE (T b:Nat) (w:World):(binOp .eql 115 (.iface T (ptrV b)) .nilIface).run Tryz.prog w= .ok (.bool false) w:=by kernel_rfl
attribute [local go_sem] neIfE
end Go.Proofs.YtjmaicckkkdjpaaGreat
/- A step of a get. -/
namespace Go.Proofs.YtjmaicckkkdjpaaGreat
open Go.RowKit
structure GtOK (v:List Int) (x:GtP):Prop where
 live:x.done=false
 client:0≤x.client∧x.client≤64
 at':0≤x.at'∧x.at'≤1099511627776
 tries:x.tries<4611686018427387904
 walk: ∀y,x.u= .walk y→WkOK v y∧(y.next v).e=0∧((y.next v).over=true→0≤(y.next v).pa∧(y.next v).pa≤1099511627776)
 read: ∀y,x.u= .read y→RdOK v y
 still: ∀y,x.u= .still y→y.over=false∧(y.k=2∨y.k=3)∧inV v y.adr∧(0≤y.at'∧y.at'≤1099511627776)
 last: ∀l rc rv,x.u= .last l rc rv→l.over=false∧(0≤l.client∧l.client≤64)∧ ∀a∈l.lines,inV v a
def GtP.eff (x:GtP) (A:MA):MA:=match x.u with
 | .walk y=>y.eff A
 | .last l _ _=>l.eff A
 | _=>A
theorem RdIs.only {w w':World} {N m g:Nat} {x:RdP} {lv:Value} {ks:List Nat} (h:RdIs w N m g x lv) (ho:Only ks w w') (hg:g∉ks) (hl: ∀k,lv.ownBlock=some k→k∉ks):RdIs w' N m g x lv:=⟨ho.blk h.blk hg,ho.own h.own (fun j hj hc=>hl j hj hc),h.ne⟩
theorem MSt.of_load2 {m:Nat} {B:MB} {K:Nat} {w w':World} {M:MemS} {ks:List Nat} (hm:Mems w m B M K) (hs:St64 M.st) (h:Lded w w' m B M (ks++[m])): ∃M',MSt m B K w M w' M' (absM M) ks∧footM m B M'=footM m B M:=by
 obtain⟨st,a,b,c,d,e,ho⟩:=h
 exact⟨{ M with st:=st },⟨⟨e,hm.few,hm.two⟩,fun k hk=>Or.inl hk,rfl,⟨1,0,0,by omega,a,b,by unfold St64 at hs;show st.c=_;omega,by unfold St64 at hs;show st.d=_;omega⟩,ho.mono (fun x hx=>by
  rcases List.mem_append.1 hx with h | h
  ·exact List.mem_append_left _ h
  ·exact List.mem_append_right _ (by rw[List.mem_singleton.1 h];simp[footM]))⟩,rfl⟩
end Go.Proofs.YtjmaicckkkdjpaaGreat
/- A step of a get: its four machines. -/
namespace Go.Proofs.YtjmaicckkkdjpaaGreat
open Go.RowKit
theorem mWalkStep (v:Value) (w:World):(method 431 171 v "Step").run Tryz.prog w= .ok (227,v) w:=meth_own fuel_eq (by kernel_rfl) Tryz.underlying171 v w
theorem mReadStep (v:Value) (w:World):(method 431 235 v "Step").run Tryz.prog w= .ok (229,v) w:=meth_own fuel_eq (by kernel_rfl) Tryz.underlying235 v w
theorem mStillStep (v:Value) (w:World):(method 431 272 v "Step").run Tryz.prog w= .ok (235,v) w:=meth_own fuel_eq (by kernel_rfl) Tryz.underlying272 v w
section
variable (si m g:Nat) (B:MB) (M:MemS) (K:Nat) (x:GtP)
end
end Go.Proofs.YtjmaicckkkdjpaaGreat
/- A step of a get. -/
namespace Go.Proofs.YtjmaicckkkdjpaaGreat
open Go.RowKit
attribute [local go_sem ↓ high] nodeLoadAt nodeLoadVar nodeStoreAt rsLoadAt rsLoadVar rsStoreAt gtBuild rsBuild
attribute [local go_sem] ldM_run lvM_run stM_run Oper.semAt_some run_store_fnG bldMg_run
section
variable (si m g:Nat) (B:MB) (M:MemS) (K:Nat) (x:GtP)
end
end Go.Proofs.YtjmaicckkkdjpaaGreat
