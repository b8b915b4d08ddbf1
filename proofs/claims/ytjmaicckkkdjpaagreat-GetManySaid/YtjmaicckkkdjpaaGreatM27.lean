import Derived.Test.YtjmaicckkkdjpaaGreatM26
/- A step of a get: its four machines. -/
set_option linter.unusedVariables false
set_option linter.unusedSimpArgs false
namespace Go.Proofs.YtjmaicckkkdjpaaGreat
open Go.RowKit
theorem mWalkStep (v:Value) (w:World):(method 431 171 v "Step").run Tryz.prog w= .ok (227,v) w:=meth_own fuel_eq (by kernel_rfl) Tryz.underlying171 v w
theorem mReadStep (v:Value) (w:World):(method 431 235 v "Step").run Tryz.prog w= .ok (229,v) w:=meth_own fuel_eq (by kernel_rfl) Tryz.underlying235 v w
theorem mStillStep (v:Value) (w:World):(method 431 272 v "Step").run Tryz.prog w= .ok (235,v) w:=meth_own fuel_eq (by kernel_rfl) Tryz.underlying272 v w
theorem goCells {si m g:Nat} {X:GtP} {w w2:World} {r:Value} {e:Ending} (h:GtGo si m g X w r e w2):w2.cell? ⟨g,30,none⟩=some (.bool X.done)∧w2.cell? ⟨g,31,none⟩=some (.int .i64 X.rc):=by
 obtain⟨_,f',⟨⟨uv,fv,us,bs,hb,_⟩,_⟩,_⟩:=h
 exact⟨hb.cell 30,hb.cell 31⟩
section
variable (si m g:Nat) (B:MB) (M:MemS) (K:Nat) (x:GtP)
theorem GtStep_walk (y:WkP) (hu:x.u= .walk y) (f:List Nat) (hok:GtOK M.view x) (w:World) (hin:WkIn w si m g B M K f) (hs:GtIs w si m g x f):
  Calls Tryz.prog 48 #[ptrV g] w (GtPost si m g B M K x f w):=by
 obtain⟨⟨uv,fv,us,bs,hb,hat,rfl,hbs⟩,hne⟩:=hs
 rw[hu] at hat
 obtain⟨wg,f0,bg,bw,rfl,rfl,hw,hcg,hcw,rfl,rfl⟩:=hat
 obtain⟨hwk,he0,hpa⟩:=hok.walk y hu
 have heff:x.eff (absM M)=y.eff (absM M):=by unfold GtP.eff;rw[hu]
 have hgl:=hb.lt
 have hbl: ∀z∈[bg,bw],z<w.heap.size:=by
  intro z hz
  simp at hz
  rcases hz with rfl | rfl
  ·exact World.block_lt_of_cell? _ _ hcg
  ·exact World.block_lt_of_cell? _ _ hcw
 have hU:=WkStep_z si m wg B M K y f0 hwk w ⟨hin.mem,hin.st,hin.few,hin.sc,hin.sil,fun e=>hin.sif (by rw[e];simp),fun h=>hin.sif (by simp[h]),hin.sim,hin.fm wg (by simp),fun z hz=>hin.fm z (by simp[hz])⟩ hw
 obtain⟨Y,hY⟩: ∃Y,Y=y.next M.view:=⟨_,rfl⟩
 unfold WkPost at hU
 rw[←hY] at hU he0 hpa
 let Q:World→Prop:=fun w1=> ∃M' f',MSt m B K w M w1 M' (y.eff (absM M)) (wg::f0)∧WkIs w1 si m wg Y f'∧ ∀z∈f',z∈f0∨(w.heap.size≤z∧z∉footM m B M')
 have KP: ∀w1,Q w1→GtBlk w1 g si x (.iface 171 (ptrV wg)) (clV 73 bg bw)∧w1.cell? ⟨si,0,none⟩=some (ptrV m)∧w1.cell? ⟨bg,0,none⟩=some (ptrV g)∧w1.cell? ⟨bw,0,none⟩=some (ptrV wg):=fun w1 hq=>by
  obtain⟨M',f',hM,_⟩:=hq
  obtain⟨r1,r2,r3,r4⟩:=gt_keep hM hbs hne hin.gm hin.fm hb hin.sc hin.sif hin.sim
  exact⟨r1,r2,r3 _ (by simp) _ hcg,r3 _ (by simp) _ hcw⟩
 have hbgn:bg≠g:=fun e=>hne (by rw[e];simp)
 have hbwn:bw≠g:=fun e=>hne (by rw[e];simp)
 cases hov:Y.over with
 | false=>
  have hnext:x.next M.view={ x with u:= .walk Y }:=by
   unfold GtP.next
   rw[if_neg (by rw[hok.live];simp),hu]
   show(if(y.next M.view).over=true then _ else _)=_
   rw[←hY,if_neg (by rw[hov];simp)]
  unfold GtPost
  rw[hnext,heff]
  rw[hov,he0] at hU
  refine(GtStep_still si m g _ _ wg _ bg bw x hok.live w hb hin.sc (fun W=>mWalkStep _ W) (fun args W=>by kernel_rfl) Q hU (fun w1 hq=>by rw[←hok.live];exact(KP w1 hq).1.cell 30)).mono ?_
  rintro e w1 ⟨rfl,hq⟩
  obtain⟨k1,k2,k3,k4⟩:=KP w1 hq
  obtain⟨M',f',hM,hW,hf⟩:=hq
  refine⟨by show _=Ending.returned (outV x.done x.rc);rw[hok.live];rfl,?_⟩
  refine gt_stay (us':=wg::f') hM k1 ⟨wg,f',bg,bw,rfl,rfl,hW,k3,k4,rfl,rfl⟩ (fun z hz=> ?_) hbs hbl hne hgl
  rcases List.mem_cons.1 hz with rfl | h1
  ·exact Or.inl (by simp)
  ·exact(hf z h1).imp (fun h=>by simp[h]) id
 | true=>
  have hnext:x.next M.view=({ x with at':=Y.pa,leaf:=Y.pn }:GtP).look:=by
   unfold GtP.next
   rw[if_neg (by rw[hok.live];simp),hu]
   show(if(y.next M.view).over=true then(if(y.next M.view).e≠0 then _ else _) else _)=_
   rw[←hY,if_pos hov,if_neg (by rw[he0];simp)]
   exact GtP.look_u { x with at':=Y.pa,leaf:=Y.pn } (.walk Y)
  unfold GtPost
  rw[hnext,heff]
  rw[hov,he0] at hU
  obtain⟨X,hX⟩: ∃X,X=({ x with at':=Y.pa,leaf:=Y.pn }:GtP).look:=⟨_,rfl⟩
  refine(GtStep_over si m g _ _ wg _ bg bw x hok.live w hb hin.sc (fun W=>mWalkStep _ W) (fun args W=>by kernel_rfl) (fun args W=>by kernel_rfl) 0 Q hU (fun w1 hq=>(KP w1 hq).1.cell 4)
   (fun w2=> ∃w1 e,Q w1∧GtGo si m g X w1 (.bool false) e w2) X.done X.rc (fun w1 hq=> ?_) (fun w2 hr=> ?_)).mono ?_
  ·obtain⟨k1,k2,k3,k4⟩:=KP w1 hq
   have hq':=hq
   obtain⟨M',f',hM,hW,hf⟩:=hq
   refine(WalkC_z si m g bg bw wg x Y f' _ _ hov he0 (hpa hov) w1 k1 hW k3 k4 k2 hin.sig hbgn hbwn).mono ?_
   intro e w2 hgo
   rw[←hX] at hgo
   exact⟨⟨false,hgo.1⟩,w1,e,hq',hgo⟩
  ·obtain⟨w1,e,_,hgo⟩:=hr
   exact goCells hgo
  ·rintro e w' ⟨rfl,w2,⟨w1,e2,⟨M',f',hM,_,_⟩,hgo⟩,ho⟩
   rw[←hX]
   exact⟨rfl,gt_go hM hgo ho hgl hin.gm⟩
theorem GtStep_read (y:RdP) (hu:x.u= .read y) (f:List Nat) (hok:GtOK M.view x) (w:World) (hin:WkIn w si m g B M K f) (hs:GtIs w si m g x f):
  Calls Tryz.prog 48 #[ptrV g] w (GtPost si m g B M K x f w):=by
 obtain⟨⟨uv,fv,us,bs,hb,hat,rfl,hbs⟩,hne⟩:=hs
 rw[hu] at hat
 obtain⟨rg,lv,br,bg,N,rfl,rfl,hw,hNw,hcr,hcg,rfl,rfl⟩:=hat
 have hrd:=hok.read y hu
 have heff:x.eff (absM M)=absM M:=by unfold GtP.eff;rw[hu]
 have hgl:=hb.lt
 have hbl: ∀z∈[br,bg],z<w.heap.size:=by
  intro z hz
  simp at hz
  rcases hz with rfl | rfl
  ·exact World.block_lt_of_cell? _ _ hcr
  ·exact World.block_lt_of_cell? _ _ hcg
 have hU:=RdStep_z N m rg B M y lv hrd w hNw hin.mem.is hw (hin.fm rg (by simp)) (fun k hk=>hin.fm k (by simp[hk]))
 obtain⟨Y,hY⟩: ∃Y,Y=y.next M.view:=⟨_,rfl⟩
 rw[←hY] at hU
 let Q:World→Prop:=fun w1=> ∃M' lv',MSt m B K w M w1 M' (absM M) (rg::lv.ownBlock.toList)∧RdIs w1 N m rg Y lv'∧ ∀k,lv'.ownBlock=some k→lv.ownBlock=some k∨(w.heap.size≤k∧k∉footM m B M')
 have hU2:Calls Tryz.prog 229 #[ptrV rg] w fun e w1=>e= .returned (.tuple #[.bool Y.done,.int .i64 Y.bad])∧Q w1:=hU.mono (by
  rintro e w1 ⟨rfl,hL,lv',h1,h2⟩
  obtain⟨M',hM,he⟩:=MSt.of_load2 (ks:=rg::lv.ownBlock.toList) hin.mem hin.st hL
  exact⟨rfl,M',lv',hM,h1,fun k hk=>(h2 k hk).imp id (fun h=>⟨h,fun hc=>by rw[he] at hc;have:=hin.mem.is.foot_lt k hc;omega⟩)⟩)
 have KP: ∀w1,Q w1→GtBlk w1 g si x (.iface 235 (ptrV rg)) (clV 125 br bg)∧w1.cell? ⟨si,0,none⟩=some (ptrV m)∧w1.cell? ⟨br,0,none⟩=some (ptrV rg)∧w1.cell? ⟨bg,0,none⟩=some (ptrV g):=fun w1 hq=>by
  obtain⟨M',lv',hM,_⟩:=hq
  obtain⟨r1,r2,r3,r4⟩:=gt_keep hM hbs hne hin.gm hin.fm hb hin.sc hin.sif hin.sim
  exact⟨r1,r2,r3 _ (by simp) _ hcr,r3 _ (by simp) _ hcg⟩
 have hbgn:bg≠g:=fun e=>hne (by rw[e];simp)
 have hbrn:br≠g:=fun e=>hne (by rw[e];simp)
 cases hov:Y.done with
 | false=>
  have hbad:Y.bad=0:=by
   have h1:y.next M.view=y.got (wdV M.view y.adr).toNat:=by unfold RdP.next;rw[if_neg (by rw[hrd.live];simp)]
   rw[hY,h1] at hov
   rw[hY,h1]
   unfold RdP.got at hov ⊢
   by_cases c1:120< (y.l++[(wdV M.view y.adr).toNat]).headD 0
   ·rw[if_pos c1] at hov;cases hov
   ·rw[if_neg c1] at hov ⊢
    by_cases c2:y.l.length+1<wordsV ((y.l++[(wdV M.view y.adr).toNat]).headD 0)
    ·rw[if_pos c2];exact hrd.bad
    ·rw[if_neg c2] at hov;cases hov
  have hnext:x.next M.view={ x with u:= .read Y }:=by
   unfold GtP.next
   rw[if_neg (by rw[hok.live];simp),hu]
   show(if(y.next M.view).done=true then _ else _)=_
   rw[←hY,if_neg (by rw[hov];simp)]
  unfold GtPost
  rw[hnext,heff]
  rw[hov,hbad] at hU2
  refine(GtStep_still si m g _ _ rg _ br bg x hok.live w hb hin.sc (fun W=>mReadStep _ W) (fun args W=>by kernel_rfl) Q hU2 (fun w1 hq=>by rw[←hok.live];exact(KP w1 hq).1.cell 30)).mono ?_
  rintro e w1 ⟨rfl,hq⟩
  obtain⟨k1,k2,k3,k4⟩:=KP w1 hq
  obtain⟨M',lv',hM,hW,hf⟩:=hq
  refine⟨by show _=Ending.returned (outV x.done x.rc);rw[hok.live];rfl,?_⟩
  refine gt_stay (us':=rg::lv'.ownBlock.toList) hM k1 ⟨rg,lv',br,bg,N,rfl,rfl,hW,Nat.le_trans hNw hM.only.size,k3,k4,rfl,rfl⟩ (fun z hz=> ?_) hbs hbl hne hgl
  rcases List.mem_cons.1 hz with rfl | h1
  ·exact Or.inl (by simp)
  ·exact(hf z (by simpa using h1)).imp (fun h=>by simp[h]) id
 | true=>
  obtain⟨X,hX⟩: ∃X:GtP,X={ x with v:=if Y.bad=0 then Y.s else{ data:= #[] },why:=Y.bad,u:= .still (stNew x.at' x.leaf) }:=⟨_,rfl⟩
  have hnext:x.next M.view=X:=by
   unfold GtP.next
   rw[if_neg (by rw[hok.live];simp),hu]
   show(if(y.next M.view).done=true then _ else _)=_
   rw[←hY,if_pos hov,hX]
  have hXd:X.done=x.done:=by rw[hX]
  have hXr:X.rc=x.rc:=by rw[hX]
  unfold GtPost
  rw[hnext,heff]
  rw[hov] at hU2
  refine(GtStep_over si m g _ _ rg _ br bg x hok.live w hb hin.sc (fun W=>mReadStep _ W) (fun args W=>by kernel_rfl) (fun args W=>by kernel_rfl) Y.bad Q hU2 (fun w1 hq=>(KP w1 hq).1.cell 4)
   (fun w2=> ∃w1 e,Q w1∧GtGo si m g X w1 (.bool false) e w2) X.done X.rc (fun w1 hq=> ?_) (fun w2 hr=> ?_)).mono ?_
  ·obtain⟨k1,k2,k3,k4⟩:=KP w1 hq
   have hq':=hq
   obtain⟨M',lv',hM,hW,hf⟩:=hq
   refine(LookC_z N si m g br bg rg B M' x Y lv' _ _ Y.bad hov w1 hM.mems.is k1 hW k4 k3 k2 hin.sig hbgn hbrn).mono ?_
   intro e w2 hgo
   rw[←hX] at hgo
   exact⟨⟨false,hgo.1⟩,w1,e,hq',hgo⟩
  ·obtain⟨w1,e,_,hgo⟩:=hr
   exact goCells hgo
  ·rintro e w' ⟨rfl,w2,⟨w1,e2,⟨M',f',hM,_,_⟩,hgo⟩,ho⟩
   exact⟨rfl,gt_go hM hgo ho hgl hin.gm⟩
theorem GtStep_last (l:LtP) (rc:Int) (rv:ByteArray) (hu:x.u= .last l rc rv) (f:List Nat) (hok:GtOK M.view x) (w:World) (hin:WkIn w si m g B M K f) (hs:GtIs w si m g x f):
  Calls Tryz.prog 48 #[ptrV g] w (GtPost si m g B M K x f w):=by
 obtain⟨⟨uv,fv,us,bs,hb,hat,rfl,hbs⟩,hne⟩:=hs
 rw[hu] at hat
 obtain⟨lg,lr,br,bg,rfl,rfl,hw,hr,hcg,rfl,rfl⟩:=hat
 obtain⟨hlo,hlc,hll⟩:=hok.last l rc rv hu
 have heff:x.eff (absM M)=l.eff (absM M):=by unfold GtP.eff;rw[hu]
 have hgl:=hb.lt
 have hbl: ∀z∈[br,bg],z<w.heap.size:=by
  intro z hz
  simp at hz
  rcases hz with rfl | rfl
  ·exact hr.lt
  ·exact World.block_lt_of_cell? _ _ hcg
 have hU:=LtStep_z m lg lr B M K hin.few l hlo hlc hll w hin.mem hin.st hw (hin.fm lg (by simp)) (hin.fm lr (by simp))
 obtain⟨Y,hY⟩: ∃Y,Y=l.next:=⟨_,rfl⟩
 let Q:World→Prop:=fun w1=> ∃M',MSt m B K w M w1 M' (l.eff (absM M)) [lg,lr]∧LtIs w1 m lg lr Y
 have hU2:Calls Tryz.prog 234 #[ptrV lg] w fun e w1=>e= .returned (.tuple #[.bool Y.over,.int .i64 0])∧Q w1:=hU.mono (by
  rintro e w1 hp
  unfold LtPost at hp
  rw[←hY] at hp
  obtain⟨rfl,M',hM,h1⟩:=hp
  exact⟨rfl,M',hM.mono (by simp),h1⟩)
 have KP: ∀w1,Q w1→GtBlk w1 g si x (.iface 267 (ptrV lg)) (clV 160 br bg)∧w1.cell? ⟨si,0,none⟩=some (ptrV m)∧Blk w1 br 41 (respC rc rv)∧w1.cell? ⟨bg,0,none⟩=some (ptrV g):=fun w1 hq=>by
  obtain⟨M',hM,_⟩:=hq
  obtain⟨r1,r2,r3,r4⟩:=gt_keep hM hbs hne hin.gm hin.fm hb hin.sc hin.sif hin.sim
  exact⟨r1,r2,r4 _ (by simp) _ _ hr,r3 _ (by simp) _ hcg⟩
 cases hov:Y.over with
 | false=>
  have hnext:x.next M.view={ x with u:= .last Y rc rv }:=by
   unfold GtP.next
   rw[if_neg (by rw[hok.live];simp),hu]
   show(if l.next.over=true then _ else _)=_
   rw[←hY,if_neg (by rw[hov];simp)]
  unfold GtPost
  rw[hnext,heff]
  rw[hov] at hU2
  refine(GtStep_still si m g _ _ lg _ br bg x hok.live w hb hin.sc (fun W=>mLastStep _ W) (fun args W=>by kernel_rfl) Q hU2 (fun w1 hq=>by rw[←hok.live];exact(KP w1 hq).1.cell 30)).mono ?_
  rintro e w1 ⟨rfl,hq⟩
  obtain⟨k1,k2,k3,k4⟩:=KP w1 hq
  obtain⟨M',hM,hW⟩:=hq
  refine⟨by show _=Ending.returned (outV x.done x.rc);rw[hok.live];rfl,?_⟩
  exact gt_stay (us':=[lg,lr]) hM k1 ⟨lg,lr,br,bg,rfl,rfl,hW,k3,k4,rfl,rfl⟩ (fun z hz=>Or.inl hz) hbs hbl hne hgl
 | true=>
  have hnext:x.next M.view=({ x with u:= .last Y rc rv }:GtP).answer rc rv:=by
   unfold GtP.next
   rw[if_neg (by rw[hok.live];simp),hu]
   show(if l.next.over=true then _ else _)=_
   rw[←hY,if_pos hov]
  unfold GtPost
  rw[hnext,heff]
  rw[hov] at hU2
  refine(GtStep_over si m g _ _ lg _ br bg x hok.live w hb hin.sc (fun W=>mLastStep _ W) (fun args W=>by kernel_rfl) (fun args W=>by kernel_rfl) 0 Q hU2 (fun w1 hq=>(KP w1 hq).1.cell 4)
   (fun w2=> ∃w1 e,Q w1∧GtAn si g (x.answer rc rv) (.iface 267 (ptrV lg)) (clV 160 br bg) w1 e w2) true rc (fun w1 hq=> ?_) (fun w2 hr=> ?_)).mono ?_
  ·obtain⟨k1,k2,k3,k4⟩:=KP w1 hq
   refine(LastC_z si g br bg x _ _ rc rv w1 k1 k3 k4).mono ?_
   intro e w2 hA
   exact⟨⟨true,hA.1⟩,w1,e,hq,hA⟩
  ·obtain⟨w1,e,_,hA⟩:=hr
   exact⟨hA.2.1.cell 30,hA.2.1.cell 31⟩
  ·rintro e w' ⟨rfl,w2,⟨w1,e2,hq,hA⟩,ho⟩
   obtain⟨k1,k2,k3,k4⟩:=KP w1 hq
   obtain⟨M',hM,hW⟩:=hq
   exact⟨rfl,gt_ans (us':=[lg,lr]) hM ⟨lg,lr,br,bg,rfl,rfl,hW,k3,k4,rfl,rfl⟩ (fun z hz=>Or.inl hz) hbs hbl hne hgl hin.gm hA (fun W h=>h) ho⟩
end
end Go.Proofs.YtjmaicckkkdjpaaGreat
