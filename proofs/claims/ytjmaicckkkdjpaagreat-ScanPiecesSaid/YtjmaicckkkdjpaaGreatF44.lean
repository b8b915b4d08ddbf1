import Derived.Test.YtjmaicckkkdjpaaGreatF43
set_option maxRecDepth 100000
set_option maxHeartbeats 4000000
set_option linter.unusedVariables false
set_option linter.unusedSimpArgs false
/- A step of a scan: its machines. -/
namespace Go.Proofs.YtjmaicckkkdjpaaGreat
open Go.RowKit
theorem ScP.read_u (x:ScP) (u:ScU):({ x with u:=u }:ScP).read=x.read:=rfl
theorem scCells {si m g:Nat} {F:List Nat} {X:ScP} {w w2:World} {e:Ending} (h:ScGo si m g F X w e w2):w2.cell? ⟨g,36,none⟩=some (.bool X.done)∧w2.cell? ⟨g,37,none⟩=some (.int .i64 X.e):=by
 obtain⟨_,f',⟨⟨R,uv,fv,us,bs,hb,_⟩,_⟩,_⟩:=h
 exact⟨hb.cell 36,hb.cell 37⟩
theorem ScP.next_live {v:List Int} {x:ScP} (hok:ScOK v x):x.next v=match x.u with
 | .walk y=>if(y.next v).over=true then(if(y.next v).e≠0 then({ x with u:= .walk (y.next v) }:ScP).fin (y.next v).e else({ x with u:= .walk (y.next v) }:ScP).land (y.next v)) else{ x with u:= .walk (y.next v) }
 | .read y=>if(y.next v).done=true then x.took (y.next v) else{ x with u:= .read (y.next v) }
 | .still y=>if(y.next v).over=true then(if(y.next v).same=false then({ x with u:= .still (y.next v),tries:=x.tries+1 }:ScP).again else if x.why≠0 then({ x with u:= .still (y.next v) }:ScP).fin x.why else{ x with u:= .last ⟨x.client,linesL x.at',false⟩ }) else{ x with u:= .still (y.next v) }
 | .last l=>if l.next.over=true then({ x with u:= .last l.next }:ScP).lasted else{ x with u:= .last l.next }:=ScP.alive hok.live hok.arg v
section
variable (si m g:Nat) (B:MB) (M:MemS) (K:Nat) (x:ScP)
theorem ScStep_walk (y:WkP) (hu:x.u= .walk y) (f:List Nat) (hok:ScOK M.view x) (w:World) (hin:WkIn w si m g B M K f) (hs:ScIs w si m g x f):
  Calls Tryz.prog 37 #[ptrV g] w (ScPost si m g B M K x f w):=by
 obtain⟨⟨R,uv,fv,us,bs,hb,hat,hr,rfl,hbs,hbb⟩,hne⟩:=hs
 rw[hu] at hat
 obtain⟨wg,f0,bg,bw,rfl,rfl,hw,hcg,hcw,rfl,rfl⟩:=hat
 obtain⟨hwk,he0,hph8⟩:=hok.walk y hu
 have heff:x.eff (absM M)=y.eff (absM M):=by unfold ScP.eff;rw[hu]
 have hgl:=hb.lt
 have hbl: ∀z∈[bg,bw]++R.bl,z<w.heap.size:=by
  intro z hz
  rcases List.mem_append.1 hz with h | h
  ·simp at h
   rcases h with rfl | rfl
   ·exact World.block_lt_of_cell? _ _ hcg
   ·exact World.block_lt_of_cell? _ _ hcw
  ·exact hr.lt z h
 obtain⟨Y,hY⟩: ∃Y,Y=y.next M.view:=⟨_,rfl⟩
 let Q:World→Prop:=fun w1=> ∃M' f',MSt m B K w M w1 M' (y.eff (absM M)) (wg::f0)∧WkIs w1 si m wg Y f'∧ ∀z∈f',z∈f0∨(w.heap.size≤z∧z∉footM m B M')
 have hU: ∀W,Below w.heap.size w W→Calls Tryz.prog 227 #[ptrV wg] W fun e w1=>e= .returned (.tuple #[.bool Y.over,.int .i64 Y.e])∧Q w1:=fun W hbW=>by
  have hin':=hin.bel hbW
  refine(WkStep_z si m wg B M K y f0 hwk W ⟨hin'.mem,hin'.st,hin'.few,hin'.sc,hin'.sil,fun e=>hin.sif (by rw[e];simp),fun h=>hin.sif (by simp[h]),hin'.sim,hin.fm wg (by simp),fun z hz=>hin.fm z (by simp[hz])⟩ (hw.only (Only.of_below hbW []) (by simp) (by simp))).mono ?_
  intro e w1 hp
  unfold WkPost at hp
  rw[←hY] at hp
  obtain⟨h1,M',f',h2,h3,h4⟩:=hp
  exact⟨h1,M',f',h2.ahead hbW,h3,fun z hz=>(h4 z hz).imp id (fun h=>⟨Nat.le_trans hbW.size h.1,h.2⟩)⟩
 rw[←hY] at he0 hph8
 rw[he0] at hU
 have KP: ∀w1,Q w1→ScBlk w1 g si x R (.iface 171 (ptrV wg)) (clV 113 bg bw)∧ScRows w1 x.want x.got x.pairs R∧w1.cell? ⟨si,0,none⟩=some (ptrV m)∧w1.cell? ⟨bg,0,none⟩=some (ptrV g)∧w1.cell? ⟨bw,0,none⟩=some (ptrV wg):=fun w1 hq=>by
  obtain⟨M',f',hM,_⟩:=hq
  obtain⟨r1,r5,r2,r3,r4⟩:=sc_keep hM hbs hne hin.gm hin.fm hb hr hin.sc hin.sif hin.sim
  exact⟨r1,r5,r2,r3 _ (by simp) _ hcg,r3 _ (by simp) _ hcw⟩
 have hbgn:bg≠g:=fun e=>hne (by rw[e];simp)
 have hbwn:bw≠g:=fun e=>hne (by rw[e];simp)
 have hwgn:wg≠g:=fun e=>hne (by rw[e];simp)
 have hgrb:g∉R.bl:=fun h=>hne (by simp[h])
 cases hov:Y.over with
 | false=>
  have hnext:x.next M.view={ x with u:= .walk Y }:=by
   rw[ScP.next_live hok,hu]
   show(if(y.next M.view).over=true then _ else _)=_
   rw[←hY,if_neg (by rw[hov];simp)]
  unfold ScPost
  rw[hnext,heff]
  rw[hov] at hU
  refine(SStep_still si m g _ wg x R _ _ hok.live hok.arg w hb hin.sc (fun W=>mWalkStep _ W) (fun args W=>by kernel_rfl) Q hU (fun w1 hq=>by rw[←hok.live,←hok.e];exact⟨(KP w1 hq).1.cell 36,(KP w1 hq).1.cell 37⟩)).mono ?_
  rintro e w' ⟨rfl,w1,hq,ho⟩
  obtain⟨k1,k5,k2,k3,k4⟩:=KP w1 hq
  obtain⟨M',f',hM,hW,hf⟩:=hq
  refine⟨by show _=Ending.returned (outS x.done x.e);rw[hok.live,hok.e],?_⟩
  refine sc_stay (us':=wg::f') hM k1 k5 ⟨wg,f',bg,bw,rfl,rfl,hW,k3,k4,rfl,rfl⟩ (fun z hz=> ?_) hbs hbl hbb hne hgl ho
  rcases List.mem_cons.1 hz with rfl | h1
  ·exact Or.inl (by simp)
  ·exact(hf z h1).imp (fun h=>by simp[h]) id
 | true=>
  have hnext:x.next M.view=x.land Y:=by
   rw[ScP.next_live hok,hu]
   show(if(y.next M.view).over=true then(if(y.next M.view).e≠0 then _ else _) else _)=_
   rw[←hY,if_pos hov,if_neg (by rw[he0];simp)]
   exact ScP.read_u (x.leafed Y) (.walk Y)
  unfold ScPost
  rw[hnext,heff]
  rw[hov] at hU
  obtain⟨X,hX⟩: ∃X,X=x.land Y:=⟨_,rfl⟩
  refine(SStep_over si m g _ wg x R _ _ #[] #[.pointer (some ⟨bg,0,none⟩),.pointer (some ⟨bw,0,none⟩)] hok.live hok.arg w hb hin.sc (fun W=>mWalkStep _ W) (fun args W=>by kernel_rfl) (fun args W=>by kernel_rfl) 0 Q hU (fun w1 hq=>(KP w1 hq).1.cell 6)
   (fun w2=> ∃w1 e,Q w1∧ScGo si m g R.bl X w1 e w2) X.done X.e (fun w1 hq=> ?_) (fun w2 hr=> ?_)).mono ?_
  ·obtain⟨k1,k5,k2,k3,k4⟩:=KP w1 hq
   have hq':=hq
   obtain⟨M',f',hM,hW,hf⟩:=hq
   refine(SWalkC_z si m g bg bw wg x R Y f' _ _ hov he0 (hph8 hov).1 hok.pairs (by have:=hok.arg;omega) (hph8 hov).2 w1 k1 k5 hgrb hW k3 k4 k2 hin.sig hbgn hbwn hwgn (fun h=> ?_)).mono ?_
   ·rcases hf g h with h | h
    ·exact hne (by simp[h])
    ·have:=h.1;omega
   intro e w2 hgo
   rw[←hX] at hgo
   exact⟨hgo.1,w1,e,hq',hgo⟩
  ·obtain⟨w1,e,_,hgo⟩:=hr
   exact scCells hgo
  ·rintro e w' ⟨rfl,w2,⟨w1,e2,⟨M',f',hM,_,_⟩,hgo⟩,ho⟩
   rw[←hX]
   exact⟨rfl,sc_go hM hgo ho hbl hin.fm hgl hin.gm⟩
theorem ScStep_read (y:RdP) (hu:x.u= .read y) (f:List Nat) (hok:ScOK M.view x) (w:World) (hin:WkIn w si m g B M K f) (hs:ScIs w si m g x f):
  Calls Tryz.prog 37 #[ptrV g] w (ScPost si m g B M K x f w):=by
 obtain⟨⟨R,uv,fv,us,bs,hb,hat,hr,rfl,hbs,hbb⟩,hne⟩:=hs
 rw[hu] at hat
 obtain⟨rg,lv,br,bg,be,pt,N,rfl,rfl,hw,hNw,hcr,hcg,hce,rfl,rfl⟩:=hat
 obtain⟨hrd,hlt,h256⟩:=hok.read y hu
 have heff:x.eff (absM M)=absM M:=by unfold ScP.eff;rw[hu]
 have hgl:=hb.lt
 have hbl: ∀z∈[br,bg,be]++R.bl,z<w.heap.size:=by
  intro z hz
  rcases List.mem_append.1 hz with h | h
  ·simp at h
   rcases h with rfl | rfl | rfl
   ·exact World.block_lt_of_cell? _ _ hcr
   ·exact World.block_lt_of_cell? _ _ hcg
   ·exact hce.lt
  ·exact hr.lt z h
 obtain⟨Y,hY⟩: ∃Y,Y=y.next M.view:=⟨_,rfl⟩
 let Q:World→Prop:=fun w1=> ∃M' lv',MSt m B K w M w1 M' (absM M) (rg::lv.ownBlock.toList)∧RdIs w1 N m rg Y lv'∧ ∀k,lv'.ownBlock=some k→lv.ownBlock=some k∨(w.heap.size≤k∧k∉footM m B M')
 have hU: ∀W,Below w.heap.size w W→Calls Tryz.prog 229 #[ptrV rg] W fun e w1=>e= .returned (.tuple #[.bool Y.done,.int .i64 Y.bad])∧Q w1:=fun W hbW=>by
  have hin':=hin.bel hbW
  refine(RdStep_z N m rg B M y lv hrd W (Nat.le_trans hNw hbW.size) hin'.mem.is (hw.only (Only.of_below hbW []) (by simp) (by simp)) (hin.fm rg (by simp)) (fun k hk=>hin.fm k (by simp[hk]))).mono ?_
  rw[←hY]
  rintro e w1 ⟨rfl,hL,lv',h1,h2⟩
  obtain⟨M',hM,he⟩:=MSt.of_load2 (ks:=rg::lv.ownBlock.toList) hin'.mem hin.st hL
  exact⟨rfl,M',lv',hM.ahead hbW,h1,fun k hk=>(h2 k hk).imp id (fun h=>⟨Nat.le_trans hbW.size h,fun hc=>by rw[he] at hc;have:=hin'.mem.is.foot_lt k hc;omega⟩)⟩
 have KP: ∀w1,Q w1→ScBlk w1 g si x R (.iface 235 (ptrV rg)) (.func (.func 150) #[] #[.pointer (some ⟨br,0,none⟩),.pointer (some ⟨bg,0,none⟩),.pointer (some ⟨be,0,none⟩)])∧ScRows w1 x.want x.got x.pairs R∧w1.cell? ⟨si,0,none⟩=some (ptrV m)∧w1.cell? ⟨br,0,none⟩=some (ptrV rg)∧w1.cell? ⟨bg,0,none⟩=some (ptrV g)∧Blk w1 be 130 #[.int .u64 x.ky,.int .u64 pt]:=fun w1 hq=>by
  obtain⟨M',lv',hM,_⟩:=hq
  obtain⟨r1,r5,r2,r3,r4⟩:=sc_keep hM hbs hne hin.gm hin.fm hb hr hin.sc hin.sif hin.sim
  exact⟨r1,r5,r2,r3 _ (by simp) _ hcr,r3 _ (by simp) _ hcg,r4 _ (by simp) _ _ hce⟩
 have hbgn:bg≠g:=fun e=>hne (by rw[e];simp)
 have hgrb:g∉R.bl:=fun h=>hne (by simp[h])
 have hsr:si∉R.bl:=fun h=>hin.sif (by simp[h])
 cases hov:Y.done with
 | false=>
  have hbad:Y.bad=0:=by
   have h1:y.next M.view=y.got (wdV M.view y.adr).toNat:=by unfold RdP.next;rw[if_neg (by rw[hrd.live];simp)]
   rw[hY,h1] at hov
   rw[hY,h1]
   unfold RdP.got at hov ⊢
   by_cases c1:120< (y.l++[(wdV M.view y.adr).toNat]).headD 0
   ·rw[if_pos c1] at hov;cases hov
   ·rw[if_neg c1] at hov ⊢
    by_cases c2:y.l.length+1<wordsV ((y.l++[(wdV M.view y.adr).toNat]).headD 0)
    ·rw[if_pos c2];exact hrd.bad
    ·rw[if_neg c2] at hov;cases hov
  have hnext:x.next M.view={ x with u:= .read Y }:=by
   rw[ScP.next_live hok,hu]
   show(if(y.next M.view).done=true then _ else _)=_
   rw[←hY,if_neg (by rw[hov];simp)]
  unfold ScPost
  rw[hnext,heff]
  rw[hov,hbad] at hU
  refine(SStep_still si m g _ rg x R _ _ hok.live hok.arg w hb hin.sc (fun W=>mReadStep _ W) (fun args W=>by kernel_rfl) Q hU (fun w1 hq=>by rw[←hok.live,←hok.e];exact⟨(KP w1 hq).1.cell 36,(KP w1 hq).1.cell 37⟩)).mono ?_
  rintro e w' ⟨rfl,w1,hq,ho⟩
  obtain⟨k1,k5,k2,k3,k4,k6⟩:=KP w1 hq
  obtain⟨M',lv',hM,hW,hf⟩:=hq
  refine⟨by show _=Ending.returned (outS x.done x.e);rw[hok.live,hok.e],?_⟩
  refine sc_stay (us':=rg::lv'.ownBlock.toList) hM k1 k5 ⟨rg,lv',br,bg,be,pt,N,rfl,rfl,hW,Nat.le_trans hNw hM.only.size,k3,k4,k6,rfl,rfl⟩ (fun z hz=> ?_) hbs hbl hbb hne hgl ho
  rcases List.mem_cons.1 hz with rfl | h1
  ·exact Or.inl (by simp)
  ·exact(hf z (by simpa using h1)).imp (fun h=>by simp[h]) id
 | true=>
  obtain⟨X,hX⟩: ∃X:ScP,X=x.took Y:=⟨_,rfl⟩
  have hnext:x.next M.view=X:=by
   rw[ScP.next_live hok,hu]
   show(if(y.next M.view).done=true then _ else _)=_
   rw[←hY,if_pos hov,hX]
  unfold ScPost
  rw[hnext,heff]
  rw[hov] at hU
  refine(SStep_over si m g _ rg x R _ _ #[] #[.pointer (some ⟨br,0,none⟩),.pointer (some ⟨bg,0,none⟩),.pointer (some ⟨be,0,none⟩)] hok.live hok.arg w hb hin.sc (fun W=>mReadStep _ W) (fun args W=>by kernel_rfl) (fun args W=>by kernel_rfl) Y.bad Q hU (fun w1 hq=>(KP w1 hq).1.cell 6)
   (fun w2=> ∃w1 e,Q w1∧ScGo si m g R.bl X w1 e w2) X.done X.e (fun w1 hq=> ?_) (fun w2 hr=> ?_)).mono ?_
  ·obtain⟨k1,k5,k2,k3,k4,k6⟩:=KP w1 hq
   have hq':=hq
   obtain⟨M',lv',hM,hW,hf⟩:=hq
   refine(SReadC_z N si m g br bg be rg B M' x R Y lv' _ _ Y.bad pt hov hlt h256 w1 hM.mems.is k1 k5 hgrb hW k4 k3 k6 k2 hin.sig hsr hbgn (hbb bg (by simp))).mono ?_
   intro e w2 hgo
   rw[←hX] at hgo
   exact⟨hgo.1,w1,e,hq',hgo⟩
  ·obtain⟨w1,e,_,hgo⟩:=hr
   exact scCells hgo
  ·rintro e w' ⟨rfl,w2,⟨w1,e2,⟨M',f',hM,_,_⟩,hgo⟩,ho⟩
   exact⟨rfl,sc_go hM hgo ho hbl hin.fm hgl hin.gm⟩
end
end Go.Proofs.YtjmaicckkkdjpaaGreat
/- A step of a scan. -/
namespace Go.Proofs.YtjmaicckkkdjpaaGreat
open Go.RowKit
attribute [local go_sem ↓ high] nodeLoadAt nodeLoadVar nodeStoreAt scBuild lfBuild lfStoreAt
attribute [local go_sem] ldM_run lvM_run stM_run Oper.semAt_some run_store_fnG bldMg_run
section
variable (si m g:Nat) (B:MB) (M:MemS) (K:Nat) (x:ScP)
theorem ScStep_last (l:LtP) (hu:x.u= .last l) (f:List Nat) (hok:ScOK M.view x) (w:World) (hin:WkIn w si m g B M K f) (hs:ScIs w si m g x f):
  Calls Tryz.prog 37 #[ptrV g] w (ScPost si m g B M K x f w):=by
 obtain⟨⟨R,uv,fv,us,bs,hb,hat,hr,rfl,hbs,hbb⟩,hne⟩:=hs
 rw[hu] at hat
 obtain⟨lg,lr,rfl,rfl,hw,rfl,rfl⟩:=hat
 obtain⟨hlo,hlc,hll,hgt,h256⟩:=hok.last l hu
 have heff:x.eff (absM M)=l.eff (absM M):=by unfold ScP.eff;rw[hu]
 have hgl:=hb.lt
 have hbl: ∀z∈[]++R.bl,z<w.heap.size:=fun z hz=>hr.lt z (by simpa using hz)
 obtain⟨Y,hY⟩: ∃Y,Y=l.next:=⟨_,rfl⟩
 let Q:World→Prop:=fun w1=> ∃M',MSt m B K w M w1 M' (l.eff (absM M)) [lg,lr]∧LtIs w1 m lg lr Y
 have hU: ∀W,Below w.heap.size w W→Calls Tryz.prog 234 #[ptrV lg] W fun e w1=>e= .returned (.tuple #[.bool Y.over,.int .i64 0])∧Q w1:=fun W hbW=>by
  have hin':=hin.bel hbW
  refine(LtStep_z m lg lr B M K hin.few l hlo hlc hll W hin'.mem hin.st (hw.only (Only.of_below hbW []) (by simp) (by simp)) (hin.fm lg (by simp)) (hin.fm lr (by simp))).mono ?_
  intro e w1 hp
  unfold LtPost at hp
  rw[←hY] at hp
  obtain⟨rfl,M',hM,h1⟩:=hp
  exact⟨rfl,M',(hM.mono (by simp)).ahead hbW,h1⟩
 have KP: ∀w1,Q w1→ScBlk w1 g si x R (.iface 267 (ptrV lg)) (fnV 178 g)∧ScRows w1 x.want x.got x.pairs R∧w1.cell? ⟨si,0,none⟩=some (ptrV m):=fun w1 hq=>by
  obtain⟨M',hM,_⟩:=hq
  obtain⟨r1,r5,r2,r3,r4⟩:=sc_keep hM hbs hne hin.gm hin.fm hb hr hin.sc hin.sif hin.sim
  exact⟨r1,r5,r2⟩
 have hgrb:g∉R.bl:=fun h=>hne (by simp[h])
 have hlen:x.pairs.length+x.got.length≤1000000:=by have:=hok.pairs;have:=hok.arg;omega
 cases hov:Y.over with
 | false=>
  have hnext:x.next M.view={ x with u:= .last Y }:=by
   rw[ScP.next_live hok,hu]
   show(if l.next.over=true then _ else _)=_
   rw[←hY,if_neg (by rw[hov];simp)]
  unfold ScPost
  rw[hnext,heff]
  rw[hov] at hU
  refine(SStep_still si m g _ lg x R _ _ hok.live hok.arg w hb hin.sc (fun W=>mLastStep _ W) (fun args W=>by kernel_rfl) Q hU (fun w1 hq=>by rw[←hok.live,←hok.e];exact⟨(KP w1 hq).1.cell 36,(KP w1 hq).1.cell 37⟩)).mono ?_
  rintro e w' ⟨rfl,w1,hq,ho⟩
  obtain⟨k1,k5,k2⟩:=KP w1 hq
  obtain⟨M',hM,hW⟩:=hq
  refine⟨by show _=Ending.returned (outS x.done x.e);rw[hok.live,hok.e],?_⟩
  exact sc_stay (us':=[lg,lr]) (bs:=[]) hM k1 k5 ⟨lg,lr,rfl,rfl,hW,rfl,rfl⟩ (fun z hz=>Or.inl hz) hbs hbl (by simp) hne hgl ho
 | true=>
  have hnext:x.next M.view=({ x with u:= .last Y }:ScP).lasted:=by
   rw[ScP.next_live hok,hu]
   show(if l.next.over=true then _ else _)=_
   rw[←hY,if_pos hov]
  unfold ScPost
  rw[hnext,heff]
  rw[hov] at hU
  unfold ScP.lasted
  dsimp only
  by_cases hend:((x.pairs++x.got).length:Int)=x.limit∨x.has=false∨x.hi<x.high
  ·rw[if_pos hend]
   refine(SStep_over si m g _ lg x R _ _ #[ptrV g] #[] hok.live hok.arg w hb hin.sc (fun W=>mLastStep _ W) (fun args W=>by kernel_rfl) (fun args W=>by kernel_rfl) 0 Q hU (fun w1 hq=>(KP w1 hq).1.cell 6)
    (fun w2=> ∃w1 e,Q w1∧ScAn si g R.bl (({ x with pairs:=x.pairs++x.got }:ScP).fin 0) (.iface 267 (ptrV lg)) (fnV 178 g) w1 e w2) true 0 (fun w1 hq=> ?_) (fun w2 hr=> ?_)).mono ?_
   ·obtain⟨k1,k5,k2⟩:=KP w1 hq
    refine(SLasted_end si g x R _ _ hend hlen w1 k1 k5 hgrb).mono ?_
    intro e w2 hA
    exact⟨hA.1,w1,e,hq,hA⟩
   ·obtain⟨w1,e,_,hA⟩:=hr
    obtain⟨_,R',hB,_⟩:=hA
    exact⟨hB.cell 36,hB.cell 37⟩
   ·rintro e w' ⟨rfl,w2,⟨w1,e2,⟨M',hM,hW⟩,hA⟩,ho⟩
    exact⟨rfl,sc_ans (bs:=[]) (us':=[lg,lr]) (X:=({ x with u:= .last Y,pairs:=x.pairs++x.got }:ScP).fin 0) hM ⟨lg,lr,rfl,rfl,hW,rfl,rfl⟩ (fun z hz=>Or.inl hz) hbs hbl (by simp) hin.fm hne hgl hin.gm (fun z hz=>by
     simp at hz
     rcases hz with rfl | rfl
     ·obtain⟨⟨p,c,h2,_⟩,_⟩:=hW;exact h2.lt
     ·obtain⟨_,h5,_⟩:=hW;exact h5) hA (fun W R' h=>h) rfl rfl rfl ho⟩
  ·rw[if_neg hend]
   obtain⟨X,hX⟩: ∃X:ScP,X=({ x with pairs:=x.pairs++x.got,lo:=x.high }:ScP).again:=⟨_,rfl⟩
   have hXe:({ ({ x with u:= .last Y }:ScP) with pairs:=x.pairs++x.got,lo:=x.high }:ScP).again=X:=by rw[hX];rfl
   show Calls _ _ _ w fun e w'=>e=_∧_
   rw[hXe]
   refine(SStep_over si m g _ lg x R _ _ #[ptrV g] #[] hok.live hok.arg w hb hin.sc (fun W=>mLastStep _ W) (fun args W=>by kernel_rfl) (fun args W=>by kernel_rfl) 0 Q hU (fun w1 hq=>(KP w1 hq).1.cell 6)
    (fun w2=> ∃w1 e,Q w1∧ScGo si m g R.bl X w1 e w2) X.done X.e (fun w1 hq=> ?_) (fun w2 hr=> ?_)).mono ?_
   ·obtain⟨k1,k5,k2⟩:=KP w1 hq
    refine(SLasted_go si m g x R _ _ hend hlen w1 k1 k5 hgrb).mono ?_
    intro e w2 hgo
    rw[←hX] at hgo
    exact⟨hgo.1,w1,e,hq,hgo⟩
   ·obtain⟨w1,e,_,hgo⟩:=hr
    exact scCells hgo
   ·rintro e w' ⟨rfl,w2,⟨w1,e2,⟨M',hM,_⟩,hgo⟩,ho⟩
    exact⟨rfl,sc_go (bs:=[]) hM hgo ho hbl hin.fm hgl hin.gm⟩
theorem ScStep_st (y:StP) (hu:x.u= .still y) (f:List Nat) (hok:ScOK M.view x) (w:World) (hin:WkIn w si m g B M K f) (hs:ScIs w si m g x f):
  Calls Tryz.prog 37 #[ptrV g] w (ScPost si m g B M K x f w):=by
 obtain⟨⟨R,uv,fv,us,bs,hb,hat,hr,rfl,hbs,hbb⟩,hne⟩:=hs
 rw[hu] at hat
 obtain⟨sg,bg,bs',rfl,rfl,hw,hcg,hcs,rfl,rfl⟩:=hat
 obtain⟨hso,hsk,hsi,hsa,hxa⟩:=hok.still y hu
 have heff:x.eff (absM M)=absM M:=by unfold ScP.eff;rw[hu]
 have hgl:=hb.lt
 have hbl: ∀z∈[bg,bs']++R.bl,z<w.heap.size:=by
  intro z hz
  rcases List.mem_append.1 hz with h | h
  ·simp at h
   rcases h with rfl | rfl
   ·exact World.block_lt_of_cell? _ _ hcg
   ·exact World.block_lt_of_cell? _ _ hcs
  ·exact hr.lt z h
 obtain⟨Y,hY⟩: ∃Y,Y=y.next M.view:=⟨_,rfl⟩
 let Q:World→Prop:=fun w1=> ∃M',MSt m B K w M w1 M' (absM M) [sg]∧StIs w1 m sg x.leaf Y
 have hU: ∀W,Below w.heap.size w W→Calls Tryz.prog 235 #[ptrV sg] W fun e w1=>e= .returned (.tuple #[.bool Y.over,.int .i64 0])∧Q w1:=fun W hbW=>by
  have hin':=hin.bel hbW
  refine(StStep_z m sg B M x.leaf y hso hsk hsi hsa W hin'.mem.is (hw.bel hbW) (hin.fm sg (by simp))).mono ?_
  rw[←hY]
  rintro e w1 ⟨rfl,hL,h1⟩
  obtain⟨M',hM⟩:=MSt.of_load (ks:=[sg]) hin'.mem hin.st hL
  exact⟨rfl,M',hM.ahead hbW,h1⟩
 have KP: ∀w1,Q w1→ScBlk w1 g si x R (.iface 272 (ptrV sg)) (clV 177 bg bs')∧ScRows w1 x.want x.got x.pairs R∧w1.cell? ⟨si,0,none⟩=some (ptrV m)∧w1.cell? ⟨bg,0,none⟩=some (ptrV g)∧w1.cell? ⟨bs',0,none⟩=some (ptrV sg)∧StIs w1 m sg x.leaf Y:=fun w1 hq=>by
  obtain⟨M',hM,hW⟩:=hq
  obtain⟨r1,r5,r2,r3,r4⟩:=sc_keep hM hbs hne hin.gm hin.fm hb hr hin.sc hin.sif hin.sim
  exact⟨r1,r5,r2,r3 _ (by simp) _ hcg,r3 _ (by simp) _ hcs,hW⟩
 have hbgn:bg≠g:=fun e=>hne (by rw[e];simp)
 have hgrb:g∉R.bl:=fun h=>hne (by simp[h])
 cases hov:Y.over with
 | false=>
  have hnext:x.next M.view={ x with u:= .still Y }:=by
   rw[ScP.next_live hok,hu]
   show(if(y.next M.view).over=true then _ else _)=_
   rw[←hY,if_neg (by rw[hov];simp)]
  unfold ScPost
  rw[hnext,heff]
  rw[hov] at hU
  refine(SStep_still si m g _ sg x R _ _ hok.live hok.arg w hb hin.sc (fun W=>mStillStep _ W) (fun args W=>by kernel_rfl) Q hU (fun w1 hq=>by rw[←hok.live,←hok.e];exact⟨(KP w1 hq).1.cell 36,(KP w1 hq).1.cell 37⟩)).mono ?_
  rintro e w' ⟨rfl,w1,hq,ho⟩
  obtain⟨k1,k5,k2,k3,k4,_⟩:=KP w1 hq
  obtain⟨M',hM,hW⟩:=hq
  refine⟨by show _=Ending.returned (outS x.done x.e);rw[hok.live,hok.e],?_⟩
  exact sc_stay (us':=[sg]) hM k1 k5 ⟨sg,bg,bs',rfl,rfl,hW,k3,k4,rfl,rfl⟩ (fun z hz=>Or.inl hz) hbs hbl hbb hne hgl ho
 | true=>
  have hnext:x.next M.view=if Y.same=false then({ x with u:= .still Y,tries:=x.tries+1 }:ScP).again else if x.why≠0 then({ x with u:= .still Y }:ScP).fin x.why else{ x with u:= .last ⟨x.client,linesL x.at',false⟩ }:=by
   rw[ScP.next_live hok,hu]
   show(if(y.next M.view).over=true then _ else _)=_
   rw[←hY,if_pos hov]
  unfold ScPost
  rw[hnext,heff]
  rw[hov] at hU
  by_cases hsm:Y.same=false
  ·rw[if_pos hsm]
   obtain⟨X,hX⟩: ∃X:ScP,X=({ x with tries:=x.tries+1 }:ScP).again:=⟨_,rfl⟩
   rw[show({ x with u:= .still Y,tries:=x.tries+1 }:ScP).again=X from hX.symm]
   refine(SStep_over si m g _ sg x R _ _ #[] #[.pointer (some ⟨bg,0,none⟩),.pointer (some ⟨bs',0,none⟩)] hok.live hok.arg w hb hin.sc (fun W=>mStillStep _ W) (fun args W=>by kernel_rfl) (fun args W=>by kernel_rfl) 0 Q hU (fun w1 hq=>(KP w1 hq).1.cell 6)
    (fun w2=> ∃w1 e,Q w1∧ScGo si m g R.bl X w1 e w2) X.done X.e (fun w1 hq=> ?_) (fun w2 hr=> ?_)).mono ?_
   ·obtain⟨k1,k5,k2,k3,k4,k6⟩:=KP w1 hq
    refine(SStillC_again si m g bg bs' sg x R Y _ _ hov hsm hok.tries w1 k1 k5 hgrb k6 k3 k4 hbgn).mono ?_
    intro e w2 hgo
    rw[←hX] at hgo
    exact⟨hgo.1,w1,e,hq,hgo⟩
   ·obtain⟨w1,e,_,hgo⟩:=hr
    exact scCells hgo
   ·rintro e w' ⟨rfl,w2,⟨w1,e2,⟨M',hM,_⟩,hgo⟩,ho⟩
    exact⟨rfl,sc_go hM hgo ho hbl hin.fm hgl hin.gm⟩
  ·rw[if_neg hsm]
   have hsm':Y.same=true:=by simpa using hsm
   by_cases hy:x.why≠0
   ·rw[if_pos hy]
    refine(SStep_over si m g _ sg x R _ _ #[] #[.pointer (some ⟨bg,0,none⟩),.pointer (some ⟨bs',0,none⟩)] hok.live hok.arg w hb hin.sc (fun W=>mStillStep _ W) (fun args W=>by kernel_rfl) (fun args W=>by kernel_rfl) 0 Q hU (fun w1 hq=>(KP w1 hq).1.cell 6)
     (fun w2=> ∃w1 e,Q w1∧ScAn si g R.bl (x.fin x.why) (.iface 272 (ptrV sg)) (clV 177 bg bs') w1 e w2) true x.why (fun w1 hq=> ?_) (fun w2 hr=> ?_)).mono ?_
    ·obtain⟨k1,k5,k2,k3,k4,k6⟩:=KP w1 hq
     refine(SStillC_why si m g bg bs' sg x R Y _ _ hov hsm' hy w1 k1 k5 hgrb k6 k3 k4).mono ?_
     intro e w2 hA
     exact⟨hA.1,w1,e,hq,hA⟩
    ·obtain⟨w1,e,_,hA⟩:=hr
     obtain⟨_,R',hB,_⟩:=hA
     exact⟨hB.cell 36,hB.cell 37⟩
    ·rintro e w' ⟨rfl,w2,⟨w1,e2,hq,hA⟩,ho⟩
     obtain⟨k1,k5,k2,k3,k4,k6⟩:=KP w1 hq
     obtain⟨M',hM,hW⟩:=hq
     exact⟨rfl,sc_ans (us':=[sg]) (X:=({ x with u:= .still Y }:ScP).fin x.why) hM ⟨sg,bg,bs',rfl,rfl,hW,k3,k4,rfl,rfl⟩ (fun z hz=>Or.inl hz) hbs hbl hbb hin.fm hne hgl hin.gm (fun z hz=>by
      simp at hz
      rw[hz];exact hW.blk.lt) hA (fun W R' h=>h) rfl rfl rfl ho⟩
   ·rw[if_neg hy]
    obtain⟨X,hX⟩: ∃X:ScP,X={ x with u:= .last ⟨x.client,linesL x.at',false⟩ }:=⟨_,rfl⟩
    rw[←hX]
    refine(SStep_over si m g _ sg x R _ _ #[] #[.pointer (some ⟨bg,0,none⟩),.pointer (some ⟨bs',0,none⟩)] hok.live hok.arg w hb hin.sc (fun W=>mStillStep _ W) (fun args W=>by kernel_rfl) (fun args W=>by kernel_rfl) 0 Q hU (fun w1 hq=>(KP w1 hq).1.cell 6)
     (fun w2=> ∃w1 e,Q w1∧ScGo si m g R.bl X w1 e w2) X.done X.e (fun w1 hq=> ?_) (fun w2 hr=> ?_)).mono ?_
    ·obtain⟨k1,k5,k2,k3,k4,k6⟩:=KP w1 hq
     refine(SStillC_last si m g bg bs' sg x R Y _ _ hov hsm' (by simpa using hy) hxa w1 k1 k5 hgrb k6 k3 k4 k2 hin.sig hbgn).mono ?_
     intro e w2 hgo
     rw[←hX] at hgo
     exact⟨hgo.1,w1,e,hq,hgo⟩
    ·obtain⟨w1,e,_,hgo⟩:=hr
     exact scCells hgo
    ·rintro e w' ⟨rfl,w2,⟨w1,e2,⟨M',hM,_⟩,hgo⟩,ho⟩
     exact⟨rfl,sc_go hM hgo ho hbl hin.fm hgl hin.gm⟩
theorem ScStep_z (f:List Nat) (hok:ScOK M.view x) (w:World) (hin:WkIn w si m g B M K f) (hs:ScIs w si m g x f):
  Calls Tryz.prog 37 #[ptrV g] w (ScPost si m g B M K x f w):=by
 cases hu:x.u with
 | walk y=>exact ScStep_walk si m g B M K x y hu f hok w hin hs
 | read y=>exact ScStep_read si m g B M K x y hu f hok w hin hs
 | still y=>exact ScStep_st si m g B M K x y hu f hok w hin hs
 | last l=>exact ScStep_last si m g B M K x l hu f hok w hin hs
end
theorem ScNew_z (si m:Nat) (c lo hi limit:Int) (w:World):Calls Tryz.prog 29 #[ptrV si,.int .i64 c,.int .u64 lo,.int .u64 hi,.int .i64 limit] w fun e w'=> ∃g f,e= .returned (ptrV g)∧w.heap.size≤g∧ScIs w' si m g (scNew c lo hi limit) f∧(∀z∈f,w.heap.size≤z)∧Below w.heap.size w w':=by
 have BL:=fun W=>sc_bld si c lo hi limit W
 obtain⟨V,hV⟩: ∃V,V=w.alloc (.cells (scC si (scNew c lo hi limit) ⟨nilS,nilS,nilS⟩ .nilIface .nilFunc) 159):=⟨_,rfl⟩
 have hB:ScBlk V w.heap.size si (scNew c lo hi limit) ⟨nilS,nilS,nilS⟩ .nilIface .nilFunc:=by rw[hV];exact Blk.new _ _ _
 have hb:Below w.heap.size w V:=by rw[hV];exact ba (Below.refl _ _) _
 have hbl:(⟨nilS,nilS,nilS⟩:SR).bl=[]:=rfl
 have hrows:ScRows V [] [] [] ⟨nilS,nilS,nilS⟩:=⟨⟨none,0,rfl,Or.inl rfl⟩,World.ownsRow_nil _ _ _ _,World.ownsRow_nil _ _ _ _,(fun b h=>(by cases h)),(fun b h=>(by cases h)),(fun b h=>(by cases h)),fun b hb=>by rw[hbl] at hb;cases hb⟩
 have WZ:=hid (SWalk_z si m w.heap.size (scNew c lo hi limit) ⟨nilS,nilS,nilS⟩ .nilIface .nilFunc V hB hrows (by rw[hbl];simp))
 have HV:=hid hV
 have HB:=hid hb
 clear hV hB hb hbl hrows
 go_enter Tryz.func29,Tryz.ntmps29
 go_upto_region 2 with fail
 rw[show _=V from HV.out.symm]
 go_wp2_with fail
 refine WZ.out.mono ?_
 intro e w2 hgo
 have he:=hgo.1
 subst he
 have HG:=hid hgo
 clear hgo WZ
 go_wp2_with fail
 go_ret
 obtain⟨_,f,h1,h2,h3⟩:=HG.out
 exact⟨_,f,rfl,Nat.le_refl _,h1,fun z hz=>(h2 z hz).elim (fun h=>by cases h) (fun h=>Nat.le_trans HB.out.size h),HB.out.trans (h3.below (fun y hy=>by simp[SR.bl,Value.ownBlock] at hy;omega) HB.out.size)⟩
end Go.Proofs.YtjmaicckkkdjpaaGreat
