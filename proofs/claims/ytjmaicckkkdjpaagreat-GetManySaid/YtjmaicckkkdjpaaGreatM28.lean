import Derived.Test.YtjmaicckkkdjpaaGreatM27
set_option maxRecDepth 100000
set_option maxHeartbeats 4000000
set_option linter.unusedVariables false
set_option linter.unusedSimpArgs false
/- A step of a get. -/
namespace Go.Proofs.YtjmaicckkkdjpaaGreat
open Go.RowKit
attribute [local go_sem ↓ high] nodeLoadAt nodeLoadVar nodeStoreAt rsLoadAt rsLoadVar rsStoreAt gtBuild rsBuild
attribute [local go_sem] ldM_run lvM_run stM_run Oper.semAt_some run_store_fnG bldMg_run
section
variable (si m g:Nat) (B:MB) (M:MemS) (K:Nat) (x:GtP)
theorem GtStep_st (y:StP) (hu:x.u= .still y) (f:List Nat) (hok:GtOK M.view x) (w:World) (hin:WkIn w si m g B M K f) (hs:GtIs w si m g x f):
  Calls Tryz.prog 48 #[ptrV g] w (GtPost si m g B M K x f w):=by
 obtain⟨⟨uv,fv,us,bs,hb,hat,rfl,hbs⟩,hne⟩:=hs
 rw[hu] at hat
 obtain⟨sg,bg,bs',rfl,rfl,hw,hcg,hcs,rfl,rfl⟩:=hat
 obtain⟨hso,hsk,hsi,hsa⟩:=hok.still y hu
 have heff:x.eff (absM M)=absM M:=by unfold GtP.eff;rw[hu]
 have hgl:=hb.lt
 have hbl: ∀z∈[bg,bs'],z<w.heap.size:=by
  intro z hz
  simp at hz
  rcases hz with rfl | rfl
  ·exact World.block_lt_of_cell? _ _ hcg
  ·exact World.block_lt_of_cell? _ _ hcs
 have hU:=StStep_z m sg B M x.leaf y hso hsk hsi hsa w hin.mem.is hw (hin.fm sg (by simp))
 obtain⟨Y,hY⟩: ∃Y,Y=y.next M.view:=⟨_,rfl⟩
 rw[←hY] at hU
 let Q:World→Prop:=fun w1=> ∃M',MSt m B K w M w1 M' (absM M) [sg]∧StIs w1 m sg x.leaf Y
 have hU2:Calls Tryz.prog 235 #[ptrV sg] w fun e w1=>e= .returned (.tuple #[.bool Y.over,.int .i64 0])∧Q w1:=hU.mono (by
  rintro e w1 ⟨rfl,hL,h1⟩
  obtain⟨M',hM⟩:=MSt.of_load (ks:=[sg]) hin.mem hin.st hL
  exact⟨rfl,M',hM,h1⟩)
 have KP: ∀w1,Q w1→GtBlk w1 g si x (.iface 272 (ptrV sg)) (clV 163 bg bs')∧w1.cell? ⟨si,0,none⟩=some (ptrV m)∧w1.cell? ⟨bg,0,none⟩=some (ptrV g)∧w1.cell? ⟨bs',0,none⟩=some (ptrV sg):=fun w1 hq=>by
  obtain⟨M',hM,_⟩:=hq
  obtain⟨r1,r2,r3,r4⟩:=gt_keep hM hbs hne hin.gm hin.fm hb hin.sc hin.sif hin.sim
  exact⟨r1,r2,r3 _ (by simp) _ hcg,r3 _ (by simp) _ hcs⟩
 have hbgn:bg≠g:=fun e=>hne (by rw[e];simp)
 cases hov:Y.over with
 | false=>
  have hnext:x.next M.view={ x with u:= .still Y }:=by
   unfold GtP.next
   rw[if_neg (by rw[hok.live];simp),hu]
   show(if(y.next M.view).over=true then _ else _)=_
   rw[←hY,if_neg (by rw[hov];simp)]
  unfold GtPost
  rw[hnext,heff]
  rw[hov] at hU2
  refine(GtStep_still si m g _ _ sg _ bg bs' x hok.live w hb hin.sc (fun W=>mStillStep _ W) (fun args W=>by kernel_rfl) Q hU2 (fun w1 hq=>by rw[←hok.live];exact(KP w1 hq).1.cell 30)).mono ?_
  rintro e w1 ⟨rfl,hq⟩
  obtain⟨k1,k2,k3,k4⟩:=KP w1 hq
  obtain⟨M',hM,hW⟩:=hq
  refine⟨by show _=Ending.returned (outV x.done x.rc);rw[hok.live];rfl,?_⟩
  exact gt_stay (us':=[sg]) hM k1 ⟨sg,bg,bs',rfl,rfl,hW,k3,k4,rfl,rfl⟩ (fun z hz=>Or.inl hz) hbs hbl hne hgl
 | true=>
  have hnext:x.next M.view=if Y.same=false then{ x with tries:=x.tries+1,u:= .walk (wkNew x.client x.key 0) } else if x.why≠0 then({ x with u:= .still Y }:GtP).answer x.why { data:= #[] } else x.lastly 0 x.v:=by
   unfold GtP.next
   rw[if_neg (by rw[hok.live];simp),hu]
   show(if(y.next M.view).over=true then _ else _)=_
   rw[←hY,if_pos hov]
  unfold GtPost
  rw[hnext,heff]
  rw[hov] at hU2
  have CZ:=fun w1 hq=>StillC_z si m g bg bs' sg x Y (.iface 272 (ptrV sg)) (clV 163 bg bs') hov hok.at' hok.tries w1 (KP w1 hq).1 (by obtain⟨M',hM,hW⟩:=hq;exact hW) (KP w1 hq).2.2.1 (KP w1 hq).2.2.2 (KP w1 hq).2.1 hin.sig hbgn
  by_cases hsm:Y.same=false
  ·simp only[if_pos hsm] at CZ ⊢
   obtain⟨X,hX⟩: ∃X:GtP,X={ x with tries:=x.tries+1,u:= .walk (wkNew x.client x.key 0) }:=⟨_,rfl⟩
   rw[←hX] at CZ ⊢
   refine(GtStep_over si m g _ _ sg _ bg bs' x hok.live w hb hin.sc (fun W=>mStillStep _ W) (fun args W=>by kernel_rfl) (fun args W=>by kernel_rfl) 0 Q hU2 (fun w1 hq=>(KP w1 hq).1.cell 4)
    (fun w2=> ∃w1 e,Q w1∧GtGo si m g X w1 (.bool false) e w2) X.done X.rc (fun w1 hq=> ?_) (fun w2 hr=> ?_)).mono ?_
   ·exact(CZ w1 hq).mono fun e w2 hgo=>⟨⟨false,hgo.1⟩,w1,e,hq,hgo⟩
   ·obtain⟨w1,e,_,hgo⟩:=hr
    exact goCells hgo
   ·rintro e w' ⟨rfl,w2,⟨w1,e2,⟨M',hM,_⟩,hgo⟩,ho⟩
    exact⟨by rw[hX],gt_go hM hgo ho hgl hin.gm⟩
  ·simp only[if_neg hsm] at CZ ⊢
   by_cases hy:x.why≠0
   ·simp only[if_pos hy] at CZ ⊢
    refine(GtStep_over si m g _ _ sg _ bg bs' x hok.live w hb hin.sc (fun W=>mStillStep _ W) (fun args W=>by kernel_rfl) (fun args W=>by kernel_rfl) 0 Q hU2 (fun w1 hq=>(KP w1 hq).1.cell 4)
     (fun w2=> ∃w1 e,Q w1∧GtAn si g (x.answer x.why { data:= #[] }) (.iface 272 (ptrV sg)) (clV 163 bg bs') w1 e w2) true x.why (fun w1 hq=> ?_) (fun w2 hr=> ?_)).mono ?_
    ·exact(CZ w1 hq).mono fun e w2 hA=>⟨⟨true,hA.1⟩,w1,e,hq,hA⟩
    ·obtain⟨w1,e,_,hA⟩:=hr
     exact⟨hA.2.1.cell 30,hA.2.1.cell 31⟩
    ·rintro e w' ⟨rfl,w2,⟨w1,e2,hq,hA⟩,ho⟩
     obtain⟨k1,k2,k3,k4⟩:=KP w1 hq
     obtain⟨M',hM,hW⟩:=hq
     exact⟨rfl,gt_ans (us':=[sg]) hM ⟨sg,bg,bs',rfl,rfl,hW,k3,k4,rfl,rfl⟩ (fun z hz=>Or.inl hz) hbs hbl hne hgl hin.gm hA (fun W h=>h) ho⟩
   ·simp only[if_neg hy] at CZ ⊢
    obtain⟨X,hX⟩: ∃X:GtP,X=x.lastly 0 x.v:=⟨_,rfl⟩
    rw[←hX] at CZ ⊢
    refine(GtStep_over si m g _ _ sg _ bg bs' x hok.live w hb hin.sc (fun W=>mStillStep _ W) (fun args W=>by kernel_rfl) (fun args W=>by kernel_rfl) 0 Q hU2 (fun w1 hq=>(KP w1 hq).1.cell 4)
     (fun w2=> ∃w1 e,Q w1∧GtGo si m g X w1 (.bool false) e w2) X.done X.rc (fun w1 hq=> ?_) (fun w2 hr=> ?_)).mono ?_
    ·exact(CZ w1 hq).mono fun e w2 hgo=>⟨⟨false,hgo.1⟩,w1,e,hq,hgo⟩
    ·obtain⟨w1,e,_,hgo⟩:=hr
     exact goCells hgo
    ·rintro e w' ⟨rfl,w2,⟨w1,e2,⟨M',hM,_⟩,hgo⟩,ho⟩
     exact⟨rfl,gt_go hM hgo ho hgl hin.gm⟩
theorem GtStep_z (f:List Nat) (hok:GtOK M.view x) (w:World) (hin:WkIn w si m g B M K f) (hs:GtIs w si m g x f):
  Calls Tryz.prog 48 #[ptrV g] w (GtPost si m g B M K x f w):=by
 cases hu:x.u with
 | walk y=>exact GtStep_walk si m g B M K x y hu f hok w hin hs
 | read y=>exact GtStep_read si m g B M K x y hu f hok w hin hs
 | still y=>exact GtStep_st si m g B M K x y hu f hok w hin hs
 | last l rc rv=>exact GtStep_last si m g B M K x l rc rv hu f hok w hin hs
end
theorem GtNew_z (si m:Nat) (c q:Int) (w:World):Calls Tryz.prog 11 #[ptrV si,.int .i64 c,.int .u64 q] w fun e w'=> ∃g f,e= .returned (ptrV g)∧w.heap.size≤g∧GtIs w' si m g (gtNew c q) f∧(∀z∈f,w.heap.size≤z)∧Below w.heap.size w w':=by
 have BL:=fun W=>gt_bld si c q W
 obtain⟨V,hV⟩: ∃V,V=w.alloc (.cells (getC si (gtNew c q) .nilIface .nilFunc) 118):=⟨_,rfl⟩
 have hB:GtBlk V w.heap.size si (gtNew c q) .nilIface .nilFunc:=by rw[hV];exact Blk.new _ _ _
 have hb:Below w.heap.size w V:=by rw[hV];exact ba (Below.refl _ _) _
 have WZ:=hid (WalkG_z si m w.heap.size (gtNew c q) .nilIface .nilFunc V hB)
 have HV:=hid hV
 have HB:=hid hb
 clear hV hB hb
 go_enter Tryz.func11,Tryz.ntmps11
 go_upto_region 2 with fail
 rw[show _=V from HV.out.symm]
 go_wp2_with fail
 refine WZ.out.mono ?_
 intro e w2 hgo
 have he:=hgo.1
 subst he
 have HG:=hid hgo
 clear hgo WZ
 go_wp2_with fail
 go_ret
 obtain⟨_,f,h1,h2,h3⟩:=HG.out
 exact⟨_,f,rfl,Nat.le_refl _,h1,fun z hz=>Nat.le_trans HB.out.size (h2 z hz),HB.out.trans (h3.below (fun y hy=>by simp at hy;omega) HB.out.size)⟩
end Go.Proofs.YtjmaicckkkdjpaaGreat
/- What a law asks of a get and a memory. -/
namespace Go.Proofs.YtjmaicckkkdjpaaGreat
open Go.RowKit
theorem saLoadAt (v:Value):Instr.loadAt 122 v=ldM 122 v:=rfl
theorem saStoreAt (p v:Value):Instr.storeAt 122 p v=stM 122 p v:=rfl
attribute [local go_sem ↓ high] nodeLoadAt nodeLoadVar nodeStoreAt rsLoadAt rsLoadVar rsStoreAt gtBuild rsBuild saLoadAt saStoreAt
attribute [local go_sem] ldM_run lvM_run stM_run Oper.semAt_some run_store_fnG bldMg_run
theorem respC_turn (c0 c:Int) (s0 s:ByteArray):setL (respC c0 s0) 0 (respC c s).toList=respC c s:=by kernel_rfl
theorem resp_stA {w:World} {b:Nat} {c0:Int} {s0:ByteArray} (h:Blk w b 41 (respC c0 s0)) (c:Int) (s:ByteArray): ∃W',stR Tryz.prog 41 (.pointer (some ⟨b,0,none⟩)) (.agg (respC c s)) w= .ok () W'∧Blk W' b 41 (respC c s)∧Only [b] w W':=
 ⟨_,Blk.stAt h 0 (by show 0+3≤3;omega) (by kernel_rfl) (by kernel_rfl),by have:=Blk.setCells (respC c s).toList 0 h;rw[respC_turn] at this;exact this,Only.setCellsM b _ 0 w⟩
theorem resp_new (w:World):Blk (w.alloc (.cells #[.int .i64 0,.string { data:= #[] },.slice none 0 0] 41)) w.heap.size 41 (respC 0 { data:= #[] }):=Blk.new w 41 (respC 0 { data:= #[] })
theorem GtResp_z (si m g:Nat) (x:GtP) (f:List Nat) (w:World) (hs:GtIs w si m g x f):Calls Tryz.prog 13 #[ptrV g] w fun e w'=>e= .returned (.agg (respC x.rc x.rv))∧Below w.heap.size w w':=by
 obtain⟨⟨uv,fv,us,bs,hb,_⟩,_⟩:=hs
 obtain⟨W1,hW1⟩: ∃W1,W1=w.alloc (.cells #[.int .i64 0,.string { data:= #[] },.slice none 0 0] 41):=⟨_,rfl⟩
 have k1:Blk W1 w.heap.size 41 (respC 0 { data:= #[] }):=by rw[hW1];exact resp_new w
 have hb1:Below w.heap.size w W1:=by rw[hW1];exact ba (Below.refl _ _) _
 have hld:=GtBlk.ldr (hb.bel hb1)
 obtain⟨W2,hst,k2,o2⟩:=resp_stA k1 x.rc x.rv
 have hlv:=resp_lv k2
 have HB:=hid (hb1.trans (o2.below (fun y hy=>by simp at hy;omega) hb1.size))
 have HW:=hid hW1
 clear hW1 k1 hb1 hb k2 o2
 go_enter Tryz.func13,Tryz.ntmps13
 go_upto_region 1 with fail
 rw[show _=W1 from HW.out.symm]
 go_wp2_with fail
 refine bodyPost_ret (v:= .agg (respC x.rc x.rv)) (results_cellv rfl _ _ _ _ rfl hlv) rfl ?_
 exact⟨rfl,HB.out⟩
theorem GtTries_z (si m g:Nat) (x:GtP) (f:List Nat) (w:World) (hs:GtIs w si m g x f):Calls Tryz.prog 18 #[ptrV g] w fun e w'=>e= .returned (.int .i64 (x.tries:Int))∧w'=w:=by
 obtain⟨⟨uv,fv,us,bs,hb,_⟩,_⟩:=hs
 have c5:w.cell? ⟨g,5,none⟩=some (.int .i64 (x.tries:Int)):=hb.cell 5
 clear hb
 go_enter Tryz.func18,Tryz.ntmps18
 go_wp2
 go_ret
 exact⟨rfl,rfl⟩
def statC (s:St4):Array Value:= #[.int .u64 s.a,.int .u64 s.b,.int .u64 s.c,.int .u64 s.d]
theorem statC_turn (s0 s:St4):setL (statC s0) 0 (statC s).toList=statC s:=by kernel_rfl
theorem stat_stA {w:World} {b:Nat} {s0:St4} (h:Blk w b 122 (statC s0)) (s:St4): ∃W',stR Tryz.prog 122 (.pointer (some ⟨b,0,none⟩)) (.agg (statC s)) w= .ok () W'∧Blk W' b 122 (statC s)∧Only [b] w W':=
 ⟨_,Blk.stAt h 0 (by show 0+4≤4;omega) (by kernel_rfl) (by kernel_rfl),by have:=Blk.setCells (statC s).toList 0 h;rw[statC_turn] at this;exact this,Only.setCellsM b _ 0 w⟩
def didV (s:St4):Int:=IntKind.u64.wrap (IntKind.u64.wrap (IntKind.u64.wrap (s.a+s.b)+s.c)+s.d)
theorem Did_z (m:Nat) (B:MB) (M:MemS) (w:World) (h:MemIs w m B M):Calls Tryz.prog 47 #[ptrV m] w fun e w'=>e= .returned (.tuple #[.int .u64 (didV M.st),.int .u64 M.st.b])∧Below w.heap.size w w':=by
 have SZ:=hid (Stats_m m B M.view.length M.st h.pos w h.blk)
 obtain⟨s,hs⟩: ∃s,s=M.st:=⟨_,rfl⟩
 rw[←hs] at SZ ⊢
 obtain⟨a,b,c,d⟩:=s
 unfold didV
 have HN:Hid (∀w1,Below w.heap.size w w1→ ∃W2,stR Tryz.prog 122 (.pointer (some ⟨w1.heap.size,0,none⟩)) (.agg #[.int .u64 a,.int .u64 b,.int .u64 c,.int .u64 d]) (w1.alloc (.cells #[.int .u64 0,.int .u64 0,.int .u64 0,.int .u64 0] 122))= .ok () W2∧Blk W2 w1.heap.size 122 (statC ⟨a,b,c,d⟩)∧Below w.heap.size w W2):=hid fun w1 hb=>by
  obtain⟨W2,h1,h2,o2⟩:=stat_stA (Blk.new w1 122 (statC ⟨0,0,0,0⟩)) ⟨a,b,c,d⟩
  exact⟨W2,h1,h2,(ba hb _).trans (o2.below (fun y hy=>by simp at hy;have:=hb.size;omega) (ba hb _).size)⟩
 clear h hs
 go_enter Tryz.func47,Tryz.ntmps47
 go_wp2_with fail
 refine SZ.out.mono ?_
 rintro e w1 ⟨rfl,hb1⟩
 obtain⟨W2,hst,k2,hb2⟩:=HN.out w1 hb1
 have c0:W2.cell? ⟨w1.heap.size,0,none⟩=some (.int .u64 a):=k2.cell 0
 have c1:W2.cell? ⟨w1.heap.size,1,none⟩=some (.int .u64 b):=k2.cell 1
 have c2:W2.cell? ⟨w1.heap.size,2,none⟩=some (.int .u64 c):=k2.cell 2
 have c3:W2.cell? ⟨w1.heap.size,3,none⟩=some (.int .u64 d):=k2.cell 3
 have HB:=hid hb2
 clear hb1 k2 hb2 HN SZ
 go_upto_region 2 with fail
 go_quiet (fail)
 go_wp2_with fail
 go_ret2
 exact⟨rfl,HB.out.trans ((Only.refl [] W2).drewN nq |>.below (by simp) HB.out.size)⟩
end Go.Proofs.YtjmaicckkkdjpaaGreat
/- Two responses without pairs compared. -/
namespace Go.Proofs.YtjmaicckkkdjpaaGreat
open Go.RowKit
theorem SPairs_nil (w:World):Calls Tryz.prog 33 #[.slice none 0 0,.slice none 0 0] w fun e w'=>e= .returned (.bool true)∧w'=w:=by
 go_enter Tryz.func33,Tryz.ntmps33
 go_wp2
 go_loopw [5] (fun i wr=>i= .int .i64 0∧wr=w) (fun _ _=>0)
 case atStart=>exact⟨rfl,rfl⟩
 case round=>
  obtain⟨rfl,rfl⟩:=hrel
  go_wp2
  go_ret
  exact⟨rfl,rfl⟩
def strE (s t:ByteArray):Bool:=s.toList==t.toList
theorem strE_refl (s:ByteArray):strE s s=true:=by simp[strE]
theorem SameR_z (c1 c2:Int) (s1 s2:ByteArray) (w:World):
  Calls Tryz.prog 12 #[.agg (respC c1 s1),.agg (respC c2 s2)] w fun e w'=>e= .returned (.bool (c1==c2&&strE s1 s2))∧Below w.heap.size w w':=by
 unfold respC
 cases e1:(c1==c2) with
 | false=>
  go_enter Tryz.func12,Tryz.ntmps12
  go_wp2
  go_ret
  exact⟨rfl,by(repeat(first | exact Below.refl _ _ | (refine ba ?_ _) | (refine Below.drew ?_) | (refine below_drewN ?_ _) | (refine Below.alloc ?_ (by first | omega | (simp;done) | (simp;omega)) _) | (refine Below.setCell ?_ (by first | omega | (simp;done) | (simp;omega)) _) | (refine bx ?_ (by assumption)) | (refine Below.trans ?_ (Below.mono (by assumption) (by first | omega | (simp;done) | (simp;omega))))))⟩
 | true=>
  have e1':c1=c2:=by simpa using e1
  subst e1'
  clear e1
  cases e2:strE s1 s2 with
  | false=>
   have e3: ¬s1.toList=s2.toList:=by simpa[strE] using e2
   have e4:(s1.toList==s2.toList)=false:=e2
   clear e2
   go_enter Tryz.func12,Tryz.ntmps12
   go_wp2
   go_ret
   exact⟨rfl,by(repeat(first | exact Below.refl _ _ | (refine ba ?_ _) | (refine Below.drew ?_) | (refine below_drewN ?_ _) | (refine Below.alloc ?_ (by first | omega | (simp;done) | (simp;omega)) _) | (refine Below.setCell ?_ (by first | omega | (simp;done) | (simp;omega)) _) | (refine bx ?_ (by assumption)) | (refine Below.trans ?_ (Below.mono (by assumption) (by first | omega | (simp;done) | (simp;omega))))))⟩
  | true=>
   have e3:s1.toList=s2.toList:=by simpa[strE] using e2
   have e4:(s1.toList==s2.toList)=true:=e2
   clear e2
   have hB:=hid (ba (ba (Below.refl w.heap.size w) (.cells #[.int .i64 c1,.string s1,.slice none 0 0] 41)) (.cells #[.int .i64 c1,.string s2,.slice none 0 0] 41))
   go_enter Tryz.func12,Tryz.ntmps12
   go_wp2_with fail
   refine(SPairs_nil _).mono ?_
   rintro e v1 ⟨rfl,rfl⟩
   go_wp2
   go_ret
   exact⟨rfl,hB.out⟩
end Go.Proofs.YtjmaicckkkdjpaaGreat
/- The law's step of a get. -/
namespace Go.Proofs.YtjmaicckkkdjpaaGreat
open Go.RowKit
theorem didV_step {s s':St4} (i j k:Nat) (h:i+j+k≤1) (ha:s'.a=(s.a+i)% 18446744073709551616) (hb:s'.b=s.b) (hc:s'.c=(s.c+j)% 18446744073709551616) (hd:s'.d=(s.d+k)% 18446744073709551616):IntKind.u64.wrap (didV s'-didV s)≤1:=by
 unfold didV
 simp only[IntKind.wrap_u64]
 rw[ha,hb,hc,hd]
 omega
theorem MSt.ahead {m:Nat} {B:MB} {K:Nat} {w w1 w2:World} {M M':MemS} {ta:MA} {ks:List Nat} (h:MSt m B K w1 M w2 M' ta ks) (hb:Below w.heap.size w w1):MSt m B K w M w2 M' ta ks:=
 ⟨h.mems,fun k hk=>(h.foot k hk).imp id (fun h=>Nat.le_trans hb.size h),h.abs,h.st,(Only.of_below hb _).trans h.only (fun x hx=>Or.inl hx)⟩
theorem WkIn.bel {w w':World} {si m g:Nat} {B:MB} {M:MemS} {K:Nat} {f:List Nat} (h:WkIn w si m g B M K f) (hb:Below w.heap.size w w'):WkIn w' si m g B M K f:=
 ⟨h.mem.only (Only.of_below hb []) (by simp),h.st,h.few,cell_bel hb h.sc,Nat.lt_of_lt_of_le h.sil hb.size,h.sig,h.sif,h.sim,h.gm,h.fm⟩
theorem GtIs.bel {w w':World} {si m g:Nat} {x:GtP} {f:List Nat} (h:GtIs w si m g x f) (hb:Below w.heap.size w w'):GtIs w' si m g x f:=h.only (Only.of_below hb []) (by simp) (by simp)
def GtDid (si m g:Nat) (B:MB) (M:MemS) (K:Nat) (x:GtP) (f:List Nat) (w:World) (e:Ending) (w':World):Prop:=
 e= .returned (.tuple #[.bool (x.next M.view).done,.bool true])∧ ∃M' f',MSt m B K w M w' M' (x.eff (absM M)) (g::f)∧GtIs w' si m g (x.next M.view) f'∧ ∀y∈f',y∈f∨(w.heap.size≤y∧y∉footM m B M')
theorem LStep_z (si m g:Nat) (B:MB) (M:MemS) (K:Nat) (x:GtP) (f:List Nat) (hok:GtOK M.view x) (hrc:(x.next M.view).done=true→(x.next M.view).rc=0∨(x.next M.view).rc=5) (w:World) (hin:WkIn w si m g B M K f) (hs:GtIs w si m g x f):
  Calls Tryz.prog 20 #[ptrV m,ptrV g] w (GtDid si m g B M K x f w):=by
 have D1:=hid (Did_z m B M w hin.mem.is)
 have SZ:Hid (∀w1,Below w.heap.size w w1→Calls Tryz.prog 48 #[ptrV g] w1 (GtPost si m g B M K x f w1)):=hid fun w1 hb=>GtStep_z si m g B M K x f hok w1 (hin.bel hb) (hs.bel hb)
 unfold GtDid
 obtain⟨X,hX⟩: ∃X,X=x.next M.view:=⟨_,rfl⟩
 rw[←hX] at hrc ⊢
 have hout:outV X.done X.rc= .tuple #[.bool X.done,.int .i64 0]:=by
  unfold outV
  cases hd:X.done with
  | false=>rfl
  | true=>
   rcases hrc hd with h | h
   ·rw[h];rfl
   ·rw[h];rfl
 have HX:=hid (⟨hX,hout⟩:_∧_)
 clear hok hin hs hX hout hrc
 go_enter Tryz.func20,Tryz.ntmps20
 go_wp2_with fail
 refine D1.out.mono ?_
 rintro e w1 ⟨rfl,hb1⟩
 have S1:=hid (SZ.out w1 hb1)
 have HB1:=hid hb1
 clear hb1 SZ D1
 go_wp2_with fail
 refine S1.out.mono ?_
 intro e w2 hp
 unfold GtPost at hp
 rw[←HX.out.1,HX.out.2] at hp
 obtain⟨rfl,M',f',hM,hI,hf⟩:=hp
 have D2:=hid (Did_z m B M' w2 hM.mems.is)
 have b9:(M.st.b==M'.st.b)=true:=by
  obtain⟨i,j,k,_,_,h2,_,_⟩:=hM.st
  rw[h2];simp
 have b8:decide (IntKind.u64.wrap (didV M'.st-didV M.st)≤1)=true:=decide_eq_true (by
  obtain⟨i,j,k,h0,h1,h2,h3,h4⟩:=hM.st
  exact didV_step i j k h0 h1 h2 h3 h4)
 have H2:=hid (⟨hM,hI,hf⟩:_∧_∧_)
 clear hM hI hf S1
 go_wp2_with fail
 refine D2.out.mono ?_
 rintro e w3 ⟨rfl,hb3⟩
 have HB3:=hid hb3
 clear hb3 D2
 go_wp2_with fail
 go_ret2
 refine⟨rfl,M',f',((H2.out.1.ahead HB1.out).turn (js:=[]) (Only.of_below HB3.out []) (fun x hx=>by cases hx)),H2.out.2.1.bel HB3.out,fun y hy=>(H2.out.2.2 y hy).imp id (fun h=>⟨Nat.le_trans HB1.out.size h.1,h.2⟩)⟩
end Go.Proofs.YtjmaicckkkdjpaaGreat
