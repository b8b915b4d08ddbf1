import Derived.Test.YtjmaicckkkdjpaaGreatF27
set_option maxRecDepth 100000
set_option maxHeartbeats 4000000
set_option linter.unusedVariables false
set_option linter.unusedSimpArgs false
/- A step of a get. -/
namespace Go.Proofs.YtjmaicckkkdjpaaGreat
open Go.RowKit
attribute [local go_sem ↓ high] nodeLoadAt nodeLoadVar nodeStoreAt rsLoadAt rsLoadVar rsStoreAt gtBuild rsBuild
attribute [local go_sem] ldM_run lvM_run stM_run Oper.semAt_some run_store_fnG bldMg_run
section
variable (si m g:Nat) (B:MB) (M:MemS) (K:Nat) (x:GtP)
theorem GtStep_st (y:StP) (hu:x.u= .still y) (f:List Nat) (hok:GtOK M.view x) (w:World) (hin:WkIn w si m g B M K f) (hs:GtIs w si m g x f):
  Calls Tryz.prog 48 #[ptrV g] w (GtPost si m g B M K x f w):=by
 obtain⟨⟨uv,fv,us,bs,hb,hat,rfl,hbs⟩,hne⟩:=hs
 rw[hu] at hat
 obtain⟨sg,bg,bs',rfl,rfl,hw,hcg,hcs,rfl,rfl⟩:=hat
 obtain⟨hso,hsk,hsi,hsa⟩:=hok.still y hu
 have heff:x.eff (absM M)=absM M:=by unfold GtP.eff;rw[hu]
 have hgl:=hb.lt
 have hbl: ∀z∈[bg,bs'],z<w.heap.size:=by
  intro z hz
  simp at hz
  rcases hz with rfl | rfl
  ·exact World.block_lt_of_cell? _ _ hcg
  ·exact World.block_lt_of_cell? _ _ hcs
 have hU:=StStep_z m sg B M x.leaf y hso hsk hsi hsa w hin.mem.is hw (hin.fm sg (by simp))
 obtain⟨Y,hY⟩: ∃Y,Y=y.next M.view:=⟨_,rfl⟩
 rw[←hY] at hU
 let Q:World→Prop:=fun w1=> ∃M',MSt m B K w M w1 M' (absM M) [sg]∧StIs w1 m sg x.leaf Y
 have hU2:Calls Tryz.prog 235 #[ptrV sg] w fun e w1=>e= .returned (.tuple #[.bool Y.over,.int .i64 0])∧Q w1:=hU.mono (by
  rintro e w1 ⟨rfl,hL,h1⟩
  obtain⟨M',hM⟩:=MSt.of_load (ks:=[sg]) hin.mem hin.st hL
  exact⟨rfl,M',hM,h1⟩)
 have KP: ∀w1,Q w1→GtBlk w1 g si x (.iface 272 (ptrV sg)) (clV 163 bg bs')∧w1.cell? ⟨si,0,none⟩=some (ptrV m)∧w1.cell? ⟨bg,0,none⟩=some (ptrV g)∧w1.cell? ⟨bs',0,none⟩=some (ptrV sg):=fun w1 hq=>by
  obtain⟨M',hM,_⟩:=hq
  obtain⟨r1,r2,r3,r4⟩:=gt_keep hM hbs hne hin.gm hin.fm hb hin.sc hin.sif hin.sim
  exact⟨r1,r2,r3 _ (by simp) _ hcg,r3 _ (by simp) _ hcs⟩
 have hbgn:bg≠g:=fun e=>hne (by rw[e];simp)
 cases hov:Y.over with
 | false=>
  have hnext:x.next M.view={ x with u:= .still Y }:=by
   unfold GtP.next
   rw[if_neg (by rw[hok.live];simp),hu]
   show(if(y.next M.view).over=true then _ else _)=_
   rw[←hY,if_neg (by rw[hov];simp)]
  unfold GtPost
  rw[hnext,heff]
  rw[hov] at hU2
  refine(GtStep_still si m g _ _ sg _ bg bs' x hok.live w hb hin.sc (fun W=>mStillStep _ W) (fun args W=>by kernel_rfl) Q hU2 (fun w1 hq=>by rw[←hok.live];exact(KP w1 hq).1.cell 30)).mono ?_
  rintro e w1 ⟨rfl,hq⟩
  obtain⟨k1,k2,k3,k4⟩:=KP w1 hq
  obtain⟨M',hM,hW⟩:=hq
  refine⟨by show _=Ending.returned (outV x.done x.rc);rw[hok.live];rfl,?_⟩
  exact gt_stay (us':=[sg]) hM k1 ⟨sg,bg,bs',rfl,rfl,hW,k3,k4,rfl,rfl⟩ (fun z hz=>Or.inl hz) hbs hbl hne hgl
 | true=>
  have hnext:x.next M.view=if Y.same=false then{ x with tries:=x.tries+1,u:= .walk (wkNew x.client x.key 0) } else if x.why≠0 then({ x with u:= .still Y }:GtP).answer x.why { data:= #[] } else x.lastly 0 x.v:=by
   unfold GtP.next
   rw[if_neg (by rw[hok.live];simp),hu]
   show(if(y.next M.view).over=true then _ else _)=_
   rw[←hY,if_pos hov]
  unfold GtPost
  rw[hnext,heff]
  rw[hov] at hU2
  have CZ:=fun w1 hq=>StillC_z si m g bg bs' sg x Y (.iface 272 (ptrV sg)) (clV 163 bg bs') hov hok.at' hok.tries w1 (KP w1 hq).1 (by obtain⟨M',hM,hW⟩:=hq;exact hW) (KP w1 hq).2.2.1 (KP w1 hq).2.2.2 (KP w1 hq).2.1 hin.sig hbgn
  by_cases hsm:Y.same=false
  ·simp only[if_pos hsm] at CZ ⊢
   obtain⟨X,hX⟩: ∃X:GtP,X={ x with tries:=x.tries+1,u:= .walk (wkNew x.client x.key 0) }:=⟨_,rfl⟩
   rw[←hX] at CZ ⊢
   refine(GtStep_over si m g _ _ sg _ bg bs' x hok.live w hb hin.sc (fun W=>mStillStep _ W) (fun args W=>by kernel_rfl) (fun args W=>by kernel_rfl) 0 Q hU2 (fun w1 hq=>(KP w1 hq).1.cell 4)
    (fun w2=> ∃w1 e,Q w1∧GtGo si m g X w1 (.bool false) e w2) X.done X.rc (fun w1 hq=> ?_) (fun w2 hr=> ?_)).mono ?_
   ·exact(CZ w1 hq).mono fun e w2 hgo=>⟨⟨false,hgo.1⟩,w1,e,hq,hgo⟩
   ·obtain⟨w1,e,_,hgo⟩:=hr
    exact goCells hgo
   ·rintro e w' ⟨rfl,w2,⟨w1,e2,⟨M',hM,_⟩,hgo⟩,ho⟩
    exact⟨by rw[hX],gt_go hM hgo ho hgl hin.gm⟩
  ·simp only[if_neg hsm] at CZ ⊢
   by_cases hy:x.why≠0
   ·simp only[if_pos hy] at CZ ⊢
    refine(GtStep_over si m g _ _ sg _ bg bs' x hok.live w hb hin.sc (fun W=>mStillStep _ W) (fun args W=>by kernel_rfl) (fun args W=>by kernel_rfl) 0 Q hU2 (fun w1 hq=>(KP w1 hq).1.cell 4)
     (fun w2=> ∃w1 e,Q w1∧GtAn si g (x.answer x.why { data:= #[] }) (.iface 272 (ptrV sg)) (clV 163 bg bs') w1 e w2) true x.why (fun w1 hq=> ?_) (fun w2 hr=> ?_)).mono ?_
    ·exact(CZ w1 hq).mono fun e w2 hA=>⟨⟨true,hA.1⟩,w1,e,hq,hA⟩
    ·obtain⟨w1,e,_,hA⟩:=hr
     exact⟨hA.2.1.cell 30,hA.2.1.cell 31⟩
    ·rintro e w' ⟨rfl,w2,⟨w1,e2,hq,hA⟩,ho⟩
     obtain⟨k1,k2,k3,k4⟩:=KP w1 hq
     obtain⟨M',hM,hW⟩:=hq
     exact⟨rfl,gt_ans (us':=[sg]) hM ⟨sg,bg,bs',rfl,rfl,hW,k3,k4,rfl,rfl⟩ (fun z hz=>Or.inl hz) hbs hbl hne hgl hin.gm hA (fun W h=>h) ho⟩
   ·simp only[if_neg hy] at CZ ⊢
    obtain⟨X,hX⟩: ∃X:GtP,X=x.lastly 0 x.v:=⟨_,rfl⟩
    rw[←hX] at CZ ⊢
    refine(GtStep_over si m g _ _ sg _ bg bs' x hok.live w hb hin.sc (fun W=>mStillStep _ W) (fun args W=>by kernel_rfl) (fun args W=>by kernel_rfl) 0 Q hU2 (fun w1 hq=>(KP w1 hq).1.cell 4)
     (fun w2=> ∃w1 e,Q w1∧GtGo si m g X w1 (.bool false) e w2) X.done X.rc (fun w1 hq=> ?_) (fun w2 hr=> ?_)).mono ?_
    ·exact(CZ w1 hq).mono fun e w2 hgo=>⟨⟨false,hgo.1⟩,w1,e,hq,hgo⟩
    ·obtain⟨w1,e,_,hgo⟩:=hr
     exact goCells hgo
    ·rintro e w' ⟨rfl,w2,⟨w1,e2,⟨M',hM,_⟩,hgo⟩,ho⟩
     exact⟨rfl,gt_go hM hgo ho hgl hin.gm⟩
theorem GtStep_z (f:List Nat) (hok:GtOK M.view x) (w:World) (hin:WkIn w si m g B M K f) (hs:GtIs w si m g x f):
  Calls Tryz.prog 48 #[ptrV g] w (GtPost si m g B M K x f w):=by
 cases hu:x.u with
 | walk y=>exact GtStep_walk si m g B M K x y hu f hok w hin hs
 | read y=>exact GtStep_read si m g B M K x y hu f hok w hin hs
 | still y=>exact GtStep_st si m g B M K x y hu f hok w hin hs
 | last l rc rv=>exact GtStep_last si m g B M K x l rc rv hu f hok w hin hs
end
theorem GtNew_z (si m:Nat) (c q:Int) (w:World):Calls Tryz.prog 11 #[ptrV si,.int .i64 c,.int .u64 q] w fun e w'=> ∃g f,e= .returned (ptrV g)∧w.heap.size≤g∧GtIs w' si m g (gtNew c q) f∧(∀z∈f,w.heap.size≤z)∧Below w.heap.size w w':=by
 have BL:=fun W=>gt_bld si c q W
 obtain⟨V,hV⟩: ∃V,V=w.alloc (.cells (getC si (gtNew c q) .nilIface .nilFunc) 118):=⟨_,rfl⟩
 have hB:GtBlk V w.heap.size si (gtNew c q) .nilIface .nilFunc:=by rw[hV];exact Blk.new _ _ _
 have hb:Below w.heap.size w V:=by rw[hV];exact ba (Below.refl _ _) _
 have WZ:=hid (WalkG_z si m w.heap.size (gtNew c q) .nilIface .nilFunc V hB)
 have HV:=hid hV
 have HB:=hid hb
 clear hV hB hb
 go_enter Tryz.func11,Tryz.ntmps11
 go_upto_region 2 with fail
 rw[show _=V from HV.out.symm]
 go_wp2_with fail
 refine WZ.out.mono ?_
 intro e w2 hgo
 have he:=hgo.1
 subst he
 have HG:=hid hgo
 clear hgo WZ
 go_wp2_with fail
 go_ret
 obtain⟨_,f,h1,h2,h3⟩:=HG.out
 exact⟨_,f,rfl,Nat.le_refl _,h1,fun z hz=>Nat.le_trans HB.out.size (h2 z hz),HB.out.trans (h3.below (fun y hy=>by simp at hy;omega) HB.out.size)⟩
end Go.Proofs.YtjmaicckkkdjpaaGreat
/- What a law asks of a get and a memory. -/
namespace Go.Proofs.YtjmaicckkkdjpaaGreat
open Go.RowKit
theorem saLoadAt (v:Value):Instr.loadAt 122 v=ldM 122 v:=rfl
theorem saStoreAt (p v:Value):Instr.storeAt 122 p v=stM 122 p v:=rfl
attribute [local go_sem ↓ high] nodeLoadAt nodeLoadVar nodeStoreAt rsLoadAt rsLoadVar rsStoreAt gtBuild rsBuild saLoadAt saStoreAt
attribute [local go_sem] ldM_run lvM_run stM_run Oper.semAt_some run_store_fnG bldMg_run
theorem respC_turn (c0 c:Int) (s0 s:ByteArray):setL (respC c0 s0) 0 (respC c s).toList=respC c s:=by kernel_rfl
theorem resp_stA {w:World} {b:Nat} {c0:Int} {s0:ByteArray} (h:Blk w b 41 (respC c0 s0)) (c:Int) (s:ByteArray): ∃W',stR Tryz.prog 41 (.pointer (some ⟨b,0,none⟩)) (.agg (respC c s)) w= .ok () W'∧Blk W' b 41 (respC c s)∧Only [b] w W':=
 ⟨_,Blk.stAt h 0 (by show 0+3≤3;omega) (by kernel_rfl) (by kernel_rfl),by have:=Blk.setCells (respC c s).toList 0 h;rw[respC_turn] at this;exact this,Only.setCellsM b _ 0 w⟩
theorem resp_new (w:World):Blk (w.alloc (.cells #[.int .i64 0,.string { data:= #[] },.slice none 0 0] 41)) w.heap.size 41 (respC 0 { data:= #[] }):=Blk.new w 41 (respC 0 { data:= #[] })
theorem GtResp_z (si m g:Nat) (x:GtP) (f:List Nat) (w:World) (hs:GtIs w si m g x f):Calls Tryz.prog 13 #[ptrV g] w fun e w'=>e= .returned (.agg (respC x.rc x.rv))∧Below w.heap.size w w':=by
 obtain⟨⟨uv,fv,us,bs,hb,_⟩,_⟩:=hs
 obtain⟨W1,hW1⟩: ∃W1,W1=w.alloc (.cells #[.int .i64 0,.string { data:= #[] },.slice none 0 0] 41):=⟨_,rfl⟩
 have k1:Blk W1 w.heap.size 41 (respC 0 { data:= #[] }):=by rw[hW1];exact resp_new w
 have hb1:Below w.heap.size w W1:=by rw[hW1];exact ba (Below.refl _ _) _
 have hld:=GtBlk.ldr (hb.bel hb1)
 obtain⟨W2,hst,k2,o2⟩:=resp_stA k1 x.rc x.rv
 have hlv:=resp_lv k2
 have HB:=hid (hb1.trans (o2.below (fun y hy=>by simp at hy;omega) hb1.size))
 have HW:=hid hW1
 clear hW1 k1 hb1 hb k2 o2
 go_enter Tryz.func13,Tryz.ntmps13
 go_upto_region 1 with fail
 rw[show _=W1 from HW.out.symm]
 go_wp2_with fail
 refine bodyPost_ret (v:= .agg (respC x.rc x.rv)) (results_cellv rfl _ _ _ _ rfl hlv) rfl ?_
 exact⟨rfl,HB.out⟩
theorem GtTries_z (si m g:Nat) (x:GtP) (f:List Nat) (w:World) (hs:GtIs w si m g x f):Calls Tryz.prog 18 #[ptrV g] w fun e w'=>e= .returned (.int .i64 (x.tries:Int))∧w'=w:=by
 obtain⟨⟨uv,fv,us,bs,hb,_⟩,_⟩:=hs
 have c5:w.cell? ⟨g,5,none⟩=some (.int .i64 (x.tries:Int)):=hb.cell 5
 clear hb
 go_enter Tryz.func18,Tryz.ntmps18
 go_wp2
 go_ret
 exact⟨rfl,rfl⟩
theorem View_z (m:Nat) (B:MB) (M:MemS) (w:World) (h:MemIs w m B M) (hr: ∀x∈M.view,0≤x∧x<18446744073709551616):
  Calls Tryz.prog 19 #[.pointer (some ⟨m,0,none⟩)] w fun e w'=> ∃p c,e= .returned (.slice p (bytesW M.view).length c)∧BytesIn w' p c (bytesW M.view)∧c≤maxLen∧Below w.heap.size w w':=by
 have HT:=hid (there_z m B M.view.length M.st h.pos w h.blk)
 have HB:=hid (fun cap=>bytes_z B.vb cap M.view w h.view h.pos h.big hr)
 have y0:w.cell? ⟨m,0,none⟩=some (.slice (some ⟨B.vb,0,none⟩) M.view.length B.vc):=h.blk.cell 0
 obtain⟨n,hn⟩: ∃n,n=M.view.length:=⟨_,rfl⟩
 rw[←hn] at y0 HB
 clear h hr hn
 go_enter Tryz.func19,Tryz.ntmps19
 go_wp2_with fail
 refine HT.out.mono ?_
 rintro e w1 ⟨rfl,rfl⟩
 go_wp2_with fail
 refine(HB.out _).mono ?_
 rintro e w2 ⟨p,c,rfl,h1,h2,h3⟩
 have HF:=hid (⟨h1,h2,h3⟩:_∧_∧_)
 clear h1 h2 h3
 go_wp2
 go_ret
 exact⟨p,c,rfl,HF.out.1,HF.out.2.1,HF.out.2.2⟩
def statC (s:St4):Array Value:= #[.int .u64 s.a,.int .u64 s.b,.int .u64 s.c,.int .u64 s.d]
theorem statC_turn (s0 s:St4):setL (statC s0) 0 (statC s).toList=statC s:=by kernel_rfl
theorem stat_stA {w:World} {b:Nat} {s0:St4} (h:Blk w b 122 (statC s0)) (s:St4): ∃W',stR Tryz.prog 122 (.pointer (some ⟨b,0,none⟩)) (.agg (statC s)) w= .ok () W'∧Blk W' b 122 (statC s)∧Only [b] w W':=
 ⟨_,Blk.stAt h 0 (by show 0+4≤4;omega) (by kernel_rfl) (by kernel_rfl),by have:=Blk.setCells (statC s).toList 0 h;rw[statC_turn] at this;exact this,Only.setCellsM b _ 0 w⟩
def didV (s:St4):Int:=IntKind.u64.wrap (IntKind.u64.wrap (IntKind.u64.wrap (s.a+s.b)+s.c)+s.d)
theorem Did_z (m:Nat) (B:MB) (M:MemS) (w:World) (h:MemIs w m B M):Calls Tryz.prog 47 #[ptrV m] w fun e w'=>e= .returned (.tuple #[.int .u64 (didV M.st),.int .u64 M.st.b])∧Below w.heap.size w w':=by
 have SZ:=hid (Stats_m m B M.view.length M.st h.pos w h.blk)
 obtain⟨s,hs⟩: ∃s,s=M.st:=⟨_,rfl⟩
 rw[←hs] at SZ ⊢
 obtain⟨a,b,c,d⟩:=s
 unfold didV
 have HN:Hid (∀w1,Below w.heap.size w w1→ ∃W2,stR Tryz.prog 122 (.pointer (some ⟨w1.heap.size,0,none⟩)) (.agg #[.int .u64 a,.int .u64 b,.int .u64 c,.int .u64 d]) (w1.alloc (.cells #[.int .u64 0,.int .u64 0,.int .u64 0,.int .u64 0] 122))= .ok () W2∧Blk W2 w1.heap.size 122 (statC ⟨a,b,c,d⟩)∧Below w.heap.size w W2):=hid fun w1 hb=>by
  obtain⟨W2,h1,h2,o2⟩:=stat_stA (Blk.new w1 122 (statC ⟨0,0,0,0⟩)) ⟨a,b,c,d⟩
  exact⟨W2,h1,h2,(ba hb _).trans (o2.below (fun y hy=>by simp at hy;have:=hb.size;omega) (ba hb _).size)⟩
 clear h hs
 go_enter Tryz.func47,Tryz.ntmps47
 go_wp2_with fail
 refine SZ.out.mono ?_
 rintro e w1 ⟨rfl,hb1⟩
 obtain⟨W2,hst,k2,hb2⟩:=HN.out w1 hb1
 have c0:W2.cell? ⟨w1.heap.size,0,none⟩=some (.int .u64 a):=k2.cell 0
 have c1:W2.cell? ⟨w1.heap.size,1,none⟩=some (.int .u64 b):=k2.cell 1
 have c2:W2.cell? ⟨w1.heap.size,2,none⟩=some (.int .u64 c):=k2.cell 2
 have c3:W2.cell? ⟨w1.heap.size,3,none⟩=some (.int .u64 d):=k2.cell 3
 have HB:=hid hb2
 clear hb1 k2 hb2 HN SZ
 go_upto_region 2 with fail
 go_quiet (fail)
 go_wp2_with fail
 go_ret2
 exact⟨rfl,HB.out.trans ((Only.refl [] W2).drewN nq |>.below (by simp) HB.out.size)⟩
end Go.Proofs.YtjmaicckkkdjpaaGreat
/- Two responses without pairs compared. -/
namespace Go.Proofs.YtjmaicckkkdjpaaGreat
open Go.RowKit
theorem SPairs_nil (w:World):Calls Tryz.prog 33 #[.slice none 0 0,.slice none 0 0] w fun e w'=>e= .returned (.bool true)∧w'=w:=by
 go_enter Tryz.func33,Tryz.ntmps33
 go_wp2
 go_loopw [5] (fun i wr=>i= .int .i64 0∧wr=w) (fun _ _=>0)
 case atStart=>exact⟨rfl,rfl⟩
 case round=>
  obtain⟨rfl,rfl⟩:=hrel
  go_wp2
  go_ret
  exact⟨rfl,rfl⟩
def strE (s t:ByteArray):Bool:=s.toList==t.toList
theorem strE_refl (s:ByteArray):strE s s=true:=by simp[strE]
theorem SameR_z (c1 c2:Int) (s1 s2:ByteArray) (w:World):
  Calls Tryz.prog 12 #[.agg (respC c1 s1),.agg (respC c2 s2)] w fun e w'=>e= .returned (.bool (c1==c2&&strE s1 s2))∧Below w.heap.size w w':=by
 unfold respC
 cases e1:(c1==c2) with
 | false=>
  go_enter Tryz.func12,Tryz.ntmps12
  go_wp2
  go_ret
  exact⟨rfl,by(repeat(first | exact Below.refl _ _ | (refine ba ?_ _) | (refine Below.drew ?_) | (refine below_drewN ?_ _) | (refine Below.alloc ?_ (by first | omega | (simp;done) | (simp;omega)) _) | (refine Below.setCell ?_ (by first | omega | (simp;done) | (simp;omega)) _) | (refine bx ?_ (by assumption)) | (refine Below.trans ?_ (Below.mono (by assumption) (by first | omega | (simp;done) | (simp;omega))))))⟩
 | true=>
  have e1':c1=c2:=by simpa using e1
  subst e1'
  clear e1
  cases e2:strE s1 s2 with
  | false=>
   have e3: ¬s1.toList=s2.toList:=by simpa[strE] using e2
   have e4:(s1.toList==s2.toList)=false:=e2
   clear e2
   go_enter Tryz.func12,Tryz.ntmps12
   go_wp2
   go_ret
   exact⟨rfl,by(repeat(first | exact Below.refl _ _ | (refine ba ?_ _) | (refine Below.drew ?_) | (refine below_drewN ?_ _) | (refine Below.alloc ?_ (by first | omega | (simp;done) | (simp;omega)) _) | (refine Below.setCell ?_ (by first | omega | (simp;done) | (simp;omega)) _) | (refine bx ?_ (by assumption)) | (refine Below.trans ?_ (Below.mono (by assumption) (by first | omega | (simp;done) | (simp;omega))))))⟩
  | true=>
   have e3:s1.toList=s2.toList:=by simpa[strE] using e2
   have e4:(s1.toList==s2.toList)=true:=e2
   clear e2
   have hB:=hid (ba (ba (Below.refl w.heap.size w) (.cells #[.int .i64 c1,.string s1,.slice none 0 0] 41)) (.cells #[.int .i64 c1,.string s2,.slice none 0 0] 41))
   go_enter Tryz.func12,Tryz.ntmps12
   go_wp2_with fail
   refine(SPairs_nil _).mono ?_
   rintro e v1 ⟨rfl,rfl⟩
   go_wp2
   go_ret
   exact⟨rfl,hB.out⟩
end Go.Proofs.YtjmaicckkkdjpaaGreat
/- The law's step of a get. -/
namespace Go.Proofs.YtjmaicckkkdjpaaGreat
open Go.RowKit
theorem didV_step {s s':St4} (i j k:Nat) (h:i+j+k≤1) (ha:s'.a=(s.a+i)% 18446744073709551616) (hb:s'.b=s.b) (hc:s'.c=(s.c+j)% 18446744073709551616) (hd:s'.d=(s.d+k)% 18446744073709551616):IntKind.u64.wrap (didV s'-didV s)≤1:=by
 unfold didV
 simp only[IntKind.wrap_u64]
 rw[ha,hb,hc,hd]
 omega
theorem MSt.ahead {m:Nat} {B:MB} {K:Nat} {w w1 w2:World} {M M':MemS} {ta:MA} {ks:List Nat} (h:MSt m B K w1 M w2 M' ta ks) (hb:Below w.heap.size w w1):MSt m B K w M w2 M' ta ks:=
 ⟨h.mems,fun k hk=>(h.foot k hk).imp id (fun h=>Nat.le_trans hb.size h),h.abs,h.st,(Only.of_below hb _).trans h.only (fun x hx=>Or.inl hx)⟩
theorem WkIn.bel {w w':World} {si m g:Nat} {B:MB} {M:MemS} {K:Nat} {f:List Nat} (h:WkIn w si m g B M K f) (hb:Below w.heap.size w w'):WkIn w' si m g B M K f:=
 ⟨h.mem.only (Only.of_below hb []) (by simp),h.st,h.few,cell_bel hb h.sc,Nat.lt_of_lt_of_le h.sil hb.size,h.sig,h.sif,h.sim,h.gm,h.fm⟩
theorem GtIs.bel {w w':World} {si m g:Nat} {x:GtP} {f:List Nat} (h:GtIs w si m g x f) (hb:Below w.heap.size w w'):GtIs w' si m g x f:=h.only (Only.of_below hb []) (by simp) (by simp)
def GtDid (si m g:Nat) (B:MB) (M:MemS) (K:Nat) (x:GtP) (f:List Nat) (w:World) (e:Ending) (w':World):Prop:=
 e= .returned (.tuple #[.bool (x.next M.view).done,.bool true])∧ ∃M' f',MSt m B K w M w' M' (x.eff (absM M)) (g::f)∧GtIs w' si m g (x.next M.view) f'∧ ∀y∈f',y∈f∨(w.heap.size≤y∧y∉footM m B M')
theorem LStep_z (si m g:Nat) (B:MB) (M:MemS) (K:Nat) (x:GtP) (f:List Nat) (hok:GtOK M.view x) (hrc:(x.next M.view).done=true→(x.next M.view).rc=0∨(x.next M.view).rc=5) (w:World) (hin:WkIn w si m g B M K f) (hs:GtIs w si m g x f):
  Calls Tryz.prog 20 #[ptrV m,ptrV g] w (GtDid si m g B M K x f w):=by
 have D1:=hid (Did_z m B M w hin.mem.is)
 have SZ:Hid (∀w1,Below w.heap.size w w1→Calls Tryz.prog 48 #[ptrV g] w1 (GtPost si m g B M K x f w1)):=hid fun w1 hb=>GtStep_z si m g B M K x f hok w1 (hin.bel hb) (hs.bel hb)
 unfold GtDid
 obtain⟨X,hX⟩: ∃X,X=x.next M.view:=⟨_,rfl⟩
 rw[←hX] at hrc ⊢
 have hout:outV X.done X.rc= .tuple #[.bool X.done,.int .i64 0]:=by
  unfold outV
  cases hd:X.done with
  | false=>rfl
  | true=>
   rcases hrc hd with h | h
   ·rw[h];rfl
   ·rw[h];rfl
 have HX:=hid (⟨hX,hout⟩:_∧_)
 clear hok hin hs hX hout hrc
 go_enter Tryz.func20,Tryz.ntmps20
 go_wp2_with fail
 refine D1.out.mono ?_
 rintro e w1 ⟨rfl,hb1⟩
 have S1:=hid (SZ.out w1 hb1)
 have HB1:=hid hb1
 clear hb1 SZ D1
 go_wp2_with fail
 refine S1.out.mono ?_
 intro e w2 hp
 unfold GtPost at hp
 rw[←HX.out.1,HX.out.2] at hp
 obtain⟨rfl,M',f',hM,hI,hf⟩:=hp
 have D2:=hid (Did_z m B M' w2 hM.mems.is)
 have b9:(M.st.b==M'.st.b)=true:=by
  obtain⟨i,j,k,_,_,h2,_,_⟩:=hM.st
  rw[h2];simp
 have b8:decide (IntKind.u64.wrap (didV M'.st-didV M.st)≤1)=true:=decide_eq_true (by
  obtain⟨i,j,k,h0,h1,h2,h3,h4⟩:=hM.st
  exact didV_step i j k h0 h1 h2 h3 h4)
 have H2:=hid (⟨hM,hI,hf⟩:_∧_∧_)
 clear hM hI hf S1
 go_wp2_with fail
 refine D2.out.mono ?_
 rintro e w3 ⟨rfl,hb3⟩
 have HB3:=hid hb3
 clear hb3 D2
 go_wp2_with fail
 go_ret2
 refine⟨rfl,M',f',((H2.out.1.ahead HB1.out).turn (js:=[]) (Only.of_below HB3.out []) (fun x hx=>by cases hx)),H2.out.2.1.bel HB3.out,fun y hy=>(H2.out.2.2 y hy).imp id (fun h=>⟨Nat.le_trans HB1.out.size h.1,h.2⟩)⟩
end Go.Proofs.YtjmaicckkkdjpaaGreat
/- The law steps a get till it is done. -/
namespace Go.Proofs.YtjmaicckkkdjpaaGreat
open Go.RowKit
theorem GtU.at.lt {w:World} {si m g:Nat} {n:NodeA} {u:GtU} {uv fv:Value} {us bs:List Nat} (h:u.at w si m g n uv fv us bs): ∀z∈us++bs,z<w.heap.size:=by
 have hc: ∀{b:Nat} {v:Value},w.cell? ⟨b,0,none⟩=some v→b<w.heap.size:=fun h2=>World.block_lt_of_cell? _ _ h2
 cases u with
 | walk y=>
  obtain⟨wg,f0,bg,bw,rfl,rfl,h1,h2,h3,rfl,rfl⟩:=h
  intro z hz
  simp at hz
  rcases hz with rfl | hz | rfl | rfl
  ·exact h1.lt.1
  ·exact h1.lt.2 z hz
  ·exact hc h2
  ·exact hc h3
 | read y=>
  obtain⟨rg,lv,br,bg,N,rfl,rfl,h1,h4,h2,h3,rfl,rfl⟩:=h
  intro z hz
  simp at hz
  rcases hz with rfl | hz | rfl | rfl
  ·exact h1.blk.lt
  ·rcases h1.own.2 with h5 | ⟨g5,cap,cur,hv,hg5,hh,r⟩
   ·rw[h5.1] at hz;cases hz
   ·rw[hv] at hz
    have:g5=z:=by simpa[Value.ownBlock] using hz
    rw[←this]
    exact(Array.getElem?_eq_some_iff.1 hh).1
  ·exact hc h2
  ·exact hc h3
 | still y=>
  obtain⟨sg,bg,bs',rfl,rfl,h1,h2,h3,rfl,rfl⟩:=h
  intro z hz
  simp at hz
  rcases hz with rfl | rfl | rfl
  ·exact h1.blk.lt
  ·exact hc h2
  ·exact hc h3
 | last l rc rv=>
  obtain⟨lg,lr,br,bg,rfl,rfl,h1,h2,h3,rfl,rfl⟩:=h
  intro z hz
  simp at hz
  rcases hz with rfl | rfl | rfl | rfl
  ·obtain⟨p,c,h5,_⟩:=h1.blk;exact h5.lt
  ·exact h1.rlt
  ·exact h2.lt
  ·exact hc h3
theorem GtIs.lt {w:World} {si m g:Nat} {x:GtP} {f:List Nat} (h:GtIs w si m g x f):g<w.heap.size∧ ∀z∈f,z<w.heap.size:=by
 obtain⟨⟨uv,fv,us,bs,h1,h2,rfl,h4⟩,h5⟩:=h
 exact⟨h1.lt,h2.lt⟩
theorem WkIn.next {w w':World} {si m g:Nat} {B:MB} {M M':MemS} {K:Nat} {ta:MA} {f f':List Nat} (hin:WkIn w si m g B M K f) (hgl:g<w.heap.size) (hfl: ∀y∈f,y<w.heap.size) (hM:MSt m B K w M w' M' ta (g::f)) (hf: ∀y∈f',y∈f∨(w.heap.size≤y∧y∉footM m B M')):WkIn w' si m g B M' K f':=by
 refine⟨hM.mems,hM.st64 hin.st,hin.few,(hM.only.cell (p:=⟨si,0,none⟩) hin.sil ?_).trans hin.sc,Nat.lt_of_lt_of_le hin.sil hM.only.size,hin.sig,fun h=> ?_,hM.far hin.sil hin.sim,hM.far hgl hin.gm,fun y hy=> ?_⟩
 ·intro h
  rcases List.mem_append.1 h with h | h
  ·rcases List.mem_cons.1 h with h | h
   ·exact hin.sig h
   ·exact hin.sif h
  ·exact hin.sim h
 ·rcases hf si h with h1 | h1
  ·exact hin.sif h1
  ·have:=hin.sil;have:=h1.1;omega
 ·rcases hf y hy with h1 | h1
  ·exact hM.far (hfl y h1) (hin.fm y h1)
  ·exact h1.2
theorem eff_view (x:GtP) (A:MA):(x.eff A).view=A.view:=by
 have hl: ∀l:LtP,(l.eff A).view=A.view:=fun l=>by
  unfold LtP.eff
  split
  ·rfl
  ·split<;>rfl
 unfold GtP.eff
 split
 ·rename_i y _
  unfold WkP.eff
  split
  ·rfl
  ·split
   ·exact hl _
   ·rfl
 ·exact hl _
 ·rfl
structure GtWh (P:Nat→GtP→Prop) (V:List Int) (si m g:Nat) (B:MB) (K:Nat) (M0:MemS) (f0:List Nat) (w:World) (n:Nat) (x:GtP) (M:MemS) (f:List Nat) (wr:World):Prop where
 st:P n x
 inn:WkIn wr si m g B M K f
 is:GtIs wr si m g x f
 view:M.view=V
 only:Only (g::f0++footM m B M0) w wr
 fresh: ∀y∈f,y∈f0∨w.heap.size≤y
 foot: ∀k∈footM m B M,k∈footM m B M0∨w.heap.size≤k
structure GtAll (Fin:GtP→Prop) (V:List Int) (si m g:Nat) (B:MB) (K:Nat) (M0:MemS) (f0:List Nat) (w:World) (x:GtP) (M:MemS) (f:List Nat) (wr:World):Prop where
 fin:Fin x
 inn:WkIn wr si m g B M K f
 is:GtIs wr si m g x f
 view:M.view=V
 only:Only (g::f0++footM m B M0) w wr
 fresh: ∀y∈f,y∈f0∨w.heap.size≤y
 foot: ∀k∈footM m B M,k∈footM m B M0∨w.heap.size≤k
theorem GtWh.step {P:Nat→GtP→Prop} {V:List Int} {si m g:Nat} {B:MB} {K:Nat} {M0 M M':MemS} {f0 f f':List Nat} {w wr w':World} {n:Nat} {x:GtP} (h:GtWh P V si m g B K M0 f0 w n x M f wr)
  (hM:MSt m B K wr M w' M' (x.eff (absM M)) (g::f)) (hI:GtIs w' si m g (x.next V) f') (hf: ∀y∈f',y∈f∨(wr.heap.size≤y∧y∉footM m B M')):
  WkIn w' si m g B M' K f'∧M'.view=V∧Only (g::f0++footM m B M0) w w'∧(∀y∈f',y∈f0∨w.heap.size≤y)∧ ∀k∈footM m B M',k∈footM m B M0∨w.heap.size≤k:=by
 obtain⟨hgl,hfl⟩:=h.is.lt
 refine⟨h.inn.next hgl hfl hM hf,?_,h.only.trans hM.only ?_,?_,?_⟩
 ·have:=congrArg MA.view hM.abs
  rw[eff_view] at this
  rw[←h.view];exact this
 ·intro y hy
  rcases List.mem_append.1 hy with h1 | h1
  ·rcases List.mem_cons.1 h1 with rfl | h1
   ·exact Or.inl (by simp)
   ·exact(h.fresh y h1).imp (fun h=>by simp[h]) id
  ·exact(h.foot y h1).imp (fun h=>by simp[h]) id
 ·intro y hy
  rcases hf y hy with h1 | h1
  ·exact h.fresh y h1
  ·exact Or.inr (Nat.le_trans h.only.size h1.1)
 ·intro k hk
  rcases hM.foot k hk with h1 | h1
  ·exact h.foot k h1
  ·exact Or.inr (Nat.le_trans h.only.size h1)
end Go.Proofs.YtjmaicckkkdjpaaGreat
/- The law steps a get till it is done: the loop. -/
namespace Go.Proofs.YtjmaicckkkdjpaaGreat
open Go.RowKit
theorem LWhole_z (P:Nat→GtP→Prop) (Fin:GtP→Prop) (V:List Int)
  (hP: ∀n x,P n x→0<n∧GtOK V x∧((∃n',n'<n∧(x.next V).done=false∧P n' (x.next V))∨(Fin (x.next V)∧(x.next V).done=true∧((x.next V).rc=0∨(x.next V).rc=5))))
  (L n:Nat) (hn:n≤L) (hL:L<4611686018427387904) (si m g:Nat) (B:MB) (M:MemS) (K:Nat) (x:GtP) (f:List Nat) (hV:M.view=V) (hx:P n x) (w:World) (hin:WkIn w si m g B M K f) (hs:GtIs w si m g x f):
  Calls Tryz.prog 14 #[ptrV m,ptrV g,.int .i64 (L:Int)] w fun e w'=> ∃r x' M' f',e= .returned (.int .i64 r)∧1≤r∧r≤(n:Int)∧GtAll Fin V si m g B K M f w x' M' f' w':=by
 have H0:Hid (GtWh P V si m g B K M f w n x M f w):=hid ⟨hx,hin,hs,hV,Only.refl _ _,fun y hy=>Or.inl hy,fun k hk=>Or.inl hk⟩
 have HP:=hid hP
 have HL:=hid hL
 have HN:=hid hn
 clear hP hn hV hx hin hs hL
 go_enter Tryz.func14,Tryz.ntmps14
 go_wp2
 go_loopw [7] (fun i wr=> ∃(k n':Nat) (x':GtP) (M':MemS) (f':List Nat),i= .int .i64 ((k:Int)+1)∧k+n'≤n∧Hid (GtWh P V si m g B K M f w n' x' M' f' wr)) (fun i _=>L+1- (intOf i).toNat)
 case atStart=>exact⟨0,n,x,M,f,rfl,by omega,H0⟩
 case round=>
  obtain⟨k,n',x',M',f',rfl,hk,hI⟩:=hrel
  obtain⟨h0,hok,hst⟩:=HP.out n' x' hI.out.st
  have hrc:(x'.next M'.view).done=true→(x'.next M'.view).rc=0∨(x'.next M'.view).rc=5:=fun hd=>by
   rw[hI.out.view] at hd ⊢
   rcases hst with⟨_,_,h1,_⟩ | ⟨_,_,h1⟩
   ·rw[h1] at hd;cases hd
   ·exact h1
  have SZ:=hid (LStep_z si m g B M' K x' f' (by rw[hI.out.view];exact hok) hrc wr hI.out.inn hI.out.is)
  have i1:decide ((k:Int)+1≤(L:Int))=true:=decide_eq_true (by have:=HN.out;omega)
  have i2:IntKind.i64.wrap ((k:Int)+1+1)=(k:Int)+1+1:=by rw[IntKind.wrap_i64];have:=HN.out;have:=HL.out;omega
  obtain⟨X,hX⟩: ∃X,X=x'.next M'.view:=⟨_,rfl⟩
  unfold GtDid at SZ
  rw[←hX] at SZ
  rw[←hI.out.view,←hX] at hst
  have HS:=hid (⟨hst,hX,h0,hk⟩:_∧_∧_∧_)
  clear hst hrc hok hk h0
  cases hd:X.done with
  | false=>
   rw[hd] at SZ
   have HD:=hid hd
   clear hd hX
   go_wp2_with fail
   refine SZ.out.mono ?_
   rintro e w2 ⟨rfl,M2,f2,hM,hI2,hf⟩
   have H2:=hid (⟨hM,hI2,hf⟩:_∧_∧_)
   clear hM hI2 hf SZ
   go_wp2_with fail
   go_roundw
   case rel=>
    obtain⟨hM,hI2,hf⟩:=H2.out
    obtain⟨hst,hX,h0,hk⟩:=HS.out
    rcases hst with⟨n2,hn2,_,hp2⟩ | ⟨_,h1,_⟩
    ·rw[hX,hI.out.view] at hI2 hp2
     obtain⟨a1,a2,a3,a4,a5⟩:=hI.out.step hM hI2 hf
     exact⟨k+1,n2,_,M2,f2,by push_cast;rfl,by omega,hid ⟨hp2,a1,hI2,a2,a3,a4,a5⟩⟩
    ·rw[HD.out] at h1;cases h1
   case measure=>simp[intOf];have:=HS.out.2.2.2;have:=HS.out.2.2.1;have:=HN.out;omega
  | true=>
   rw[hd] at SZ
   have HD:=hid hd
   clear hd hX
   go_wp2_with fail
   refine SZ.out.mono ?_
   rintro e w2 ⟨rfl,M2,f2,hM,hI2,hf⟩
   have H2:=hid (⟨hM,hI2,hf⟩:_∧_∧_)
   clear hM hI2 hf SZ
   go_wp2_with fail
   go_ret
   obtain⟨hM,hI2,hf⟩:=H2.out
   obtain⟨hst,hX,h0,hk⟩:=HS.out
   rcases hst with⟨n2,hn2,h1,hp2⟩ | ⟨hF,h1,_⟩
   ·rw[HD.out] at h1;cases h1
   ·rw[hX,hI.out.view] at hI2 hF
    obtain⟨a1,a2,a3,a4,a5⟩:=hI.out.step hM hI2 hf
    exact⟨_,_,M2,f2,rfl,by omega,by omega,hF,a1,hI2,a2,a3,a4,a5⟩
end Go.Proofs.YtjmaicckkkdjpaaGreat
