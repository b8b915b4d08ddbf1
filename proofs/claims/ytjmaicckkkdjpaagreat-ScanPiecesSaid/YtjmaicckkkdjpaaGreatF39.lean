import Derived.Test.YtjmaicckkkdjpaaGreatF22
set_option maxRecDepth 100000
set_option maxHeartbeats 4000000
set_option linter.unusedVariables false
set_option linter.unusedSimpArgs false
/- A scan goes on; it ends. -/
namespace Go.Proofs.YtjmaicckkkdjpaaGreat
open Go.RowKit
attribute [local go_sem ↓ high] nodeLoadAt nodeLoadVar nodeStoreAt scBuild lfBuild lfStoreAt
attribute [local go_sem] ldM_run lvM_run stM_run Oper.semAt_some run_store_fnG bldMg_run neFnE neFnEG
theorem STo_z (si g:Nat) (x:ScP) (R:SR) (uv fv:Value) (T ub:Nat) (fn:Fn) (c1 c2:Array Value) (w:World) (hb:ScBlk w g si x R uv fv):
  Calls Tryz.prog 112 #[ptrV g,.iface T (ptrV ub),.func fn c1 c2] w fun e w'=>e= .returned (.tuple #[])∧ScBlk w' g si x R (.iface T (ptrV ub)) (.func fn c1 c2)∧Only [g] w w':=by
 have c3:w.cell? ⟨g,5,none⟩=some uv:=hb.cell 5
 have c4:w.cell? ⟨g,6,none⟩=some fv:=hb.cell 6
 have f3:=hb.frozen 5
 have f4:=hb.frozen 6
 have HB:=hid hb
 clear hb
 go_enter Tryz.func112,Tryz.ntmps112
 go_wp2_with fail
 refine bodyPost_end (v:= .tuple #[]) (by simp[results,Tryz.results112,go_sem]) rfl ?_
 exact⟨rfl,(HB.out.set_ 5 (.iface T (ptrV ub))).set_ 6 (.func fn c1 c2),(by repeat(first | exact Only.refl _ _ | (refine Only.drew ?_) | (refine Only.drewN ?_ _) | (refine Only.setCell ?_ (Or.inl (by simp)) _) | (refine Only.alloc ?_ _)))⟩
def ScEn (si g:Nat) (x:ScP) (R:SR) (uv fv:Value) (w:World) (e:Ending) (w':World):Prop:=e= .returned (.tuple #[])∧ScBlk w' g si x R uv fv∧Only [g] w w'
theorem SEnd_z (si g:Nat) (x:ScP) (R:SR) (uv fv:Value) (E:Int) (w:World) (hb:ScBlk w g si x R uv fv):
  Calls Tryz.prog 67 #[ptrV g,.int .i64 E] w (ScEn si g (x.fin E) R uv fv w):=by
 have c3:w.cell? ⟨g,36,none⟩=some (.bool x.done):=hb.cell 36
 have c4:w.cell? ⟨g,37,none⟩=some (.int .i64 x.e):=hb.cell 37
 have f3:=hb.frozen 36
 have f4:=hb.frozen 37
 have HB:=hid hb
 clear hb
 go_enter Tryz.func67,Tryz.ntmps67
 go_wp2_with fail
 refine bodyPost_end (v:= .tuple #[]) (by simp[results,Tryz.results67,go_sem]) rfl ?_
 exact⟨rfl,(HB.out.set_ 36 (.bool true)).set_ 37 (.int .i64 E),(by repeat(first | exact Only.refl _ _ | (refine Only.drew ?_) | (refine Only.drewN ?_ _) | (refine Only.setCell ?_ (Or.inl (by simp)) _) | (refine Only.alloc ?_ _)))⟩
end Go.Proofs.YtjmaicckkkdjpaaGreat
/- A scan goes on to a walk. -/
namespace Go.Proofs.YtjmaicckkkdjpaaGreat
open Go.RowKit
attribute [local go_sem ↓ high] nodeLoadAt nodeLoadVar nodeStoreAt scBuild lfBuild lfStoreAt
attribute [local go_sem] ldM_run lvM_run stM_run Oper.semAt_some run_store_fnG bldMg_run neFnE neFnEG
theorem SWalk_z (si m g:Nat) (x:ScP) (R:SR) (uv fv:Value) (w:World) (hb:ScBlk w g si x R uv fv) (hr:ScRows w x.want x.got x.pairs R) (hgr:g∉R.bl):
  Calls Tryz.prog 62 #[ptrV g] w (ScGo si m g R.bl { x with u:= .walk (wkNew x.client x.lo 0) } w):=by
 obtain⟨W1,hW1⟩: ∃W1,W1=w.alloc (.cells #[ptrV g] 89):=⟨_,rfl⟩
 have hb1:Below w.heap.size w W1:=by rw[hW1];exact ba (Below.refl _ _) _
 have k1:Blk W1 w.heap.size 89 #[ptrV g]:=by rw[hW1];exact Blk.new _ _ _
 have h1:=hb.bel hb1
 have KS:Hid (∀W,Below W1.heap.size W1 W→(W.cell? ⟨w.heap.size,0,none⟩=some (ptrV g)∧W.cell? ⟨g,0,none⟩=some (ptrV si)∧W.cell? ⟨g,1,none⟩=some (.int .i64 x.client)∧W.cell? ⟨g,2,none⟩=some (.int .u64 x.lo))):=hid fun W hW=>
  ⟨cell_bel hW (k1.cell 0),cell_bel hW (h1.cell 0),cell_bel hW (h1.cell 1),cell_bel hW (h1.cell 2)⟩
 have KB:Hid (∀W,Below W1.heap.size W1 W→ScBlk W g si x R uv fv):=hid fun W hW=>h1.bel hW
 have hgl:=hb.lt
 have HX:=hid (⟨hb1,hgl⟩:_∧_)
 have HR:=hid (⟨hr,hgr⟩:_∧_)
 have HZ:Hid (W1.heap.size=w.heap.size+1):=hid (by rw[hW1,World.size_alloc])
 have HW:=hid hW1
 have SZ: ∀W,Calls Tryz.prog 71 #[ptrV si,.int .i64 x.client,.int .u64 x.lo,.int .i64 0] W _:=WkNew_z si x.client x.lo 0
 have SZ:=hid SZ
 clear hW1 hb1 k1 h1 hb hgl hr hgr
 go_enter Tryz.func62,Tryz.ntmps62
 go_upto_region 1 with fail
 rw[show _=W1 from HW.out.symm]
 go_region_held3 (fun W=>W.cell? ⟨w.heap.size,0,none⟩=some (ptrV g)∧W.cell? ⟨g,0,none⟩=some (ptrV si)∧W.cell? ⟨g,1,none⟩=some (.int .i64 x.client)∧W.cell? ⟨g,2,none⟩=some (.int .u64 x.lo)) (first | (refine KS.out _ ?_;(repeat(first | assumption | exact Below.refl _ _ | refine Below.drew ?_ | refine ba ?_ _ | refine Below.setCell ?_ (by first | exact Nat.le_refl _ | exact Below.size (by assumption)) _));done))
  (first | (go_at_call 71;refine(SZ.out _).mono ?_;rintro e w5 ⟨sg,rfl,hsg,hst,hb5⟩;have hw5:Below W1.heap.size W1 w5:=bx (by(repeat(first | assumption | exact Below.refl _ _ | refine Below.drew ?_ | refine ba ?_ _ | refine Below.setCell ?_ (by first | exact Nat.le_refl _ | exact Below.size (by assumption)) _))) hb5;(try(have kb5:Blk w5 W1.heap.size 171 #[.pointer none]:=(Blk.drew (Blk.new W1 171 #[.pointer none])).bel hb5;have cb5:=kb5.cell 0;have fb5:=kb5.frozen 0;have KB5:=hid kb5;clear kb5));have H5:=hid (⟨hsg,hst,hb5⟩:_∧_∧_);clear hsg hst hb5))
 all_goals
  first
  |
   (obtain⟨V,hV⟩: ∃V,V=w5.alloc (.cells #[.pointer (some ⟨sg,0,none⟩)] 171):=⟨_,rfl⟩
    obtain⟨bs,hbs⟩: ∃bs,bs=w5.heap.size:=⟨_,rfl⟩
    rw[show _=V from hV.symm]
    rw[show w5.heap.size=bs from hbs.symm]
    have hbV:Below W1.heap.size W1 V:=by rw[hV];exact ba hw5 _
    obtain⟨t1,t2,t3,t4⟩:=KS.out V hbV
    have tb:V.cell? ⟨bs,0,none⟩=some (ptrV sg):=by rw[hV,hbs];exact(Blk.new w5 171 #[ptrV sg]).cell 0
    have hsV:WkIs V si m sg (wkNew x.client x.lo 0) []:=by rw[hV];exact(H5.out.2.1 m).bel (ba (Below.refl _ _) _)
    have HS:=hid (⟨hsV,hbV,tb,t1⟩:_∧_∧_∧_)
    have hbs1:w.heap.size<bs:=by rw[hbs];have:=hw5.size;have:=HZ.out;omega
    have hne:sg≠bs:=by rw[hbs];have:=(H5.out.2.1 m).lt.1;omega
    have hsg1:w.heap.size<sg:=by have:=H5.out.1;have:=HZ.out;(try simp only[World.size_alloc,World.size_drew] at*);omega
    have HN:=hid (⟨hbs1,hne,hsg1⟩:_∧_∧_)
    have TZ:Hid (∀fn c1 c2,Calls Tryz.prog 112 #[ptrV g,.iface 171 (ptrV sg),.func fn c1 c2] V fun e w'=>e= .returned (.tuple #[])∧ScBlk w' g si x R (.iface 171 (ptrV sg)) (.func fn c1 c2)∧Only [g] V w'):=hid fun fn c1 c2=>STo_z si g x R uv fv _ _ _ _ _ V (KB.out V hbV)
    clear hV hbs hbV hsV t2 t3 t4 hbs1 hne hsg1
    go_wp2_with fail
    refine(TZ.out _ _ _).mono ?_
    rintro e w7 ⟨rfl,hB7,ho7⟩
    have H7:=hid (⟨hB7,ho7⟩:_∧_)
    clear hB7 ho7
    go_wp2_with fail
    refine bodyPost_end (v:= .tuple #[]) (by simp[results,Tryz.results62,go_sem]) rfl ?_
    exact sc_fin HX.out.2 (HX.out.1.trans (HS.out.2.1.mono HX.out.1.size)) HR.out.1 HR.out.2 (us:=[sg]) (bs:=[w.heap.size,bs]) ⟨sg,[],w.heap.size,bs,rfl,rfl,HS.out.1,HS.out.2.2.2,HS.out.2.2.1,rfl,rfl⟩ (fun z hz=>by have:=HN.out;simp at hz;omega) (fun z hz=>by have:=HN.out;simp at hz ⊢;omega) H7.out.1 H7.out.2)
  |
   (obtain⟨V,hV⟩: ∃V,V=w5.setCell ⟨W1.heap.size,0,none⟩ (.pointer (some ⟨sg,0,none⟩)):=⟨_,rfl⟩
    obtain⟨bs,hbs⟩: ∃bs,bs=W1.heap.size:=⟨_,rfl⟩
    rw[show _=V from hV.symm]
    rw[show W1.heap.size=bs from hbs.symm]
    have hbV:Below W1.heap.size W1 V:=by rw[hV];exact Below.setCell hw5 (Nat.le_refl _) _
    obtain⟨t1,t2,t3,t4⟩:=KS.out V hbV
    have tb:V.cell? ⟨bs,0,none⟩=some (ptrV sg):=by rw[hV,hbs];exact(KB5.out.set_ 0 (ptrV sg)).cell 0
    have hsV:WkIs V si m sg (wkNew x.client x.lo 0) []:=by rw[hV];exact(H5.out.2.1 m).only (ks:=[W1.heap.size]) (Only.setCell (Only.refl _ _) (Or.inl (by simp)) _) (hf:=by simp) (hg:=by have h:=H5.out.1;change(W1.alloc _).heap.size≤sg at h;rw[World.size_alloc] at h;simp;omega)
    have HS:=hid (⟨hsV,hbV,tb,t1⟩:_∧_∧_∧_)
    have hbs1:w.heap.size<bs:=by rw[hbs];have:=HZ.out;omega
    have hne:sg≠bs:=by rw[hbs];have h:=H5.out.1;change(W1.alloc _).heap.size≤sg at h;rw[World.size_alloc] at h;omega
    have hsg1:w.heap.size<sg:=by have:=H5.out.1;have:=HZ.out;(try simp only[World.size_alloc,World.size_drew] at*);omega
    have HN:=hid (⟨hbs1,hne,hsg1⟩:_∧_∧_)
    have TZ:Hid (∀fn c1 c2,Calls Tryz.prog 112 #[ptrV g,.iface 171 (ptrV sg),.func fn c1 c2] V fun e w'=>e= .returned (.tuple #[])∧ScBlk w' g si x R (.iface 171 (ptrV sg)) (.func fn c1 c2)∧Only [g] V w'):=hid fun fn c1 c2=>STo_z si g x R uv fv _ _ _ _ _ V (KB.out V hbV)
    clear hV hbs hbV hsV t2 t3 t4 hbs1 hne hsg1
    go_wp2_with fail
    refine(TZ.out _ _ _).mono ?_
    rintro e w7 ⟨rfl,hB7,ho7⟩
    have H7:=hid (⟨hB7,ho7⟩:_∧_)
    clear hB7 ho7
    go_wp2_with fail
    refine bodyPost_end (v:= .tuple #[]) (by simp[results,Tryz.results62,go_sem]) rfl ?_
    exact sc_fin HX.out.2 (HX.out.1.trans (HS.out.2.1.mono HX.out.1.size)) HR.out.1 HR.out.2 (us:=[sg]) (bs:=[w.heap.size,bs]) ⟨sg,[],w.heap.size,bs,rfl,rfl,HS.out.1,HS.out.2.2.2,HS.out.2.2.1,rfl,rfl⟩ (fun z hz=>by have:=HN.out;simp at hz;omega) (fun z hz=>by have:=HN.out;simp at hz ⊢;omega) H7.out.1 H7.out.2)
end Go.Proofs.YtjmaicckkkdjpaaGreat
/- A scan goes on to see whether a leaf is as it was. -/
namespace Go.Proofs.YtjmaicckkkdjpaaGreat
open Go.RowKit
attribute [local go_sem ↓ high] nodeLoadAt nodeLoadVar nodeStoreAt scBuild lfBuild lfStoreAt
attribute [local go_sem] ldM_run lvM_run stM_run Oper.semAt_some run_store_fnG bldMg_run neFnE neFnEG
theorem SStill_z (si m g:Nat) (x:ScP) (R:SR) (uv fv:Value) (w:World) (hb:ScBlk w g si x R uv fv) (hsi:w.cell? ⟨si,0,none⟩=some (ptrV m)) (hr:ScRows w x.want x.got x.pairs R) (hgr:g∉R.bl):
  Calls Tryz.prog 149 #[ptrV g] w (ScGo si m g R.bl { x with u:= .still (stNew x.at' x.leaf) } w):=by
 obtain⟨W1,hW1⟩: ∃W1,W1=w.alloc (.cells #[ptrV g] 89):=⟨_,rfl⟩
 have hb1:Below w.heap.size w W1:=by rw[hW1];exact ba (Below.refl _ _) _
 have k1:Blk W1 w.heap.size 89 #[ptrV g]:=by rw[hW1];exact Blk.new _ _ _
 have h1:=hb.bel hb1
 have hs1:=cell_bel hb1 hsi
 have KS:Hid (∀W,Below W1.heap.size W1 W→(W.cell? ⟨si,0,none⟩=some (ptrV m)∧W.cell? ⟨w.heap.size,0,none⟩=some (ptrV g)∧W.cell? ⟨g,0,none⟩=some (ptrV si)∧W.cell? ⟨g,7,none⟩=some (.int .u64 x.at')∧ldR Tryz.prog 77 (.pointer (some ⟨g,8,none⟩)) W= .ok (.agg (nodeC x.leaf)) W)):=hid fun W hW=>
  ⟨cell_bel hW hs1,cell_bel hW (k1.cell 0),cell_bel hW (h1.cell 0),cell_bel hW (h1.cell 7),ScBlk.ldn (h1.bel hW)⟩
 have KB:Hid (∀W,Below W1.heap.size W1 W→ScBlk W g si x R uv fv):=hid fun W hW=>h1.bel hW
 have hgl:=hb.lt
 have HX:=hid (⟨hb1,hgl⟩:_∧_)
 have HR:=hid (⟨hr,hgr⟩:_∧_)
 have HZ:Hid (W1.heap.size=w.heap.size+1):=hid (by rw[hW1,World.size_alloc])
 have HW:=hid hW1
 have SZ: ∀W,Calls Tryz.prog 162 #[ptrV m,.int .u64 x.at',.agg (nodeC x.leaf)] W _:=StNew_z m x.at' x.leaf
 have SZ:=hid SZ
 clear hW1 hb1 k1 h1 hs1 hb hsi hgl hr hgr
 go_enter Tryz.func149,Tryz.ntmps149
 go_upto_region 1 with fail
 rw[show _=W1 from HW.out.symm]
 go_region_held3 (fun W=>W.cell? ⟨si,0,none⟩=some (ptrV m)∧W.cell? ⟨w.heap.size,0,none⟩=some (ptrV g)∧W.cell? ⟨g,0,none⟩=some (ptrV si)∧W.cell? ⟨g,7,none⟩=some (.int .u64 x.at')∧ldR Tryz.prog 77 (.pointer (some ⟨g,8,none⟩)) W= .ok (.agg (nodeC x.leaf)) W) (first | (refine KS.out _ ?_;(repeat(first | assumption | exact Below.refl _ _ | refine Below.drew ?_ | refine ba ?_ _ | refine Below.setCell ?_ (by first | exact Nat.le_refl _ | exact Below.size (by assumption)) _));done))
  (first | (go_at_call 66;refine(XMem_e (by assumption)).mono ?_;rintro e w5 ⟨rfl,rfl⟩) | (go_at_call 162;refine(SZ.out _).mono ?_;rintro e w5 ⟨sg,rfl,hsg,hst,hb5⟩;have hw5:Below W1.heap.size W1 w5:=bx (by(repeat(first | assumption | exact Below.refl _ _ | refine Below.drew ?_ | refine ba ?_ _ | refine Below.setCell ?_ (by first | exact Nat.le_refl _ | exact Below.size (by assumption)) _))) hb5;(try(have kb5:Blk w5 W1.heap.size 272 #[.pointer none]:=(Blk.drew (Blk.new W1 272 #[.pointer none])).bel hb5;have cb5:=kb5.cell 0;have fb5:=kb5.frozen 0;have KB5:=hid kb5;clear kb5));have H5:=hid (⟨hsg,hst,hb5⟩:_∧_∧_);clear hsg hst hb5))
 all_goals
  first
  |
   (obtain⟨V,hV⟩: ∃V,V=w5.alloc (.cells #[.pointer (some ⟨sg,0,none⟩)] 272):=⟨_,rfl⟩
    obtain⟨bs,hbs⟩: ∃bs,bs=w5.heap.size:=⟨_,rfl⟩
    rw[show _=V from hV.symm]
    rw[show w5.heap.size=bs from hbs.symm]
    have hbV:Below W1.heap.size W1 V:=by rw[hV];exact ba hw5 _
    obtain⟨t0,t1,t2,t3,t4⟩:=KS.out V hbV
    have tb:V.cell? ⟨bs,0,none⟩=some (ptrV sg):=by rw[hV,hbs];exact(Blk.new w5 272 #[ptrV sg]).cell 0
    have hsV:StIs V m sg x.leaf (stNew x.at' x.leaf):=by rw[hV];exact H5.out.2.1.bel (ba (Below.refl _ _) _)
    have HS:=hid (⟨hsV,hbV,tb,t1⟩:_∧_∧_∧_)
    have hbs1:w.heap.size<bs:=by rw[hbs];have:=hw5.size;have:=HZ.out;omega
    have hne:sg≠bs:=by rw[hbs];have:=H5.out.2.1.blk.lt;omega
    have hsg1:w.heap.size<sg:=by have:=H5.out.1;have:=HZ.out;(try simp only[World.size_alloc,World.size_drew] at*);omega
    have HN:=hid (⟨hbs1,hne,hsg1⟩:_∧_∧_)
    have TZ:Hid (∀fn c1 c2,Calls Tryz.prog 112 #[ptrV g,.iface 272 (ptrV sg),.func fn c1 c2] V fun e w'=>e= .returned (.tuple #[])∧ScBlk w' g si x R (.iface 272 (ptrV sg)) (.func fn c1 c2)∧Only [g] V w'):=hid fun fn c1 c2=>STo_z si g x R uv fv _ _ _ _ _ V (KB.out V hbV)
    clear hV hbs hbV hsV t0 t2 t3 t4 hbs1 hne hsg1
    go_wp2_with fail
    refine(TZ.out _ _ _).mono ?_
    rintro e w7 ⟨rfl,hB7,ho7⟩
    have H7:=hid (⟨hB7,ho7⟩:_∧_)
    clear hB7 ho7
    go_wp2_with fail
    refine bodyPost_end (v:= .tuple #[]) (by simp[results,Tryz.results149,go_sem]) rfl ?_
    exact sc_fin HX.out.2 (HX.out.1.trans (HS.out.2.1.mono HX.out.1.size)) HR.out.1 HR.out.2 (us:=[sg]) (bs:=[w.heap.size,bs]) ⟨sg,w.heap.size,bs,rfl,rfl,HS.out.1,HS.out.2.2.2,HS.out.2.2.1,rfl,rfl⟩ (fun z hz=>by have:=HN.out;simp at hz;omega) (fun z hz=>by have:=HN.out;simp at hz ⊢;omega) H7.out.1 H7.out.2)
  |
   (obtain⟨V,hV⟩: ∃V,V=w5.setCell ⟨W1.heap.size,0,none⟩ (.pointer (some ⟨sg,0,none⟩)):=⟨_,rfl⟩
    obtain⟨bs,hbs⟩: ∃bs,bs=W1.heap.size:=⟨_,rfl⟩
    rw[show _=V from hV.symm]
    rw[show W1.heap.size=bs from hbs.symm]
    have hbV:Below W1.heap.size W1 V:=by rw[hV];exact Below.setCell hw5 (Nat.le_refl _) _
    obtain⟨t0,t1,t2,t3,t4⟩:=KS.out V hbV
    have tb:V.cell? ⟨bs,0,none⟩=some (ptrV sg):=by rw[hV,hbs];exact(KB5.out.set_ 0 (ptrV sg)).cell 0
    have hsV:StIs V m sg x.leaf (stNew x.at' x.leaf):=by rw[hV];exact H5.out.2.1.only (ks:=[W1.heap.size]) (Only.setCell (Only.refl _ _) (Or.inl (by simp)) _) (by have h:=H5.out.1;change(W1.alloc _).heap.size≤sg at h;rw[World.size_alloc] at h;simp;omega)
    have HS:=hid (⟨hsV,hbV,tb,t1⟩:_∧_∧_∧_)
    have hbs1:w.heap.size<bs:=by rw[hbs];have:=HZ.out;omega
    have hne:sg≠bs:=by rw[hbs];have h:=H5.out.1;change(W1.alloc _).heap.size≤sg at h;rw[World.size_alloc] at h;omega
    have hsg1:w.heap.size<sg:=by have:=H5.out.1;have:=HZ.out;(try simp only[World.size_alloc,World.size_drew] at*);omega
    have HN:=hid (⟨hbs1,hne,hsg1⟩:_∧_∧_)
    have TZ:Hid (∀fn c1 c2,Calls Tryz.prog 112 #[ptrV g,.iface 272 (ptrV sg),.func fn c1 c2] V fun e w'=>e= .returned (.tuple #[])∧ScBlk w' g si x R (.iface 272 (ptrV sg)) (.func fn c1 c2)∧Only [g] V w'):=hid fun fn c1 c2=>STo_z si g x R uv fv _ _ _ _ _ V (KB.out V hbV)
    clear hV hbs hbV hsV t0 t2 t3 t4 hbs1 hne hsg1
    go_wp2_with fail
    refine(TZ.out _ _ _).mono ?_
    rintro e w7 ⟨rfl,hB7,ho7⟩
    have H7:=hid (⟨hB7,ho7⟩:_∧_)
    clear hB7 ho7
    go_wp2_with fail
    refine bodyPost_end (v:= .tuple #[]) (by simp[results,Tryz.results149,go_sem]) rfl ?_
    exact sc_fin HX.out.2 (HX.out.1.trans (HS.out.2.1.mono HX.out.1.size)) HR.out.1 HR.out.2 (us:=[sg]) (bs:=[w.heap.size,bs]) ⟨sg,w.heap.size,bs,rfl,rfl,HS.out.1,HS.out.2.2.2,HS.out.2.2.1,rfl,rfl⟩ (fun z hz=>by have:=HN.out;simp at hz;omega) (fun z hz=>by have:=HN.out;simp at hz ⊢;omega) H7.out.1 H7.out.2)
end Go.Proofs.YtjmaicckkkdjpaaGreat
