import Derived.Test.YtjmaicckkkdjpaaGreatM23
set_option maxRecDepth 100000
set_option maxHeartbeats 4000000
set_option linter.unusedVariables false
set_option linter.unusedSimpArgs false
/- A get goes on to its last lines. -/
namespace Go.Proofs.YtjmaicckkkdjpaaGreat
open Go.RowKit
attribute [local go_sem ↓ high] nodeLoadAt nodeLoadVar nodeStoreAt rsLoadAt rsLoadVar rsStoreAt gtBuild rsBuild
attribute [local go_sem] ldM_run lvM_run stM_run Oper.semAt_some run_store_fnG bldMg_run neFnE neFnEG
theorem cell_bel {W W':World} (hb:Below W.heap.size W W') {p:Addr} {v:Value} (h:W.cell? p=some v):W'.cell? p=some v:=(hb.cell (World.block_lt_of_cell? _ _ h)).trans h
def GtGo (si m g:Nat) (x:GtP) (w:World) (r:Value) (e:Ending) (w':World):Prop:=
 e= .returned r∧ ∃f',GtIs w' si m g x f'∧(∀z∈f',w.heap.size≤z)∧Only [g] w w'
theorem XMem_e {a:Prop} {si m:Nat} {w:World} (h:w.cell? ⟨si,0,none⟩=some (ptrV m)∧a):Calls Tryz.prog 66 #[ptrV si] w fun e w'=>e= .returned (ptrV m)∧w'=w:=XMem_c si m w h.1
theorem LtIs.only {w w':World} {m b r:Nat} {l:LtP} {ks:List Nat} (h:LtIs w m b r l) (ho:Only ks w w') (hb:b∉ks) (hr:r∉ks):LtIs w' m b r l:=by
 obtain⟨⟨p,c,h2,h3,h4⟩,h5,h6⟩:=h
 refine⟨⟨p,c,ho.blk h2 hb,h3,fun hn=> ?_⟩,Nat.lt_of_lt_of_le h5 ho.size,h6⟩
 obtain⟨off,q1,q2⟩:=h4 hn
 exact⟨off,q1,fun i a hi=>(ho.cell (p:=⟨r,off+i,none⟩) h5 hr).trans (q2 i a hi)⟩
theorem last_fin {si m g lg lr:Nat} {x:GtP} {rc:Int} {rv:ByteArray} {w W1 w6 w7:World} (hg:g<w.heap.size) (hb1:Below w.heap.size w W1) (hsz:W1.heap.size=w.heap.size+1+1) (hlg:W1.heap.size≤lg) (hlr:W1.heap.size≤lr)
  (hlt:LtIs w6 m lg lr ⟨x.client,linesL x.at',false⟩) (h6:Below W1.heap.size W1 w6) (k1:Blk w6 w.heap.size 29 #[ptrV g]) (k2:Blk w6 (w.heap.size+1) 41 (respC rc rv))
  (hB:GtBlk w7 g si x (.iface 267 (ptrV lg)) (clV 160 (w.heap.size+1) w.heap.size)) (ho:Only [g] w6 w7):GtGo si m g (x.lastly rc rv) w (.tuple #[]) (.returned (.tuple #[])) w7:=by
 refine⟨rfl,[lg,lr]++[w.heap.size+1,w.heap.size],⟨⟨_,_,[lg,lr],[w.heap.size+1,w.heap.size],hB,⟨lg,lr,w.heap.size+1,w.heap.size,rfl,rfl,hlt.only ho (by simp;omega) (by simp;omega),ho.blk k2 (by simp;omega),(ho.blk k1 (by simp;omega)).cell 0,rfl,rfl⟩,rfl,?_⟩,?_⟩,?_,?_⟩
 ·intro z hz
  simp at hz ⊢
  omega
 ·simp;omega
 ·intro z hz
  simp at hz
  omega
 ·exact(Only.of_below (hb1.trans (h6.mono (by omega))) [g]).trans ho (fun y hy=>Or.inl hy)
theorem Lastly_z (si m g:Nat) (x:GtP) (uv fv:Value) (rc:Int) (rv:ByteArray) (hat:0≤x.at'∧x.at'≤1099511627776) (w:World) (hb:GtBlk w g si x uv fv) (hsi:w.cell? ⟨si,0,none⟩=some (ptrV m)) (hne:si≠g):
  Calls Tryz.prog 123 #[ptrV g,.agg (respC rc rv)] w (GtGo si m g (x.lastly rc rv) w (.tuple #[])):=by
 obtain⟨W1,hW1⟩: ∃W1,W1=(w.alloc (.cells #[ptrV g] 29)).alloc (.cells (respC rc rv) 41):=⟨_,rfl⟩
 have hb1:Below w.heap.size w W1:=by rw[hW1];exact ba (ba (Below.refl _ _) _) _
 have k1:Blk W1 w.heap.size 29 #[ptrV g]:=by rw[hW1];exact(Blk.new _ _ _).alloc _
 have k2:Blk W1 (w.heap.size+1) 41 (respC rc rv):=by
  rw[hW1]
  have:=Blk.new (w.alloc (.cells #[ptrV g] 29)) 41 (respC rc rv)
  rwa[World.size_alloc] at this
 have h1:=hb.bel hb1
 have hs1:=cell_bel hb1 hsi
 have KS:Hid (∀W,Below W1.heap.size W1 W→(W.cell? ⟨si,0,none⟩=some (ptrV m)∧W.cell? ⟨w.heap.size,0,none⟩=some (ptrV g)∧W.cell? ⟨g,0,none⟩=some (ptrV si)∧W.cell? ⟨g,1,none⟩=some (.int .i64 x.client)∧W.cell? ⟨g,6,none⟩=some (.int .u64 x.at'))):=hid fun W hW=>
  ⟨cell_bel hW hs1,cell_bel hW (k1.cell 0),cell_bel hW (h1.cell 0),cell_bel hW (h1.cell 1),cell_bel hW (h1.cell 6)⟩
 have KB:Hid (∀W,Below W1.heap.size W1 W→GtBlk W g si x uv fv∧Blk W w.heap.size 29 #[ptrV g]∧Blk W (w.heap.size+1) 41 (respC rc rv)):=hid fun W hW=>⟨h1.bel hW,k1.bel hW,k2.bel hW⟩
 have hgl:=hb.lt
 have KT:Hid (∀W W' uv' fv',Below W1.heap.size W1 W→Only [g] W W'→GtBlk W' g si x uv' fv'→(W'.cell? ⟨si,0,none⟩=some (ptrV m)∧W'.cell? ⟨w.heap.size,0,none⟩=some (ptrV g)∧W'.cell? ⟨g,0,none⟩=some (ptrV si)∧W'.cell? ⟨g,1,none⟩=some (.int .i64 x.client)∧W'.cell? ⟨g,6,none⟩=some (.int .u64 x.at'))):=hid fun W W' uv' fv' hW ho hB=>
  ⟨(ho.cell (p:=⟨si,0,none⟩) (World.block_lt_of_cell? _ _ (cell_bel hW hs1)) (by simpa using hne)).trans (cell_bel hW hs1),(ho.cell (p:=⟨w.heap.size,0,none⟩) (k1.bel hW).lt (by simp;omega)).trans (cell_bel hW (k1.cell 0)),hB.cell 0,hB.cell 1,hB.cell 6⟩
 have HX:=hid (⟨hb1,hgl⟩:_∧_)
 have HW:=hid hW1
 have LZ: ∀W,Calls Tryz.prog 159 #[.int .u64 x.at'] W _:=Lines_z x.at' hat
 have LZ:=hid LZ
 obtain⟨s0,s1,s2,s3,s4⟩:=KS.out W1.drew (Below.drew (Below.refl _ _))
 clear hW1 hb1 k1 k2 h1 hs1 hb hsi hgl
 go_enter Tryz.func123,Tryz.ntmps123
 go_upto_region 1 with fail
 rw[show _=W1 from HW.out.symm]
 go_region_held3 (fun W=>W.cell? ⟨si,0,none⟩=some (ptrV m)∧W.cell? ⟨w.heap.size,0,none⟩=some (ptrV g)∧W.cell? ⟨g,0,none⟩=some (ptrV si)∧W.cell? ⟨g,1,none⟩=some (.int .i64 x.client)∧W.cell? ⟨g,6,none⟩=some (.int .u64 x.at')) (first | go_keep | (exact sC) | (exact⟨s0,s1,s2,s3,s4⟩))
  (first | (go_at_call 66;refine(XMem_e (by assumption)).mono ?_;rintro e w5 ⟨rfl,rfl⟩) | (go_at_call 159;refine(LZ.out _).mono ?_;rintro e w5 ⟨lb,rfl,hn,hb5⟩;have hw5:=bx (Below.drew (Below.refl _ W1)) hb5;have sC:=KS.out w5 hw5;have HN:=hid hn;have HW5:=hid hw5;clear hn hb5 hw5) | (go_at_call 158;refine(LtNew_z m x.client _ (linesL x.at') _ HN.out (by simp[linesL]) (by simp[linesL])).mono ?_;rintro e w6 ⟨lg,lr,rfl,hlg,hlr,hlt,hb6⟩;have hw6:=bx HW5.out hb6;have sC:=KS.out w6 hw6;have H6:=hid (⟨Nat.le_trans HW5.out.size hlg,Nat.le_trans HW5.out.size hlr,hlt,hw6⟩:_∧_∧_∧_);clear hlg hlr hlt hb6 hw6) | (go_at_call 72;refine(To_z si g x uv fv _ _ _ _ _ _ (KB.out _ H6.out.2.2.2).1).mono ?_;rintro e w7 ⟨rfl,hB7,ho7⟩;have sC:=KT.out w6 w7 _ _ H6.out.2.2.2 ho7 hB7;have H7:=hid (⟨hB7,ho7⟩:_∧_);clear hB7 ho7))
 all_goals
  go_wp2_with fail
  refine bodyPost_end (v:= .tuple #[]) (by simp[results,Tryz.results123,go_sem]) rfl ?_
  exact last_fin HX.out.2 HX.out.1 (by rw[HW.out,World.size_alloc,World.size_alloc]) H6.out.1 H6.out.2.1 H6.out.2.2.1 H6.out.2.2.2 (KB.out _ H6.out.2.2.2).2.1 (KB.out _ H6.out.2.2.2).2.2 H7.out.1 H7.out.2
end Go.Proofs.YtjmaicckkkdjpaaGreat
/- A get goes on to see whether a leaf is as it was; to a walk; to a value. -/
namespace Go.Proofs.YtjmaicckkkdjpaaGreat
open Go.RowKit
attribute [local go_sem ↓ high] nodeLoadAt nodeLoadVar nodeStoreAt rsLoadAt rsLoadVar rsStoreAt gtBuild rsBuild
attribute [local go_sem] ldM_run lvM_run stM_run Oper.semAt_some run_store_fnG bldMg_run neFnE neFnEG
theorem StIs.only {w w':World} {m g:Nat} {n:NodeA} {x:StP} {ks:List Nat} (h:StIs w m g n x) (ho:Only ks w w') (hg:g∉ks):StIs w' m g n x:=⟨ho.blk h.blk hg,h.nx,h.ct⟩
theorem StIs.bel {w w':World} {m g:Nat} {n:NodeA} {x:StP} (h:StIs w m g n x) (hb:Below w.heap.size w w'):StIs w' m g n x:=⟨h.blk.bel hb,h.nx,h.ct⟩
theorem still_fin {si m g sg bs:Nat} {x:GtP} {w w6 w7:World} (hg:g<w.heap.size) (h6:Below w.heap.size w w6) (k1:w6.cell? ⟨w.heap.size,0,none⟩=some (ptrV g)) (hs:StIs w6 m sg x.leaf (stNew x.at' x.leaf)) (kb:w6.cell? ⟨bs,0,none⟩=some (ptrV sg))
  (hsg:w.heap.size<sg) (hbs:w.heap.size<bs) (hne:sg≠bs) (hB:GtBlk w7 g si x (.iface 272 (ptrV sg)) (clV 163 w.heap.size bs)) (ho:Only [g] w6 w7):
  GtGo si m g { x with u:= .still (stNew x.at' x.leaf) } w (.tuple #[]) (.returned (.tuple #[])) w7:=by
 refine⟨rfl,[sg]++[w.heap.size,bs],⟨⟨_,_,[sg],[w.heap.size,bs],hB,⟨sg,w.heap.size,bs,rfl,rfl,hs.only ho (by simp;omega),(ho.cell (World.block_lt_of_cell? _ _ k1) (by simp;omega)).trans k1,(ho.cell (World.block_lt_of_cell? _ _ kb) (by simp;omega)).trans kb,rfl,rfl⟩,rfl,?_⟩,?_⟩,?_,?_⟩
 ·intro z hz
  simp at hz ⊢
  omega
 ·simp;omega
 ·intro z hz
  simp at hz
  omega
 ·exact(Only.of_below h6 [g]).trans ho (fun y hy=>Or.inl hy)
theorem StillG_z (si m g:Nat) (x:GtP) (uv fv:Value) (w:World) (hb:GtBlk w g si x uv fv) (hsi:w.cell? ⟨si,0,none⟩=some (ptrV m)):
  Calls Tryz.prog 127 #[ptrV g] w (GtGo si m g { x with u:= .still (stNew x.at' x.leaf) } w (.tuple #[])):=by
 obtain⟨W1,hW1⟩: ∃W1,W1=w.alloc (.cells #[ptrV g] 29):=⟨_,rfl⟩
 have hb1:Below w.heap.size w W1:=by rw[hW1];exact ba (Below.refl _ _) _
 have k1:Blk W1 w.heap.size 29 #[ptrV g]:=by rw[hW1];exact Blk.new _ _ _
 have h1:=hb.bel hb1
 have hs1:=cell_bel hb1 hsi
 have KS:Hid (∀W,Below W1.heap.size W1 W→(W.cell? ⟨si,0,none⟩=some (ptrV m)∧W.cell? ⟨w.heap.size,0,none⟩=some (ptrV g)∧W.cell? ⟨g,0,none⟩=some (ptrV si)∧W.cell? ⟨g,6,none⟩=some (.int .u64 x.at')∧ldR Tryz.prog 77 (.pointer (some ⟨g,7,none⟩)) W= .ok (.agg (nodeC x.leaf)) W)):=hid fun W hW=>
  ⟨cell_bel hW hs1,cell_bel hW (k1.cell 0),cell_bel hW (h1.cell 0),cell_bel hW (h1.cell 6),GtBlk.ldn (h1.bel hW)⟩
 have KB:Hid (∀W,Below W1.heap.size W1 W→GtBlk W g si x uv fv):=hid fun W hW=>h1.bel hW
 have hgl:=hb.lt
 have HX:=hid (⟨hb1,hgl⟩:_∧_)
 have HZ:Hid (W1.heap.size=w.heap.size+1):=hid (by rw[hW1,World.size_alloc])
 have HW:=hid hW1
 have SZ: ∀W,Calls Tryz.prog 162 #[ptrV m,.int .u64 x.at',.agg (nodeC x.leaf)] W _:=StNew_z m x.at' x.leaf
 have SZ:=hid SZ
 clear hW1 hb1 k1 h1 hs1 hb hsi hgl
 go_enter Tryz.func127,Tryz.ntmps127
 go_upto_region 1 with fail
 rw[show _=W1 from HW.out.symm]
 go_region_held3 (fun W=>W.cell? ⟨si,0,none⟩=some (ptrV m)∧W.cell? ⟨w.heap.size,0,none⟩=some (ptrV g)∧W.cell? ⟨g,0,none⟩=some (ptrV si)∧W.cell? ⟨g,6,none⟩=some (.int .u64 x.at')∧ldR Tryz.prog 77 (.pointer (some ⟨g,7,none⟩)) W= .ok (.agg (nodeC x.leaf)) W) (first | (refine KS.out _ ?_;(repeat(first | assumption | exact Below.refl _ _ | refine Below.drew ?_ | refine ba ?_ _ | refine Below.setCell ?_ (by first | exact Nat.le_refl _ | exact Below.size (by assumption)) _));done))
  (first | (go_at_call 66;refine(XMem_e (by assumption)).mono ?_;rintro e w5 ⟨rfl,rfl⟩) | (go_at_call 162;refine(SZ.out _).mono ?_;rintro e w5 ⟨sg,rfl,hsg,hst,hb5⟩;have hw5:Below W1.heap.size W1 w5:=bx (by(repeat(first | assumption | exact Below.refl _ _ | refine Below.drew ?_ | refine ba ?_ _ | refine Below.setCell ?_ (by first | exact Nat.le_refl _ | exact Below.size (by assumption)) _))) hb5;(try(have kb5:Blk w5 W1.heap.size 272 #[.pointer none]:=(Blk.drew (Blk.new W1 272 #[.pointer none])).bel hb5;have cb5:=kb5.cell 0;have fb5:=kb5.frozen 0;have KB5:=hid kb5;clear kb5));have H5:=hid (⟨hsg,hst,hb5⟩:_∧_∧_);clear hsg hst hb5))
 all_goals
  first
  |
   (obtain⟨V,hV⟩: ∃V,V=w5.alloc (.cells #[.pointer (some ⟨sg,0,none⟩)] 272):=⟨_,rfl⟩
    obtain⟨bs,hbs⟩: ∃bs,bs=w5.heap.size:=⟨_,rfl⟩
    rw[show _=V from hV.symm]
    rw[show w5.heap.size=bs from hbs.symm]
    have hbV:Below W1.heap.size W1 V:=by rw[hV];exact ba hw5 _
    obtain⟨t0,t1,t2,t3,t4⟩:=KS.out V hbV
    have tb:V.cell? ⟨bs,0,none⟩=some (ptrV sg):=by rw[hV,hbs];exact(Blk.new w5 272 #[ptrV sg]).cell 0
    have hsV:StIs V m sg x.leaf (stNew x.at' x.leaf):=by rw[hV];exact H5.out.2.1.bel (ba (Below.refl _ _) _)
    have HS:=hid (⟨hsV,hbV,tb,t1⟩:_∧_∧_∧_)
    have hbs1:w.heap.size<bs:=by rw[hbs];have:=hw5.size;have:=HZ.out;omega
    have hne:sg≠bs:=by rw[hbs];have:=H5.out.2.1.blk.lt;omega
    have hsg1:w.heap.size<sg:=by have:=H5.out.1;have:=HZ.out;(try simp only[World.size_alloc,World.size_drew] at*);omega
    have HN:=hid (⟨hbs1,hne,hsg1⟩:_∧_∧_)
    have TZ:Hid (∀fn c1 c2,Calls Tryz.prog 72 #[ptrV g,.iface 272 (ptrV sg),.func fn c1 c2] V fun e w'=>e= .returned (.tuple #[])∧GtBlk w' g si x (.iface 272 (ptrV sg)) (.func fn c1 c2)∧Only [g] V w'):=hid fun fn c1 c2=>To_z si g x uv fv _ _ _ _ _ V (KB.out V hbV)
    clear hV hbs hbV hsV t0 t2 t3 t4 hbs1 hne hsg1
    go_wp2_with fail
    refine(TZ.out _ _ _).mono ?_
    rintro e w7 ⟨rfl,hB7,ho7⟩
    have H7:=hid (⟨hB7,ho7⟩:_∧_)
    clear hB7 ho7
    go_wp2_with fail
    refine bodyPost_end (v:= .tuple #[]) (by simp[results,Tryz.results127,go_sem]) rfl ?_
    exact still_fin HX.out.2 (HX.out.1.trans (HS.out.2.1.mono HX.out.1.size)) HS.out.2.2.2 HS.out.1 HS.out.2.2.1 HN.out.2.2 HN.out.1 HN.out.2.1 H7.out.1 H7.out.2)
  |
   (obtain⟨V,hV⟩: ∃V,V=w5.setCell ⟨W1.heap.size,0,none⟩ (.pointer (some ⟨sg,0,none⟩)):=⟨_,rfl⟩
    obtain⟨bs,hbs⟩: ∃bs,bs=W1.heap.size:=⟨_,rfl⟩
    rw[show _=V from hV.symm]
    rw[show W1.heap.size=bs from hbs.symm]
    have hbV:Below W1.heap.size W1 V:=by rw[hV];exact Below.setCell hw5 (Nat.le_refl _) _
    obtain⟨t0,t1,t2,t3,t4⟩:=KS.out V hbV
    have tb:V.cell? ⟨bs,0,none⟩=some (ptrV sg):=by rw[hV,hbs];exact(KB5.out.set_ 0 (ptrV sg)).cell 0
    have hsV:StIs V m sg x.leaf (stNew x.at' x.leaf):=by rw[hV];exact H5.out.2.1.only (ks:=[W1.heap.size]) (Only.setCell (Only.refl _ _) (Or.inl (by simp)) _) (by have h:=H5.out.1;change(W1.alloc _).heap.size≤sg at h;rw[World.size_alloc] at h;simp;omega)
    have HS:=hid (⟨hsV,hbV,tb,t1⟩:_∧_∧_∧_)
    have hbs1:w.heap.size<bs:=by rw[hbs];have:=HZ.out;omega
    have hne:sg≠bs:=by rw[hbs];have h:=H5.out.1;change(W1.alloc _).heap.size≤sg at h;rw[World.size_alloc] at h;omega
    have hsg1:w.heap.size<sg:=by have:=H5.out.1;have:=HZ.out;(try simp only[World.size_alloc,World.size_drew] at*);omega
    have HN:=hid (⟨hbs1,hne,hsg1⟩:_∧_∧_)
    have TZ:Hid (∀fn c1 c2,Calls Tryz.prog 72 #[ptrV g,.iface 272 (ptrV sg),.func fn c1 c2] V fun e w'=>e= .returned (.tuple #[])∧GtBlk w' g si x (.iface 272 (ptrV sg)) (.func fn c1 c2)∧Only [g] V w'):=hid fun fn c1 c2=>To_z si g x uv fv _ _ _ _ _ V (KB.out V hbV)
    clear hV hbs hbV hsV t0 t2 t3 t4 hbs1 hne hsg1
    go_wp2_with fail
    refine(TZ.out _ _ _).mono ?_
    rintro e w7 ⟨rfl,hB7,ho7⟩
    have H7:=hid (⟨hB7,ho7⟩:_∧_)
    clear hB7 ho7
    go_wp2_with fail
    refine bodyPost_end (v:= .tuple #[]) (by simp[results,Tryz.results127,go_sem]) rfl ?_
    exact still_fin HX.out.2 (HX.out.1.trans (HS.out.2.1.mono HX.out.1.size)) HS.out.2.2.2 HS.out.1 HS.out.2.2.1 HN.out.2.2 HN.out.1 HN.out.2.1 H7.out.1 H7.out.2)
end Go.Proofs.YtjmaicckkkdjpaaGreat
/- A get goes on to a walk. -/
namespace Go.Proofs.YtjmaicckkkdjpaaGreat
open Go.RowKit
attribute [local go_sem ↓ high] nodeLoadAt nodeLoadVar nodeStoreAt rsLoadAt rsLoadVar rsStoreAt gtBuild rsBuild
attribute [local go_sem] ldM_run lvM_run stM_run Oper.semAt_some run_store_fnG bldMg_run neFnE neFnEG
theorem WkIs.bel {w w':World} {si m g:Nat} {x:WkP} {f:List Nat} (h:WkIs w si m g x f) (hb:Below w.heap.size w w'):WkIs w' si m g x f:=h.only (Only.of_below hb []) (by simp) (by simp)
theorem walk_fin {si m g sg bs:Nat} {x:GtP} {w w6 w7:World} (hg:g<w.heap.size) (h6:Below w.heap.size w w6) (k1:w6.cell? ⟨w.heap.size,0,none⟩=some (ptrV g)) (hs:WkIs w6 si m sg (wkNew x.client x.key 0) []) (kb:w6.cell? ⟨bs,0,none⟩=some (ptrV sg))
  (hsg:w.heap.size<sg) (hbs:w.heap.size<bs) (hne:sg≠bs) (hB:GtBlk w7 g si x (.iface 171 (ptrV sg)) (clV 73 w.heap.size bs)) (ho:Only [g] w6 w7):
  GtGo si m g { x with u:= .walk (wkNew x.client x.key 0) } w (.tuple #[]) (.returned (.tuple #[])) w7:=by
 refine⟨rfl,[sg]++[w.heap.size,bs],⟨⟨_,_,[sg],[w.heap.size,bs],hB,⟨sg,[],w.heap.size,bs,rfl,rfl,hs.only ho (by simp;omega) (by simp),(ho.cell (World.block_lt_of_cell? _ _ k1) (by simp;omega)).trans k1,(ho.cell (World.block_lt_of_cell? _ _ kb) (by simp;omega)).trans kb,rfl,rfl⟩,rfl,?_⟩,?_⟩,?_,?_⟩
 ·intro z hz
  simp at hz ⊢
  omega
 ·simp;omega
 ·intro z hz
  simp at hz
  omega
 ·exact(Only.of_below h6 [g]).trans ho (fun y hy=>Or.inl hy)
theorem WalkG_z (si m g:Nat) (x:GtP) (uv fv:Value) (w:World) (hb:GtBlk w g si x uv fv):
  Calls Tryz.prog 43 #[ptrV g] w (GtGo si m g { x with u:= .walk (wkNew x.client x.key 0) } w (.tuple #[])):=by
 obtain⟨W1,hW1⟩: ∃W1,W1=w.alloc (.cells #[ptrV g] 29):=⟨_,rfl⟩
 have hb1:Below w.heap.size w W1:=by rw[hW1];exact ba (Below.refl _ _) _
 have k1:Blk W1 w.heap.size 29 #[ptrV g]:=by rw[hW1];exact Blk.new _ _ _
 have h1:=hb.bel hb1
 have KS:Hid (∀W,Below W1.heap.size W1 W→(W.cell? ⟨w.heap.size,0,none⟩=some (ptrV g)∧W.cell? ⟨g,0,none⟩=some (ptrV si)∧W.cell? ⟨g,1,none⟩=some (.int .i64 x.client)∧W.cell? ⟨g,2,none⟩=some (.int .u64 x.key))):=hid fun W hW=>
  ⟨cell_bel hW (k1.cell 0),cell_bel hW (h1.cell 0),cell_bel hW (h1.cell 1),cell_bel hW (h1.cell 2)⟩
 have KB:Hid (∀W,Below W1.heap.size W1 W→GtBlk W g si x uv fv):=hid fun W hW=>h1.bel hW
 have hgl:=hb.lt
 have HX:=hid (⟨hb1,hgl⟩:_∧_)
 have HZ:Hid (W1.heap.size=w.heap.size+1):=hid (by rw[hW1,World.size_alloc])
 have HW:=hid hW1
 have SZ: ∀W,Calls Tryz.prog 71 #[ptrV si,.int .i64 x.client,.int .u64 x.key,.int .i64 0] W _:=WkNew_z si x.client x.key 0
 have SZ:=hid SZ
 clear hW1 hb1 k1 h1 hb hgl
 go_enter Tryz.func43,Tryz.ntmps43
 go_upto_region 1 with fail
 rw[show _=W1 from HW.out.symm]
 go_region_held3 (fun W=>W.cell? ⟨w.heap.size,0,none⟩=some (ptrV g)∧W.cell? ⟨g,0,none⟩=some (ptrV si)∧W.cell? ⟨g,1,none⟩=some (.int .i64 x.client)∧W.cell? ⟨g,2,none⟩=some (.int .u64 x.key)) (first | (refine KS.out _ ?_;(repeat(first | assumption | exact Below.refl _ _ | refine Below.drew ?_ | refine ba ?_ _ | refine Below.setCell ?_ (by first | exact Nat.le_refl _ | exact Below.size (by assumption)) _));done))
  (first | (go_at_call 71;refine(SZ.out _).mono ?_;rintro e w5 ⟨sg,rfl,hsg,hst,hb5⟩;have hw5:Below W1.heap.size W1 w5:=bx (by(repeat(first | assumption | exact Below.refl _ _ | refine Below.drew ?_ | refine ba ?_ _ | refine Below.setCell ?_ (by first | exact Nat.le_refl _ | exact Below.size (by assumption)) _))) hb5;(try(have kb5:Blk w5 W1.heap.size 171 #[.pointer none]:=(Blk.drew (Blk.new W1 171 #[.pointer none])).bel hb5;have cb5:=kb5.cell 0;have fb5:=kb5.frozen 0;have KB5:=hid kb5;clear kb5));have H5:=hid (⟨hsg,hst,hb5⟩:_∧_∧_);clear hsg hst hb5))
 all_goals
  first
  |
   (obtain⟨V,hV⟩: ∃V,V=w5.alloc (.cells #[.pointer (some ⟨sg,0,none⟩)] 171):=⟨_,rfl⟩
    obtain⟨bs,hbs⟩: ∃bs,bs=w5.heap.size:=⟨_,rfl⟩
    rw[show _=V from hV.symm]
    rw[show w5.heap.size=bs from hbs.symm]
    have hbV:Below W1.heap.size W1 V:=by rw[hV];exact ba hw5 _
    obtain⟨t1,t2,t3,t4⟩:=KS.out V hbV
    have tb:V.cell? ⟨bs,0,none⟩=some (ptrV sg):=by rw[hV,hbs];exact(Blk.new w5 171 #[ptrV sg]).cell 0
    have hsV:WkIs V si m sg (wkNew x.client x.key 0) []:=by rw[hV];exact(H5.out.2.1 m).bel (ba (Below.refl _ _) _)
    have HS:=hid (⟨hsV,hbV,tb,t1⟩:_∧_∧_∧_)
    have hbs1:w.heap.size<bs:=by rw[hbs];have:=hw5.size;have:=HZ.out;omega
    have hne:sg≠bs:=by rw[hbs];have:=(H5.out.2.1 m).lt.1;omega
    have hsg1:w.heap.size<sg:=by have:=H5.out.1;have:=HZ.out;(try simp only[World.size_alloc,World.size_drew] at*);omega
    have HN:=hid (⟨hbs1,hne,hsg1⟩:_∧_∧_)
    have TZ:Hid (∀fn c1 c2,Calls Tryz.prog 72 #[ptrV g,.iface 171 (ptrV sg),.func fn c1 c2] V fun e w'=>e= .returned (.tuple #[])∧GtBlk w' g si x (.iface 171 (ptrV sg)) (.func fn c1 c2)∧Only [g] V w'):=hid fun fn c1 c2=>To_z si g x uv fv _ _ _ _ _ V (KB.out V hbV)
    clear hV hbs hbV hsV t2 t3 t4 hbs1 hne hsg1
    go_wp2_with fail
    refine(TZ.out _ _ _).mono ?_
    rintro e w7 ⟨rfl,hB7,ho7⟩
    have H7:=hid (⟨hB7,ho7⟩:_∧_)
    clear hB7 ho7
    go_wp2_with fail
    refine bodyPost_end (v:= .tuple #[]) (by simp[results,Tryz.results43,go_sem]) rfl ?_
    exact walk_fin HX.out.2 (HX.out.1.trans (HS.out.2.1.mono HX.out.1.size)) HS.out.2.2.2 HS.out.1 HS.out.2.2.1 HN.out.2.2 HN.out.1 HN.out.2.1 H7.out.1 H7.out.2)
  |
   (obtain⟨V,hV⟩: ∃V,V=w5.setCell ⟨W1.heap.size,0,none⟩ (.pointer (some ⟨sg,0,none⟩)):=⟨_,rfl⟩
    obtain⟨bs,hbs⟩: ∃bs,bs=W1.heap.size:=⟨_,rfl⟩
    rw[show _=V from hV.symm]
    rw[show W1.heap.size=bs from hbs.symm]
    have hbV:Below W1.heap.size W1 V:=by rw[hV];exact Below.setCell hw5 (Nat.le_refl _) _
    obtain⟨t1,t2,t3,t4⟩:=KS.out V hbV
    have tb:V.cell? ⟨bs,0,none⟩=some (ptrV sg):=by rw[hV,hbs];exact(KB5.out.set_ 0 (ptrV sg)).cell 0
    have hsV:WkIs V si m sg (wkNew x.client x.key 0) []:=by rw[hV];exact(H5.out.2.1 m).only (ks:=[W1.heap.size]) (Only.setCell (Only.refl _ _) (Or.inl (by simp)) _) (hf:=by simp) (hg:=by have h:=H5.out.1;change(W1.alloc _).heap.size≤sg at h;rw[World.size_alloc] at h;simp;omega)
    have HS:=hid (⟨hsV,hbV,tb,t1⟩:_∧_∧_∧_)
    have hbs1:w.heap.size<bs:=by rw[hbs];have:=HZ.out;omega
    have hne:sg≠bs:=by rw[hbs];have h:=H5.out.1;change(W1.alloc _).heap.size≤sg at h;rw[World.size_alloc] at h;omega
    have hsg1:w.heap.size<sg:=by have:=H5.out.1;have:=HZ.out;(try simp only[World.size_alloc,World.size_drew] at*);omega
    have HN:=hid (⟨hbs1,hne,hsg1⟩:_∧_∧_)
    have TZ:Hid (∀fn c1 c2,Calls Tryz.prog 72 #[ptrV g,.iface 171 (ptrV sg),.func fn c1 c2] V fun e w'=>e= .returned (.tuple #[])∧GtBlk w' g si x (.iface 171 (ptrV sg)) (.func fn c1 c2)∧Only [g] V w'):=hid fun fn c1 c2=>To_z si g x uv fv _ _ _ _ _ V (KB.out V hbV)
    clear hV hbs hbV hsV t2 t3 t4 hbs1 hne hsg1
    go_wp2_with fail
    refine(TZ.out _ _ _).mono ?_
    rintro e w7 ⟨rfl,hB7,ho7⟩
    have H7:=hid (⟨hB7,ho7⟩:_∧_)
    clear hB7 ho7
    go_wp2_with fail
    refine bodyPost_end (v:= .tuple #[]) (by simp[results,Tryz.results43,go_sem]) rfl ?_
    exact walk_fin HX.out.2 (HX.out.1.trans (HS.out.2.1.mono HX.out.1.size)) HS.out.2.2.2 HS.out.1 HS.out.2.2.1 HN.out.2.2 HN.out.1 HN.out.2.1 H7.out.1 H7.out.2)
end Go.Proofs.YtjmaicckkkdjpaaGreat
