import Derived.Test.YtjmaicckkkdjpaaGreatF40
set_option maxRecDepth 100000
set_option maxHeartbeats 4000000
set_option linter.unusedVariables false
set_option linter.unusedSimpArgs false
/- What a scan does behind the look whether its leaf is as it was. -/
namespace Go.Proofs.YtjmaicckkkdjpaaGreat
open Go.RowKit
attribute [local go_sem ↓ high] nodeLoadAt nodeLoadVar nodeStoreAt scBuild lfBuild lfStoreAt
attribute [local go_sem] ldM_run lvM_run stM_run Oper.semAt_some run_store_fnG bldMg_run neFnE neFnEG
section
variable (si m g bg bs sg:Nat) (x:ScP) (R:SR) (y:StP) (uv fv:Value)
theorem SStillC_again (hov:y.over=true) (hsm:y.same=false) (htr:x.tries<4611686018427387904) (w:World) (hb:ScBlk w g si x R uv fv) (hr:ScRows w x.want x.got x.pairs R) (hgr:g∉R.bl) (hs:StIs w m sg x.leaf y) (hg:w.cell? ⟨bg,0,none⟩=some (ptrV g)) (hsg:w.cell? ⟨bs,0,none⟩=some (ptrV sg)) (hbg:bg≠g):
  Calls Tryz.prog 177 #[.int .i64 0,.pointer (some ⟨bg,0,none⟩),.pointer (some ⟨bs,0,none⟩)] w (ScGo si m g R.bl ({ x with tries:=x.tries+1 }:ScP).again w):=by
 have ZZ:=hid (StSame_z m sg x.leaf y hov w hs)
 rw[hsm] at ZZ
 have c5:w.cell? ⟨g,35,none⟩=some (.int .i64 (x.tries:Int)):=hb.cell 35
 have f5:=hb.frozen 35
 have i1:IntKind.i64.wrap ((x.tries:Int)+1)=(x.tries:Int)+1:=by rw[IntKind.wrap_i64];omega
 obtain⟨V,hV⟩: ∃V,V=w.setCell ⟨g,35,none⟩ (.int .i64 ((x.tries:Int)+1)):=⟨_,rfl⟩
 have hBV:ScBlk V g si { x with tries:=x.tries+1 } R uv fv:=by rw[hV];exact hb.set_ 35 (.int .i64 ((x.tries:Int)+1))
 have hOV:Only [g] w V:=by rw[hV];exact(by repeat(first | exact Only.refl _ _ | (refine Only.drew ?_) | (refine Only.drewN ?_ _) | (refine Only.setCell ?_ (Or.inl (by simp)) _) | (refine Only.alloc ?_ _)))
 have vg:V.cell? ⟨bg,0,none⟩=some (ptrV g):=(hOV.cell (p:=⟨bg,0,none⟩) (World.block_lt_of_cell? _ _ hg) (by simpa using hbg)).trans hg
 have WZ:=hid (SWalk_z si m g { x with tries:=x.tries+1 } R uv fv V hBV (hr.only hOV (fun z hz hc=>by rw[List.mem_singleton.1 hc] at hz;exact hgr hz)) hgr)
 have HV:=hid (⟨hV,hOV⟩:_∧_)
 clear hV hBV hOV hb hs hbg htr hov hsm hr hgr
 go_enter Tryz.func177,Tryz.ntmps177
 go_wp2_with fail
 refine ZZ.out.mono ?_
 rintro e w1 ⟨rfl,rfl⟩
 go_upto_region 5 with fail
 rw[show _=V from HV.out.1.symm]
 go_wp2_with fail
 refine WZ.out.mono ?_
 intro e w2 hgo
 have he:=hgo.1
 subst he
 have HG:=hid hgo
 clear hgo WZ
 go_wp2_with fail
 refine bodyPost_end (v:= .tuple #[]) (by simp[results,Tryz.results177,go_sem]) rfl ?_
 exact HG.out.behind (HV.out.2.mono (by simp)) (fun z hz=>Or.inl hz)
theorem SStillC_why (hov:y.over=true) (hsm:y.same=true) (hy:x.why≠0) (w:World) (hb:ScBlk w g si x R uv fv) (hr:ScRows w x.want x.got x.pairs R) (hgr:g∉R.bl) (hs:StIs w m sg x.leaf y) (hg:w.cell? ⟨bg,0,none⟩=some (ptrV g)) (hsg:w.cell? ⟨bs,0,none⟩=some (ptrV sg)):
  Calls Tryz.prog 177 #[.int .i64 0,.pointer (some ⟨bg,0,none⟩),.pointer (some ⟨bs,0,none⟩)] w (ScAn si g R.bl (x.fin x.why) uv fv w):=by
 have ZZ:=hid (StSame_z m sg x.leaf y hov w hs)
 rw[hsm] at ZZ
 have c9:w.cell? ⟨g,33,none⟩=some (.int .i64 x.why):=hb.cell 33
 have b7:(x.why !=0)=true:=by simpa using hy
 have EZ:=hid (SEnd_z si g x R uv fv x.why w.drew hb.drew)
 have HX:=hid (⟨hr,hgr⟩:_∧_)
 clear hb hs hov hsm hr hgr hy
 go_enter Tryz.func177,Tryz.ntmps177
 go_wp2_with fail
 refine ZZ.out.mono ?_
 rintro e w1 ⟨rfl,rfl⟩
 go_upto_region 7 with fail
 go_region_with
  (first | (go_at_call 67;refine EZ.out.mono ?_;intro e w2 hgo;have he:=hgo.1;subst he;have H:=hid hgo;clear hgo))
 all_goals
  go_wp2_with fail
  refine bodyPost_end (v:= .tuple #[]) (by simp[results,Tryz.results177,go_sem]) rfl ?_
  exact H.out.behind ((Only.refl _ _).drew) (fun z hz=>Or.inl hz) HX.out.2 (HX.out.1.only (Only.refl [] _).drew (by simp))
theorem SStillC_last (hov:y.over=true) (hsm:y.same=true) (hy:x.why=0) (hat:0≤x.at'∧x.at'≤1099511627776) (w:World) (hb:ScBlk w g si x R uv fv) (hr:ScRows w x.want x.got x.pairs R) (hgr:g∉R.bl) (hs:StIs w m sg x.leaf y) (hg:w.cell? ⟨bg,0,none⟩=some (ptrV g)) (hsg:w.cell? ⟨bs,0,none⟩=some (ptrV sg)) (hsi:w.cell? ⟨si,0,none⟩=some (ptrV m)) (hne:si≠g) (hbg:bg≠g):
  Calls Tryz.prog 177 #[.int .i64 0,.pointer (some ⟨bg,0,none⟩),.pointer (some ⟨bs,0,none⟩)] w (ScGo si m g R.bl { x with u:= .last ⟨x.client,linesL x.at',false⟩ } w):=by
 have ZZ:=hid (StSame_z m sg x.leaf y hov w hs)
 rw[hsm] at ZZ
 have c9:w.cell? ⟨g,33,none⟩=some (.int .i64 x.why):=hb.cell 33
 have b7:(x.why !=0)=false:=by simpa using hy
 have hgl:=hb.lt
 have KS:Hid (∀W,Below w.heap.size w W→(W.cell? ⟨si,0,none⟩=some (ptrV m)∧W.cell? ⟨bg,0,none⟩=some (ptrV g)∧W.cell? ⟨g,0,none⟩=some (ptrV si)∧W.cell? ⟨g,1,none⟩=some (.int .i64 x.client)∧W.cell? ⟨g,7,none⟩=some (.int .u64 x.at'))):=hid fun W hW=>
  ⟨cell_bel hW hsi,cell_bel hW hg,cell_bel hW (hb.cell 0),cell_bel hW (hb.cell 1),cell_bel hW (hb.cell 7)⟩
 have KB:Hid (∀W,Below w.heap.size w W→ScBlk W g si x R uv fv):=hid fun W hW=>hb.bel hW
 have KT:Hid (∀W W' uv' fv',Below w.heap.size w W→Only [g] W W'→ScBlk W' g si x R uv' fv'→(W'.cell? ⟨si,0,none⟩=some (ptrV m)∧W'.cell? ⟨bg,0,none⟩=some (ptrV g)∧W'.cell? ⟨g,0,none⟩=some (ptrV si)∧W'.cell? ⟨g,1,none⟩=some (.int .i64 x.client)∧W'.cell? ⟨g,7,none⟩=some (.int .u64 x.at'))):=hid fun W W' uv' fv' hW ho hB=>
  ⟨(ho.cell (p:=⟨si,0,none⟩) (World.block_lt_of_cell? _ _ (cell_bel hW hsi)) (by simpa using hne)).trans (cell_bel hW hsi),(ho.cell (p:=⟨bg,0,none⟩) (World.block_lt_of_cell? _ _ (cell_bel hW hg)) (by simpa using hbg)).trans (cell_bel hW hg),hB.cell 0,hB.cell 1,hB.cell 7⟩
 have HX:=hid (⟨hr,hgr,hgl⟩:_∧_∧_)
 have LZ: ∀W,Calls Tryz.prog 159 #[.int .u64 x.at'] W _:=Lines_z x.at' hat
 have LZ:=hid LZ
 have HS:=hid (⟨hg,hsg⟩:_∧_)
 clear hb hs hov hsm hr hgr hgl hsi hne hbg hat hy
 go_enter Tryz.func177,Tryz.ntmps177
 go_wp2_with fail
 refine ZZ.out.mono ?_
 rintro e w1 ⟨rfl,rfl⟩
 go_upto_region 0 with fail
 obtain⟨s0,s1,s2,s3,s4⟩:=KS.out w1.drew (Below.drew (Below.refl _ _))
 clear c9 hg hsg
 go_region_held3 (fun W=>W.cell? ⟨si,0,none⟩=some (ptrV m)∧W.cell? ⟨bg,0,none⟩=some (ptrV g)∧W.cell? ⟨g,0,none⟩=some (ptrV si)∧W.cell? ⟨g,1,none⟩=some (.int .i64 x.client)∧W.cell? ⟨g,7,none⟩=some (.int .u64 x.at')) (first | go_keep | (exact sC) | (exact⟨s0,s1,s2,s3,s4⟩))
  (first | (go_at_call 66;refine(XMem_e (by assumption)).mono ?_;rintro e w5 ⟨rfl,rfl⟩) | (go_at_call 159;refine(LZ.out _).mono ?_;rintro e w5 ⟨lb,rfl,hn,hb5⟩;have hw5:=bx (Below.drew (Below.refl _ w1)) hb5;have sC:=KS.out w5 hw5;have HN:=hid hn;have HW5:=hid hw5;clear hn hb5 hw5) | (go_at_call 158;refine(LtNew_z m x.client _ (linesL x.at') _ HN.out (by simp[linesL]) (by simp[linesL])).mono ?_;rintro e w6 ⟨lg,lr,rfl,hlg,hlr,hlt,hb6⟩;have hw6:=bx HW5.out hb6;have sC:=KS.out w6 hw6;have H6:=hid (⟨Nat.le_trans HW5.out.size hlg,Nat.le_trans HW5.out.size hlr,hlt,hw6⟩:_∧_∧_∧_);clear hlg hlr hlt hb6 hw6) | (go_at_call 112;refine(STo_z si g x R uv fv _ _ _ _ _ _ (KB.out _ H6.out.2.2.2)).mono ?_;rintro e w7 ⟨rfl,hB7,ho7⟩;have sC:=KT.out w6 w7 _ _ H6.out.2.2.2 ho7 hB7;have H7:=hid (⟨hB7,ho7⟩:_∧_);clear hB7 ho7))
 all_goals
  go_wp2_with fail
  refine bodyPost_end (v:= .tuple #[]) (by simp[results,Tryz.results177,go_sem]) rfl ?_
  exact sc_fin HX.out.2.2 H6.out.2.2.2 HX.out.1 HX.out.2.1 (us:=[lg,lr]) (bs:=[]) ⟨lg,lr,rfl,rfl,H6.out.2.2.1,rfl,rfl⟩ (fun z hz=>by have:=H6.out.1;have:=H6.out.2.1;simp at hz;omega) (fun z hz=>by cases hz) H7.out.1 H7.out.2
end
end Go.Proofs.YtjmaicckkkdjpaaGreat
/- What a scan does behind a value. -/
namespace Go.Proofs.YtjmaicckkkdjpaaGreat
open Go.RowKit
attribute [local go_sem ↓ high] nodeLoadAt nodeLoadVar nodeStoreAt scBuild lfBuild lfStoreAt append_shut2
attribute [local go_sem] ldM_run lvM_run stM_run Oper.semAt_some run_store_fnG bldMg_run neFnE neFnEG appM2_run
theorem got_app {W:World} {want:List (Int×Int)} {got pairs:List (Int×ByteArray)} {R:SR} (hr:ScRows W want got pairs R) (q:Int) (s:ByteArray) (hl:got.length≤1000000):
  ∃va vc w9,appRun2 Tryz.prog #[39,39] 39 #[R.gv,.slice (some ⟨W.heap.size,0,none⟩) 1 1] (W.alloc (.cells #[.int .u64 q,.string s] 96))= .ok (.slice va (got.length+1) vc) w9∧ScRows w9 want (got++[(q,s)]) pairs { R with gv:= .slice va (got.length+1) vc }∧Only R.gv.ownBlock.toList W w9∧
   ∀b,(Value.slice va (got.length+1) vc).ownBlock=some b→R.gv.ownBlock=some b∨W.heap.size≤b:=by
 obtain⟨i0,hi0,hz0,hz1,hz2⟩:=info_parts infoPair
 have hoA:Only [] W (W.alloc (.cells #[.int .u64 q,.string s] 96)):=(Only.refl [] W).alloc _
 have hr1:=hr.only hoA (by simp)
 have hB:=Blk.new W 96 #[.int .u64 q,.string s]
 obtain⟨v',w9,r⟩:=run_app (P:=Tryz.prog) (W.alloc (.cells #[.int .u64 q,.string s] 96)) 0 39 39 96 i0 (.agg #[.int .u64 0,.string ⟨#[]⟩]) 2 24 Tryz.underlying39 hi0 hz0 hz1 hz2 rfl (by decide) R.gv got.length _ hr1.got (.slice (some ⟨W.heap.size,0,none⟩) 1 1) 1 (pc [(q,s)]) (Or.inr ⟨W.heap.size,0,1,rfl,fun j u hj=>by
  rw[hB.cell (0+j),Nat.zero_add];simpa[pc] using hj⟩) rfl (pc_one _) (by unfold maxLen;omega) (by omega) (Nat.zero_le _)
 obtain⟨va,vc,rfl⟩:=row_form1 r.own
 have ho:Only R.gv.ownBlock.toList (W.alloc (.cells #[.int .u64 q,.string s] 96)) w9:=Only.of_grown (f:=R.gv.ownBlock.toList) r.grown (fun y hy=>by simp[hy])
 have hob: ∀b,(Value.slice va (got.length+1) vc).ownBlock=some b→R.gv.ownBlock=some b∨W.heap.size≤b:=fun b hb=>by
  rcases r.ob with h | h
  ·exact Or.inl (h▸hb)
  ·rw[h] at hb;injection hb with hb;rw[World.size_alloc] at hb;exact Or.inr (by omega)
 have nw: ∀b,R.wv.ownBlock=some b→b∉R.gv.ownBlock.toList:=fun b hb h=>hr.wg b hb (by simpa using h)
 have np: ∀b,R.pv.ownBlock=some b→b∉R.gv.ownBlock.toList:=fun b hb h=>hr.gp b (by simpa using h) hb
 refine⟨va,vc,w9,r.run,⟨hr1.want.only ho nw,by rw[List.length_append,pc_append];exact r.own,ho.own hr1.pairs np,fun b hb h=> ?_,hr.wp,fun b hb h=> ?_,fun b hb=> ?_⟩,(hoA.mono (fun _ h=>by cases h)).trans ho (fun y hy=>Or.inl hy),hob⟩
 ·rcases hob b h with h | h
  ·exact hr.wg b hb h
  ·have:=hr.lt b (SR.bl_w hb);omega
 ·rcases hob b hb with h2 | h2
  ·exact hr.gp b h2 h
  ·have:=hr.lt b (SR.bl_p h);omega
 ·unfold SR.bl at hb
  rcases List.mem_append.1 hb with h | h
  ·exact Nat.lt_of_lt_of_le (hr1.lt b (SR.bl_w (by simpa using h))) ho.size
  ·rcases List.mem_append.1 h with h | h
   ·exact own_blt r.own (by simpa using h)
   ·exact Nat.lt_of_lt_of_le (hr1.lt b (SR.bl_p (by simpa using h))) ho.size
structure ScGot (si g:Nat) (x:ScP) (R:SR) (uv fv:Value) (q:Int) (s:ByteArray) (E:Int) (w:World) (va:Option Addr) (n vc:Nat) (w9 V:World):Prop where
 run:appRun2 Tryz.prog #[39,39] 39 #[R.gv,.slice (some ⟨w.heap.size,0,none⟩) 1 1] (w.alloc (.cells #[.int .u64 q,.string s] 96)).drew= .ok (.slice va n vc) w9
 val:V=(w9.setCell ⟨g,32,none⟩ (.slice va n vc)).setCell ⟨g,33,none⟩ (.int .i64 E)
 keep:Only R.gv.ownBlock.toList w w9
 cell:w9.cell? ⟨g,32,none⟩=some R.gv
 frozen:w9.frozen? ⟨g,32,none⟩=false
 cell2:(w9.setCell ⟨g,32,none⟩ (.slice va n vc)).cell? ⟨g,33,none⟩=some (.int .i64 x.why)
 frozen2:(w9.setCell ⟨g,32,none⟩ (.slice va n vc)).frozen? ⟨g,33,none⟩=false
 blk:ScBlk V g si { x with got:=x.got++[(q,s)],why:=E } { R with gv:= .slice va n vc } uv fv
 rows:ScRows V x.want (x.got++[(q,s)]) x.pairs { R with gv:= .slice va n vc }
 only:Only (g::R.bl) w V
 bl: ∀z∈({ R with gv:= .slice va n vc }:SR).bl,z∈R.bl∨w.heap.size≤z
 ne:g∉ ({ R with gv:= .slice va n vc }:SR).bl
theorem sc_got {si g:Nat} {x:ScP} {R:SR} {uv fv:Value} {w:World} (hb:ScBlk w g si x R uv fv) (hr:ScRows w x.want x.got x.pairs R) (hgr:g∉R.bl) (hl:x.got.length≤1000000) (q:Int) (s:ByteArray) (E:Int): ∃va vc w9 V,ScGot si g x R uv fv q s E w va (x.got.length+1) vc w9 V:=by
 obtain⟨va,vc,w9,hrun,hrows,ho,hob⟩:=got_app (hr.only (Only.refl [] w).drew (by simp)) q s hl
 have hgp:g∉R.gv.ownBlock.toList:=fun h=>hgr (SR.bl_g (by simpa using h))
 have hB9:ScBlk w9 g si x R uv fv:=ho.blk (Blk.drew hb) hgp
 have hbl: ∀z∈({ R with gv:= .slice va (x.got.length+1) vc }:SR).bl,z∈R.bl∨w.heap.size≤z:=fun z hz=>by
  unfold SR.bl at hz
  rcases List.mem_append.1 hz with h | h
  ·exact Or.inl (SR.bl_w (by simpa using h))
  ·rcases List.mem_append.1 h with h | h
   ·exact(hob z (by simpa using h)).imp SR.bl_g id
   ·exact Or.inl (SR.bl_p (by simpa using h))
 have hne:g∉ ({ R with gv:= .slice va (x.got.length+1) vc }:SR).bl:=fun h=>(hbl g h).elim hgr (fun h=>by have:=hb.lt;omega)
 have ho2:Only [g] w9 ((w9.setCell ⟨g,32,none⟩ (.slice va (x.got.length+1) vc)).setCell ⟨g,33,none⟩ (.int .i64 E)):=(by repeat(first | exact Only.refl _ _ | (refine Only.drew ?_) | (refine Only.drewN ?_ _) | (refine Only.setCell ?_ (Or.inl (by simp)) _) | (refine Only.alloc ?_ _)))
 have hB10:=hB9.set_ 32 (.slice va (x.got.length+1) vc)
 refine⟨va,vc,w9,_,hrun,rfl,((Only.refl [] w).drew.mono (fun _ h=>by cases h)).trans ho (fun y hy=>Or.inl hy),hB9.cell 32,hB9.frozen 32,hB10.cell 33,hB10.frozen 33,hB10.set_ 33 (.int .i64 E),hrows.only ho2 (fun z hz hc=>by rw[List.mem_singleton.1 hc] at hz;exact hne hz),?_,hbl,hne⟩
 exact((Only.refl [] w).drew.mono (fun _ h=>by cases h) |>.trans ho (fun y hy=>Or.inl (by have:y∈R.bl:=SR.bl_g (by simpa using hy);simp[this]))).trans ho2 (fun y hy=>Or.inl (by simp at hy;simp[hy]))
theorem SReadC_z (N si m g br bg be rg:Nat) (B:MB) (M:MemS) (x:ScP) (R:SR) (y:RdP) (lv uv fv:Value) (E pt:Int) (hd:y.done=true) (hle:x.got.length<x.want.length) (h8:x.want.length≤256) (w:World) (hm:MemIs w m B M) (hb:ScBlk w g si x R uv fv) (hr:ScRows w x.want x.got x.pairs R) (hgr:g∉R.bl)
  (hs:RdIs w N m rg y lv) (hg:w.cell? ⟨bg,0,none⟩=some (ptrV g)) (hrg:w.cell? ⟨br,0,none⟩=some (ptrV rg)) (hbe:Blk w be 130 #[.int .u64 x.ky,.int .u64 pt]) (hsi:w.cell? ⟨si,0,none⟩=some (ptrV m)) (hne:si≠g) (hsr:si∉R.bl) (hbg:bg≠g) (hbr:bg∉R.bl):
  Calls Tryz.prog 150 #[.int .i64 E,.pointer (some ⟨br,0,none⟩),.pointer (some ⟨bg,0,none⟩),.pointer (some ⟨be,0,none⟩)] w (ScGo si m g R.bl (x.took y) w):=by
 have VZ:=hid (RdValue_z N m rg B M y lv hd w hm hs)
 unfold ScP.took
 obtain⟨vs,hvs⟩: ∃vs,vs=if y.bad=0 then y.s else{ data:= #[] }:=⟨_,rfl⟩
 rw[←hvs] at VZ ⊢
 obtain⟨q,hq⟩: ∃q,q=x.ky:=⟨_,rfl⟩
 rw[show(x.want.getD x.got.length (0,0)).1=q from hq.symm]
 rw[←hq] at hbe
 obtain⟨e',he'⟩: ∃e',e'=y.bad:=⟨_,rfl⟩
 rw[←he'] at VZ ⊢
 have HX:=hid (⟨hb,hr,hgr,hbe,hsi,hg,hne,hsr,hbg,hbr,hle,h8⟩:_∧_∧_∧_∧_∧_∧_∧_∧_∧_∧_∧_)
 clear hb hr hgr hbe hsi hne hsr hbg hbr hm hs hvs hq hg hle h8 he'
 go_enter Tryz.func150,Tryz.ntmps150
 go_wp2_with fail
 refine VZ.out.mono ?_
 rintro e w2 ⟨rfl,hb2⟩
 clear VZ
 go_upto_region 1 with fail
 obtain⟨hb,hr,hgr,hbe,hsi,hg,hne,hsr,hbg,hbr,hle,h8⟩:=HX.out
 have hB2:=hb.bel hb2
 obtain⟨va,vc,w9,V,hA⟩:=sc_got hB2 (hr.bel hb2) hgr (by omega) q vs e'
 obtain⟨n,hn⟩: ∃n,n=x.got.length+1:=⟨_,rfl⟩
 rw[←hn] at hA
 have c0:w2.drew.cell? ⟨bg,0,none⟩=some (ptrV g):=cell_bel hb2 hg
 have c1:w2.drew.cell? ⟨g,32,none⟩=some R.gv:=hB2.cell 32
 have c2:w2.drew.cell? ⟨be,0,none⟩=some (.int .u64 q):=(hbe.bel hb2).cell 0
 have d0:(w2.alloc (.cells #[.int .u64 q,.string vs] 96)).drew.cell? ⟨bg,0,none⟩=some (ptrV g):=ca _ c0
 have d1:(w2.alloc (.cells #[.int .u64 q,.string vs] 96)).drew.cell? ⟨g,32,none⟩=some R.gv:=ca _ c1
 have d2:(w2.alloc (.cells #[.int .u64 q,.string vs] 96)).drew.cell? ⟨be,0,none⟩=some (.int .u64 q):=ca _ c2
 have x0:w9.cell? ⟨bg,0,none⟩=some (ptrV g):=(hA.keep.cell (p:=⟨bg,0,none⟩) (World.block_lt_of_cell? _ _ (cell_bel hb2 hg)) (fun h=>hbr (SR.bl_g (by simpa using h)))).trans (cell_bel hb2 hg)
 have r0:=hA.run
 have r1:=hA.cell
 have r2:=hA.frozen
 have r3:=hA.cell2
 have r4:=hA.frozen2
 have hbw:bg∉g::R.bl:=by simp;exact⟨hbg,hbr⟩
 have hsw:si∉g::R.bl:=by simp;exact⟨hne,hsr⟩
 have v0:V.cell? ⟨bg,0,none⟩=some (ptrV g):=(hA.only.cell (p:=⟨bg,0,none⟩) (World.block_lt_of_cell? _ _ (cell_bel hb2 hg)) hbw).trans (cell_bel hb2 hg)
 have v1:V.cell? ⟨si,0,none⟩=some (ptrV m):=(hA.only.cell (p:=⟨si,0,none⟩) (World.block_lt_of_cell? _ _ (cell_bel hb2 hsi)) hsw).trans (cell_bel hb2 hsi)
 have SZ:=hid (SRead_z si m g { x with u:= .read y,got:=x.got++[(q,vs)],why:=e' } _ uv fv (by show(x.got++[(q,vs)]).length≤x.want.length;simp;omega) h8 V hA.blk v1 hA.rows hA.ne)
 have HV:=hid hA.val
 have HH:=hid (⟨(Only.of_below hb2 (g::R.bl)).trans hA.only (fun y hy=>Or.inl hy),fun z hz=>(hA.bl z hz).imp id (fun h=>Nat.le_trans hb2.size h)⟩:_∧ ∀z∈({ R with gv:= .slice va n vc }:SR).bl,z∈R.bl∨w.heap.size≤z)
 clear hA hB2 hb hr hgr hbe hsi hg hne hsr hbg hbr hle h8 hb2 hbw hsw hn v1 HX
 go_region
 rw[show _=V from HV.out.symm]
 clear c0 c1 c2 d0 d1 d2 x0 r0 r1 r2 r3 r4
 go_wp2_with fail
 refine SZ.out.mono ?_
 intro e w3 hgo
 have he:=hgo.1
 subst he
 have HG:=hid hgo
 clear hgo SZ
 go_wp2_with fail
 refine bodyPost_end (v:= .tuple #[]) (by simp[results,Tryz.results150,go_sem]) rfl ?_
 exact HG.out.behind HH.out.1 HH.out.2
end Go.Proofs.YtjmaicckkkdjpaaGreat
