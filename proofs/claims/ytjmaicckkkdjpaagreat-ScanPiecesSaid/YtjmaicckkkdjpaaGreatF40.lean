import Derived.Test.YtjmaicckkkdjpaaGreatF39
import Derived.BigRegion
set_option maxRecDepth 100000
set_option maxHeartbeats 4000000
set_option linter.unusedVariables false
set_option linter.unusedSimpArgs false
/- A scan goes on to the next value, or to see whether its leaf is as it was. -/
namespace Go.Proofs.YtjmaicckkkdjpaaGreat
open Go.RowKit
attribute [local go_sem ↓ high] nodeLoadAt nodeLoadVar nodeStoreAt scBuild lfBuild lfStoreAt
attribute [local go_sem] ldM_run lvM_run stM_run Oper.semAt_some run_store_fnG bldMg_run neFnE neFnEG
theorem ScGo.ahead {si m g:Nat} {F:List Nat} {x:ScP} {w w2 w':World} {e:Ending} (h:ScGo si m g F x w2 e w') (hb:Below w.heap.size w w2):ScGo si m g F x w e w':=by
 obtain⟨h0,f',h1,h2,h3⟩:=h
 exact⟨h0,f',h1,fun z hz=>(h2 z hz).imp id (fun h=>Nat.le_trans hb.size h),(Only.of_below hb _).trans h3 (fun y hy=>Or.inl hy)⟩
theorem SRead_z (si m g:Nat) (x:ScP) (R:SR) (uv fv:Value) (hle:x.got.length≤x.want.length) (h8:x.want.length≤256) (w:World) (hb:ScBlk w g si x R uv fv) (hsi:w.cell? ⟨si,0,none⟩=some (ptrV m)) (hr:ScRows w x.want x.got x.pairs R) (hgr:g∉R.bl):
  Calls Tryz.prog 116 #[ptrV g] w (ScGo si m g R.bl x.read w):=by
 obtain⟨W0,hW0⟩: ∃W0,W0=w.alloc (.cells #[ptrV g] 89):=⟨_,rfl⟩
 have hb0:Below w.heap.size w W0:=by rw[hW0];exact ba (Below.refl _ _) _
 have k0:Blk W0 w.heap.size 89 #[ptrV g]:=by rw[hW0];exact Blk.new _ _ _
 have h0:=hb.bel hb0
 have hs0:=cell_bel hb0 hsi
 have hr0:=hr.bel hb0
 have hgl:=hb.lt
 have HZ0:Hid (W0.heap.size=w.heap.size+1):=hid (by rw[hW0,World.size_alloc])
 obtain⟨ga,gc,hgv⟩:=row_form1 hr.got
 obtain⟨wa,wc,hwv,hwe⟩:=hr0.want
 obtain⟨n,hn⟩: ∃n,n=x.got.length:=⟨_,rfl⟩
 obtain⟨k,hk⟩: ∃k,k=x.want.length:=⟨_,rfl⟩
 have c0:W0.cell? ⟨w.heap.size,0,none⟩=some (ptrV g):=k0.cell 0
 have c32:W0.cell? ⟨g,32,none⟩=some (.slice ga n gc):=by rw[hn,←hgv];exact h0.cell 32
 have c31:W0.cell? ⟨g,31,none⟩=some (.slice wa k wc):=by rw[hk,←hwv];exact h0.cell 31
 have c33:W0.cell? ⟨g,33,none⟩=some (.int .i64 x.why):=h0.cell 33
 have HW:=hid hW0
 have HB0:=hid (⟨hb0,hgl⟩:_∧_)
 by_cases hst:x.got.length=x.want.length∨x.why≠0
 ·have hx:x.read={ x with u:= .still (stNew x.at' x.leaf) }:=by unfold ScP.read;rw[if_pos hst]
  have SZ:=hid (SStill_z si m g x R uv fv W0 h0 hs0 hr0 hgr)
  rw[hx]
  have b1:(((n:Int)==(k:Int))=true∨((n:Int)==(k:Int))=false∧(x.why !=0)=true):=by
   rw[←hn,←hk] at hst
   by_cases e:n=k
   ·exact Or.inl (by simp[e])
   ·exact Or.inr ⟨by simpa using(by omega:(n:Int)≠k),by simpa using hst.resolve_left e⟩
  clear hb hW0 hb0 k0 h0 hs0 hr0 hgl hgv hwv hwe hr hgr hsi hx hle h8 hn hk hst
  go_enter Tryz.func116,Tryz.ntmps116
  go_upto_region 1 with fail
  rw[show _=W0 from HW.out.symm]
  rcases b1 with b1 | ⟨b1,b2⟩
  all_goals
   go_wp2_with fail
   refine SZ.out.mono ?_
   intro e w2 hgo
   have he:=hgo.1
   subst he
   have HG:=hid hgo
   clear hgo SZ
   go_wp2_with fail
   (try simp only[Exit.inBlock,Exit.then])
   refine bodyPost_ret (v:= .tuple #[]) (results_none rfl _ _ _) rfl ?_
   exact HG.out.ahead HB0.out.1
 ·have hx:x.read={ x with u:= .read (rdNew (x.want.getD x.got.length (0,0)).2) }:=by unfold ScP.read;rw[if_neg hst]
  rw[hx]
  have hlt:x.got.length<x.want.length:=by omega
  obtain⟨⟨key,pt⟩,hy⟩: ∃y,x.want[x.got.length]?=some y:=⟨_,List.getElem?_eq_getElem hlt⟩
  rw[List.getD_eq_getElem?_getD,hy]
  obtain⟨wb,wo,rfl,hwl,hwc⟩:=hwe.resolve_left (fun e=>by rw[e] at hlt;simp at hlt)
  obtain⟨e0,e1⟩:=hwc _ _ hy
  rw[←hn] at e0 e1
  have hky:x.ky=key:=by unfold ScP.ky;rw[List.getD_eq_getElem?_getD,hy];rfl
  have b1:((n:Int)==(k:Int))=false:=by simpa using(by omega:(n:Int)≠k)
  have b2:(x.why !=0)=false:=by have:x.why=0:=Classical.byContradiction fun e=>hst (Or.inr e);simpa using this
  have i0:(0:Int)≤(n:Int):=by omega
  have i1:(n:Int)< (k:Int):=by omega
  have HR:=hid (⟨hr,hgr⟩:_∧_)
  have HX:=hid (⟨h0,hs0,k0⟩:_∧_∧_)
  clear hb hW0 hb0 k0 h0 hs0 hr0 hgl hgv hwv hwc hr hgr hsi hx hle h8 hn hk hst hlt hy hwl
  go_enter Tryz.func116,Tryz.ntmps116
  go_upto_region 1 with fail
  rw[show _=W0 from HW.out.symm]
  go_upto_region 5 with fail
  obtain⟨W1,hW1⟩: ∃W1,W1=W0.alloc (.cells #[.int .u64 key,.int .u64 pt] 130):=⟨_,rfl⟩
  rw[show _=W1 from hW1.symm]
  have hb1:Below W0.heap.size W0 W1:=by rw[hW1];exact ba (Below.refl _ _) _
  have k1:Blk W1 W0.heap.size 130 #[.int .u64 x.ky,.int .u64 pt]:=by rw[hW1,hky];exact Blk.new _ _ _
  have h1:=HX.out.1.bel hb1
  have q1:=HX.out.2.2.bel hb1
  have hs1:=cell_bel hb1 HX.out.2.1
  have KS:Hid (∀W,Below W1.heap.size W1 W→(W.cell? ⟨si,0,none⟩=some (ptrV m)∧W.cell? ⟨w.heap.size,0,none⟩=some (ptrV g)∧W.cell? ⟨g,0,none⟩=some (ptrV si)∧W.cell? ⟨W0.heap.size,1,none⟩=some (.int .u64 pt))):=hid fun W hW=>
   ⟨cell_bel hW hs1,cell_bel hW (q1.cell 0),cell_bel hW (h1.cell 0),cell_bel hW (k1.cell 1)⟩
  have KB:Hid (∀W,Below W1.heap.size W1 W→ScBlk W g si x R uv fv):=hid fun W hW=>h1.bel hW
  have KE:Hid (∀W,Below W1.heap.size W1 W→Blk W W0.heap.size 130 #[.int .u64 x.ky,.int .u64 pt]):=hid fun W hW=>k1.bel hW
  have HZ:Hid (W1.heap.size=w.heap.size+1+1):=hid (by rw[hW1,World.size_alloc,HZ0.out])
  have HX:=hid (⟨HB0.out.1.trans (hb1.mono HB0.out.1.size),HB0.out.2⟩:_∧_)
  have SZ: ∀W,Calls Tryz.prog 124 #[ptrV m,.int .u64 pt] W _:=RdNew_z m pt
  have SZ:=hid SZ
  clear hW1 hb1 k1 h1 q1 hs1 hky c0 c31 c32 c33 b1 b2 e0 e1 i0 i1
  go_region_held3 (fun W=>W.cell? ⟨si,0,none⟩=some (ptrV m)∧W.cell? ⟨w.heap.size,0,none⟩=some (ptrV g)∧W.cell? ⟨g,0,none⟩=some (ptrV si)∧W.cell? ⟨W0.heap.size,1,none⟩=some (.int .u64 pt)) (first | (refine KS.out _ ?_;(repeat(first | assumption | exact Below.refl _ _ | refine Below.drew ?_ | refine ba ?_ _ | refine Below.setCell ?_ (by first | exact Nat.le_refl _ | exact Below.size (by assumption)) _));done))
   (first | (go_at_call 66;refine(XMem_e (by assumption)).mono ?_;rintro e w5 ⟨rfl,rfl⟩) | (go_at_call 124;refine(SZ.out _).mono ?_;rintro e w5 ⟨sg,rfl,hsg,hst,hb5⟩;have hw5:Below W1.heap.size W1 w5:=bx (by(repeat(first | assumption | exact Below.refl _ _ | refine Below.drew ?_ | refine ba ?_ _ | refine Below.setCell ?_ (by first | exact Nat.le_refl _ | exact Below.size (by assumption)) _))) hb5;(try(have kb5:Blk w5 W1.heap.size 235 #[.pointer none]:=(Blk.drew (Blk.new W1 235 #[.pointer none])).bel hb5;have cb5:=kb5.cell 0;have fb5:=kb5.frozen 0;have KB5:=hid kb5;clear kb5));have H5:=hid (⟨hsg,hst,hb5⟩:_∧_∧_);clear hsg hst hb5))
  all_goals
   first
   |
    (obtain⟨V,hV⟩: ∃V,V=w5.alloc (.cells #[.pointer (some ⟨sg,0,none⟩)] 235):=⟨_,rfl⟩
     obtain⟨bs,hbs⟩: ∃bs,bs=w5.heap.size:=⟨_,rfl⟩
     rw[show _=V from hV.symm]
     rw[show w5.heap.size=bs from hbs.symm]
     have hbV:Below W1.heap.size W1 V:=by rw[hV];exact ba hw5 _
     obtain⟨t0,t1,t2,t3⟩:=KS.out V hbV
     have tb:V.cell? ⟨bs,0,none⟩=some (ptrV sg):=by rw[hV,hbs];exact(Blk.new w5 235 #[ptrV sg]).cell 0
     have hsV: ∃N,RdIs V N m sg (rdNew pt) (.slice none 0 0)∧N≤V.heap.size:=by rw[hV];exact⟨_,H5.out.2.1.bel (ba (Below.refl _ _) _),Nat.le_trans H5.out.2.2.size (ba (Below.refl _ w5) _).size⟩
     have HS:=hid (⟨hsV,hbV,tb,t1,KE.out V hbV⟩:_∧_∧_∧_∧_)
     have hbs1:w.heap.size<bs:=by rw[hbs];have:=hw5.size;have:=HZ.out;omega
     have hne:sg≠bs:=by rw[hbs];have:=H5.out.2.1.blk.lt;omega
     have hsg1:w.heap.size+1<sg:=by have:=H5.out.1;have:=HZ.out;(try simp only[World.size_alloc,World.size_drew] at*);omega
     have HN:=hid (⟨hbs1,hne,hsg1⟩:_∧_∧_)
     have TZ:Hid (∀fn c1 c2,Calls Tryz.prog 112 #[ptrV g,.iface 235 (ptrV sg),.func fn c1 c2] V fun e w'=>e= .returned (.tuple #[])∧ScBlk w' g si x R (.iface 235 (ptrV sg)) (.func fn c1 c2)∧Only [g] V w'):=hid fun fn c1 c2=>STo_z si g x R uv fv _ _ _ _ _ V (KB.out V hbV)
     clear hV hbs hbV hsV t0 t2 t3 hbs1 hne hsg1
     go_wp2_with fail
     refine(TZ.out _ _ _).mono ?_
     rintro e w7 ⟨rfl,hB7,ho7⟩
     have H7:=hid (⟨hB7,ho7⟩:_∧_)
     clear hB7 ho7
     go_wp2_with fail
     refine bodyPost_end (v:= .tuple #[]) (by simp[results,Tryz.results116,go_sem]) rfl ?_
     obtain⟨⟨N,hrd,hNN⟩,_⟩:=HS.out
     exact sc_fin HX.out.2 (HX.out.1.trans (HS.out.2.1.mono HX.out.1.size)) HR.out.1 HR.out.2 (us:=[sg]) (bs:=[bs,w.heap.size,W0.heap.size]) ⟨sg,nilS,bs,w.heap.size,W0.heap.size,pt,N,rfl,rfl,hrd,hNN,HS.out.2.2.1,HS.out.2.2.2.1,HS.out.2.2.2.2,rfl,rfl⟩ (fun z hz=>by have:=HN.out;simp at hz;omega) (fun z hz=>by have:=HN.out;have:=HZ0.out;simp at hz ⊢;omega) H7.out.1 H7.out.2)
   |
    (obtain⟨V,hV⟩: ∃V,V=w5.setCell ⟨W1.heap.size,0,none⟩ (.pointer (some ⟨sg,0,none⟩)):=⟨_,rfl⟩
     obtain⟨bs,hbs⟩: ∃bs,bs=W1.heap.size:=⟨_,rfl⟩
     rw[show _=V from hV.symm]
     rw[show W1.heap.size=bs from hbs.symm]
     have hbV:Below W1.heap.size W1 V:=by rw[hV];exact Below.setCell hw5 (Nat.le_refl _) _
     obtain⟨t0,t1,t2,t3⟩:=KS.out V hbV
     have tb:V.cell? ⟨bs,0,none⟩=some (ptrV sg):=by rw[hV,hbs];exact(KB5.out.set_ 0 (ptrV sg)).cell 0
     have hsV: ∃N,RdIs V N m sg (rdNew pt) (.slice none 0 0)∧N≤V.heap.size:=by rw[hV];exact⟨_,H5.out.2.1.only0 (ks:=[W1.heap.size]) (Only.setCell (Only.refl _ _) (Or.inl (by simp)) _) (by have h:=H5.out.1;change(W1.alloc _).heap.size≤sg at h;rw[World.size_alloc] at h;simp;omega),Nat.le_trans H5.out.2.2.size (Only.setCell (Only.refl [W1.heap.size] w5) (Or.inl (by simp)) _).size⟩
     have HS:=hid (⟨hsV,hbV,tb,t1,KE.out V hbV⟩:_∧_∧_∧_∧_)
     have hbs1:w.heap.size<bs:=by rw[hbs];have:=HZ.out;omega
     have hne:sg≠bs:=by rw[hbs];have h:=H5.out.1;change(W1.alloc _).heap.size≤sg at h;rw[World.size_alloc] at h;omega
     have hsg1:w.heap.size+1<sg:=by have:=H5.out.1;have:=HZ.out;(try simp only[World.size_alloc,World.size_drew] at*);omega
     have HN:=hid (⟨hbs1,hne,hsg1⟩:_∧_∧_)
     have TZ:Hid (∀fn c1 c2,Calls Tryz.prog 112 #[ptrV g,.iface 235 (ptrV sg),.func fn c1 c2] V fun e w'=>e= .returned (.tuple #[])∧ScBlk w' g si x R (.iface 235 (ptrV sg)) (.func fn c1 c2)∧Only [g] V w'):=hid fun fn c1 c2=>STo_z si g x R uv fv _ _ _ _ _ V (KB.out V hbV)
     clear hV hbs hbV hsV t0 t2 t3 hbs1 hne hsg1
     go_wp2_with fail
     refine(TZ.out _ _ _).mono ?_
     rintro e w7 ⟨rfl,hB7,ho7⟩
     have H7:=hid (⟨hB7,ho7⟩:_∧_)
     clear hB7 ho7
     go_wp2_with fail
     refine bodyPost_end (v:= .tuple #[]) (by simp[results,Tryz.results116,go_sem]) rfl ?_
     obtain⟨⟨N,hrd,hNN⟩,_⟩:=HS.out
     exact sc_fin HX.out.2 (HX.out.1.trans (HS.out.2.1.mono HX.out.1.size)) HR.out.1 HR.out.2 (us:=[sg]) (bs:=[bs,w.heap.size,W0.heap.size]) ⟨sg,nilS,bs,w.heap.size,W0.heap.size,pt,N,rfl,rfl,hrd,hNN,HS.out.2.2.1,HS.out.2.2.2.1,HS.out.2.2.2.2,rfl,rfl⟩ (fun z hz=>by have:=HN.out;simp at hz;omega) (fun z hz=>by have:=HN.out;have:=HZ0.out;simp at hz ⊢;omega) H7.out.1 H7.out.2)
end Go.Proofs.YtjmaicckkkdjpaaGreat
/- A scan takes a leaf's pairs, and ends, or goes on. -/
namespace Go.Proofs.YtjmaicckkkdjpaaGreat
open Go.RowKit
attribute [local go_sem ↓ high] nodeLoadAt nodeLoadVar nodeStoreAt scBuild lfBuild lfStoreAt append_shut2
attribute [local go_sem] ldM_run lvM_run stM_run Oper.semAt_some run_store_fnG bldMg_run neFnE neFnEG appM2_run
theorem own_news {w:World} {e:TypeId} {size n:Nat} {v:Value} {xs:List Value} (h:w.ownsRow 0 e size v n xs):NewsAt w v n xs:=by
 have hl:=h.1
 rcases h.2 with⟨rfl,rfl⟩ | ⟨g,cap,cur,rfl,h2,h3,h4,h5,h6,h7⟩
 ·exact Or.inl ⟨rfl,rfl,List.length_eq_zero_iff.1 (by omega)⟩
 ·refine Or.inr ⟨g,0,cap,rfl,fun j u hj=> ?_⟩
  have hc:Blk w g e cur:=h3
  have hjl:j<n*size:=by have:=(List.getElem?_eq_some_iff.1 hj).1;omega
  rw[hc.cell,Nat.zero_add,←Array.getElem?_toList,←h7] at*
  rw[List.getElem?_take,if_pos hjl] at hj
  exact hj
theorem own_blt {w:World} {base:Nat} {e:TypeId} {size n:Nat} {v:Value} {xs:List Value} (h:w.ownsRow base e size v n xs) {b:Nat} (hb:v.ownBlock=some b):b<w.heap.size:=by
 rcases h.2 with⟨rfl,_⟩ | ⟨g,cap,cur,rfl,h2,h3,_⟩
 ·cases hb
 ·have:some g=some b:=hb
  injection this with this
  rw[←this];exact(Array.getElem?_eq_some_iff.1 h3).1
theorem pairs_app {W:World} {want:List (Int×Int)} {got pairs:List (Int×ByteArray)} {R:SR} (hr:ScRows W want got pairs R) (hl:pairs.length+got.length≤1000000):
  ∃va vc w9,appRun2 Tryz.prog #[39,39] 39 #[R.pv,R.gv] W= .ok (.slice va (pairs.length+got.length) vc) w9∧ScRows w9 want got (pairs++got) { R with pv:= .slice va (pairs.length+got.length) vc }∧Only R.pv.ownBlock.toList W w9∧
   ∀b,(Value.slice va (pairs.length+got.length) vc).ownBlock=some b→R.pv.ownBlock=some b∨W.heap.size≤b:=by
 obtain⟨i0,hi0,hz0,hz1,hz2⟩:=info_parts infoPair
 obtain⟨v',w9,r⟩:=run_app (P:=Tryz.prog) W 0 39 39 96 i0 (.agg #[.int .u64 0,.string ⟨#[]⟩]) 2 24 Tryz.underlying39 hi0 hz0 hz1 hz2 rfl (by decide) R.pv pairs.length _ hr.pairs R.gv got.length (pc got) (own_news hr.got) (pc_length got) (pc_one got) (by unfold maxLen;omega) (by omega) (Nat.zero_le _)
 obtain⟨va,vc,rfl⟩:=row_form1 r.own
 have ho:Only R.pv.ownBlock.toList W w9:=Only.of_grown (f:=R.pv.ownBlock.toList) r.grown (fun y hy=>by simp[hy])
 have hob: ∀b,(Value.slice va (pairs.length+got.length) vc).ownBlock=some b→R.pv.ownBlock=some b∨b=W.heap.size:=fun b hb=>by
  rcases r.ob with h | h
  ·exact Or.inl (h▸hb)
  ·rw[h] at hb;injection hb with hb;exact Or.inr hb.symm
 have nw: ∀b,R.wv.ownBlock=some b→b∉R.pv.ownBlock.toList:=fun b hb h=>hr.wp b hb (by simpa using h)
 have ng: ∀b,R.gv.ownBlock=some b→b∉R.pv.ownBlock.toList:=fun b hb h=>hr.gp b hb (by simpa using h)
 refine⟨va,vc,w9,r.run,⟨hr.want.only ho nw,ho.own hr.got ng,by rw[List.length_append,pc_append];exact r.own,hr.wg,fun b hb h=> ?_,fun b hb h=> ?_,fun b hb=> ?_⟩,ho,fun b hb=>(hob b hb).imp id (fun h=>Nat.le_of_eq h.symm)⟩
 ·rcases hob b h with h | h
  ·exact hr.wp b hb h
  ·have:=hr.lt b (SR.bl_w hb);omega
 ·rcases hob b h with h | h
  ·exact hr.gp b hb h
  ·have:=hr.lt b (SR.bl_g hb);omega
 ·unfold SR.bl at hb
  rcases List.mem_append.1 hb with h | h
  ·exact Nat.lt_of_lt_of_le (hr.lt b (SR.bl_w (by simpa using h))) ho.size
  ·rcases List.mem_append.1 h with h | h
   ·exact Nat.lt_of_lt_of_le (hr.lt b (SR.bl_g (by simpa using h))) ho.size
   ·exact own_blt r.own (by simpa using h)
def ScAn (si g:Nat) (F:List Nat) (X:ScP) (uv fv:Value) (w:World) (e:Ending) (w':World):Prop:=
 e= .returned (.tuple #[])∧ ∃R',ScBlk w' g si X R' uv fv∧ScRows w' X.want X.got X.pairs R'∧(∀z∈R'.bl,z∈F∨w.heap.size≤z)∧g∉R'.bl∧Only (g::F) w w'
theorem ScGo.behind {si m g:Nat} {F F':List Nat} {x:ScP} {w w2 w':World} {e:Ending} (h:ScGo si m g F' x w2 e w') (ho:Only (g::F) w w2) (hF: ∀z∈F',z∈F∨w.heap.size≤z):ScGo si m g F x w e w':=by
 obtain⟨h0,f',h1,h2,h3⟩:=h
 exact⟨h0,f',h1,fun z hz=>(h2 z hz).elim (hF z) (fun h=>Or.inr (Nat.le_trans ho.size h)),ho.trans h3 (fun y hy=>(List.mem_cons.1 hy).elim (fun h=>Or.inl (by simp[h])) (fun h=>(hF y h).imp (fun h=>by simp[h]) id))⟩
theorem ScEn.behind {si g:Nat} {F:List Nat} {X:ScP} {R:SR} {uv fv:Value} {w w2 w':World} {e:Ending} (h:ScEn si g X R uv fv w2 e w') (ho:Only (g::F) w w2) (hF: ∀z∈R.bl,z∈F∨w.heap.size≤z) (hg:g∉R.bl) (hr:ScRows w2 X.want X.got X.pairs R):ScAn si g F X uv fv w e w':=by
 obtain⟨h0,h1,h2⟩:=h
 exact⟨h0,R,h1,hr.only h2 (fun z hz hc=>by rw[List.mem_singleton.1 hc] at hz;exact hg hz),hF,hg,ho.trans h2 (fun y hy=>Or.inl (by simp at hy;simp[hy]))⟩
structure ScApp (si g:Nat) (x:ScP) (R:SR) (uv fv:Value) (w:World) (va:Option Addr) (n vc:Nat) (w9:World):Prop where
 run:appRun2 Tryz.prog #[39,39] 39 #[R.pv,R.gv] w.drew= .ok (.slice va n vc) w9
 cell:w9.cell? ⟨g,34,none⟩=some R.pv
 frozen:w9.frozen? ⟨g,34,none⟩=false
 blk:ScBlk (w9.setCell ⟨g,34,none⟩ (.slice va n vc)) g si { x with pairs:=x.pairs++x.got } { R with pv:= .slice va n vc } uv fv
 rows:ScRows (w9.setCell ⟨g,34,none⟩ (.slice va n vc)) x.want x.got (x.pairs++x.got) { R with pv:= .slice va n vc }
 only:Only (g::R.bl) w (w9.setCell ⟨g,34,none⟩ (.slice va n vc))
 bl: ∀z∈({ R with pv:= .slice va n vc }:SR).bl,z∈R.bl∨w.heap.size≤z
 ne:g∉ ({ R with pv:= .slice va n vc }:SR).bl
theorem sc_app {si g:Nat} {x:ScP} {R:SR} {uv fv:Value} {w:World} (hb:ScBlk w g si x R uv fv) (hr:ScRows w x.want x.got x.pairs R) (hgr:g∉R.bl) (hl:x.pairs.length+x.got.length≤1000000): ∃va vc w9,ScApp si g x R uv fv w va (x.pairs.length+x.got.length) vc w9:=by
 obtain⟨va,vc,w9,hrun,hrows,ho,hob⟩:=pairs_app (hr.only (Only.refl [] w).drew (by simp)) hl
 have hgp:g∉R.pv.ownBlock.toList:=fun h=>hgr (SR.bl_p (by simpa using h))
 have hB9:ScBlk w9 g si x R uv fv:=ho.blk (Blk.drew hb) hgp
 have hbl: ∀z∈({ R with pv:= .slice va (x.pairs.length+x.got.length) vc }:SR).bl,z∈R.bl∨w.heap.size≤z:=fun z hz=>by
  unfold SR.bl at hz
  rcases List.mem_append.1 hz with h | h
  ·exact Or.inl (SR.bl_w (by simpa using h))
  ·rcases List.mem_append.1 h with h | h
   ·exact Or.inl (SR.bl_g (by simpa using h))
   ·exact(hob z (by simpa using h)).imp SR.bl_p id
 have hne:g∉ ({ R with pv:= .slice va (x.pairs.length+x.got.length) vc }:SR).bl:=fun h=>(hbl g h).elim hgr (fun h=>by have:=hb.lt;omega)
 have ho2:Only [g] w9 (w9.setCell ⟨g,34,none⟩ (.slice va (x.pairs.length+x.got.length) vc)):=Only.setCell (Only.refl _ _) (Or.inl (by simp)) _
 refine⟨va,vc,w9,hrun,hB9.cell 34,hB9.frozen 34,hB9.set_ 34 _,hrows.only ho2 (fun z hz hc=>by rw[List.mem_singleton.1 hc] at hz;exact hne hz),?_,hbl,hne⟩
 exact((Only.refl [] w).drew.mono (fun _ h=>by cases h) |>.trans ho (fun y hy=>Or.inl (by have:y∈R.bl:=SR.bl_p (by simpa using hy);simp[this]))).trans ho2 (fun y hy=>Or.inl (by simp at hy;simp[hy]))
section
variable (si m g:Nat) (x:ScP) (R:SR) (uv fv:Value)
theorem SLasted_end (hend:((x.pairs++x.got).length:Int)=x.limit∨x.has=false∨x.hi<x.high) (hl:x.pairs.length+x.got.length≤1000000) (w:World) (hb:ScBlk w g si x R uv fv) (hr:ScRows w x.want x.got x.pairs R) (hgr:g∉R.bl):
  Calls Tryz.prog 178 #[ptrV g,.int .i64 0] w (ScAn si g R.bl (({ x with pairs:=x.pairs++x.got }:ScP).fin 0) uv fv w):=by
 obtain⟨va,vc,w9,hA⟩:=sc_app hb hr hgr hl
 obtain⟨n,hn⟩: ∃n,n=x.pairs.length+x.got.length:=⟨_,rfl⟩
 rw[←hn] at hA
 rw[List.length_append,←hn] at hend
 have c34:w.drew.cell? ⟨g,34,none⟩=some R.pv:=hb.cell 34
 have c32:w.drew.cell? ⟨g,32,none⟩=some R.gv:=hb.cell 32
 have hrun:=hA.run
 have d34:=hA.cell
 have f34:=hA.frozen
 obtain⟨V,hV⟩: ∃V,V=w9.setCell ⟨g,34,none⟩ (.slice va n vc):=⟨_,rfl⟩
 have hB:=hA.blk
 have hR:=hA.rows
 have hO:=hA.only
 rw[←hV] at hB hR hO
 have EZ:=hid (fun W (hW:Below V.heap.size V W)=>SEnd_z si g _ _ uv fv 0 W (hB.bel hW))
 have v34:V.drew.cell? ⟨g,34,none⟩=some (.slice va n vc):=hB.cell 34
 have v4:V.drew.cell? ⟨g,4,none⟩=some (.int .i64 x.limit):=hB.cell 4
 have v30:V.drew.cell? ⟨g,30,none⟩=some (.bool x.has):=hB.cell 30
 have v29:V.drew.cell? ⟨g,29,none⟩=some (.int .u64 x.high):=hB.cell 29
 have v3:V.drew.cell? ⟨g,3,none⟩=some (.int .u64 x.hi):=hB.cell 3
 have HV:=hid hV
 have HH:=hid (⟨hR,hO,hA.bl,hA.ne⟩:_∧_∧_∧_)
 have b1:(((n:Int)==x.limit)=true∨((n:Int)==x.limit)=false∧x.has=false∨((n:Int)==x.limit)=false∧x.has=true∧x.hi<x.high):=by
  by_cases e:(n:Int)=x.limit
  ·exact Or.inl (by simp[e])
  ·cases eh:x.has
   ·exact Or.inr (Or.inl ⟨by simpa using e,rfl⟩)
   ·exact Or.inr (Or.inr ⟨by simpa using e,rfl,by simpa[e,eh] using hend⟩)
 clear hV hA hB hR hO hb hr hgr hl hn hend
 go_enter Tryz.func178,Tryz.ntmps178
 go_upto_region 0 with fail
 go_region
 rw[show _=V from HV.out.symm]
 clear c34 c32 hrun d34 f34
 rcases b1 with b1 | ⟨b1,b2⟩ | ⟨b1,b2,b3⟩
 all_goals
  try rw[b2] at v30
  go_upto_region 1 with fail
  go_region
  go_wp2_with fail
  refine(EZ.out _ (by first | exact Below.refl _ _ | exact(Below.refl _ _).drew)).mono ?_
  intro e w2 hgo
  have he:=hgo.1
  subst he
  have HG:=hid hgo
  clear hgo EZ
  go_wp2_with fail
  (try simp only[Exit.inBlock,Exit.then])
  refine bodyPost_ret (v:= .tuple #[]) (results_none rfl _ _ _) rfl ?_
  exact HG.out.behind HH.out.2.1.drew HH.out.2.2.1 HH.out.2.2.2 (HH.out.1.only (Only.refl [] _).drew (by simp))
theorem SLasted_go (hend: ¬(((x.pairs++x.got).length:Int)=x.limit∨x.has=false∨x.hi<x.high)) (hl:x.pairs.length+x.got.length≤1000000) (w:World) (hb:ScBlk w g si x R uv fv) (hr:ScRows w x.want x.got x.pairs R) (hgr:g∉R.bl):
  Calls Tryz.prog 178 #[ptrV g,.int .i64 0] w (ScGo si m g R.bl ({ x with pairs:=x.pairs++x.got,lo:=x.high }:ScP).again w):=by
 obtain⟨va,vc,w9,hA⟩:=sc_app hb hr hgr hl
 obtain⟨n,hn⟩: ∃n,n=x.pairs.length+x.got.length:=⟨_,rfl⟩
 rw[←hn] at hA
 rw[List.length_append,←hn] at hend
 have c34:w.drew.cell? ⟨g,34,none⟩=some R.pv:=hb.cell 34
 have c32:w.drew.cell? ⟨g,32,none⟩=some R.gv:=hb.cell 32
 have hrun:=hA.run
 have d34:=hA.cell
 have f34:=hA.frozen
 obtain⟨V,hV⟩: ∃V,V=w9.setCell ⟨g,34,none⟩ (.slice va n vc):=⟨_,rfl⟩
 have hB:=hA.blk
 have hR:=hA.rows
 have hO:=hA.only
 rw[←hV] at hB hR hO
 have EZ:Hid (∀W,Only [] (V.setCell ⟨g,2,none⟩ (.int .u64 x.high)) W→Calls Tryz.prog 62 #[ptrV g] W (ScGo si m g ({ R with pv:= .slice va n vc }:SR).bl ({ x with pairs:=x.pairs++x.got,lo:=x.high }:ScP).again W)):=hid fun W hW=>by
  have h2:Only [g] V (V.setCell ⟨g,2,none⟩ (.int .u64 x.high)):=Only.setCell (Only.refl _ _) (Or.inl (by simp)) _
  exact SWalk_z si m g { x with pairs:=x.pairs++x.got,lo:=x.high } _ uv fv _ (hW.blk (hB.set_ 2 (.int .u64 x.high)) (by simp)) ((hR.only h2 (fun z hz hc=>by rw[List.mem_singleton.1 hc] at hz;exact hA.ne hz)).only hW (by simp)) hA.ne
 have KO:Hid (∀W,Only [] (V.setCell ⟨g,2,none⟩ (.int .u64 x.high)) W→Only (g::R.bl) w W):=hid fun W hW=>(hO.setCell (Or.inl (by simp)) _).trans hW (fun y hy=>by cases hy)
 have v34:V.drew.cell? ⟨g,34,none⟩=some (.slice va n vc):=hB.cell 34
 have v4:V.drew.cell? ⟨g,4,none⟩=some (.int .i64 x.limit):=hB.cell 4
 have v30:V.drew.cell? ⟨g,30,none⟩=some (.bool x.has):=hB.cell 30
 have v29:V.drew.cell? ⟨g,29,none⟩=some (.int .u64 x.high):=hB.cell 29
 have v3:V.drew.cell? ⟨g,3,none⟩=some (.int .u64 x.hi):=hB.cell 3
 have HV:=hid hV
 have HH:=hid (⟨hR,hO,hA.bl,hA.ne⟩:_∧_∧_∧_)
 have b1:((n:Int)==x.limit)=false:=by simpa using fun e=>hend (Or.inl e)
 have b2:x.has=true:=by cases eh:x.has;exact absurd (Or.inr (Or.inl eh)) hend;rfl
 have b3: ¬x.hi<x.high:=fun e=>hend (Or.inr (Or.inr e))
 have v2:V.drew.cell? ⟨g,2,none⟩=some (.int .u64 x.lo):=hB.cell 2
 have g2:=hB.drew.frozen 2
 clear hV hA hB hR hO hb hr hgr hl hn hend
 go_enter Tryz.func178,Tryz.ntmps178
 go_upto_region 0 with fail
 go_region
 rw[show _=V from HV.out.symm]
 clear c34 c32 hrun d34 f34
 rw[b2] at v30
 go_upto_region 1 with fail
 go_region
 go_wp2_with fail
 refine(EZ.out _ (by first | exact Only.refl _ _ | exact(Only.refl _ _).drew)).mono ?_
 intro e w2 hgo
 have he:=hgo.1
 subst he
 have HG:=hid hgo
 clear hgo EZ
 go_wp2_with fail
 refine bodyPost_end (v:= .tuple #[]) (by simp[results,Tryz.results178,go_sem]) rfl ?_
 exact HG.out.behind (KO.out _ (by first | exact Only.refl _ _ | exact(Only.refl _ _).drew)) HH.out.2.2.1
end
end Go.Proofs.YtjmaicckkkdjpaaGreat
