import Derived.Test.YtjmaicckkkdjpaaGreatM24
set_option maxRecDepth 100000
set_option maxHeartbeats 4000000
set_option linter.unusedVariables false
set_option linter.unusedSimpArgs false
/- A get looks at its leaf: it goes on to a value, or to its last lines. -/
namespace Go.Proofs.YtjmaicckkkdjpaaGreat
open Go.RowKit
attribute [local go_sem ↓ high] nodeLoadAt nodeLoadVar nodeStoreAt rsLoadAt rsLoadVar rsStoreAt gtBuild rsBuild
attribute [local go_sem] ldM_run lvM_run stM_run Oper.semAt_some run_store_fnG bldMg_run neFnE neFnEG
theorem RdIs.only0 {w w':World} {N m g:Nat} {x:RdP} {ks:List Nat} (h:RdIs w N m g x (.slice none 0 0)) (ho:Only ks w w') (hg:g∉ks) (hl:x.l=[]:=by rfl):RdIs w' N m g x (.slice none 0 0):=⟨ho.blk h.blk hg,by rw[hl];exact World.ownsRow_nil _ _ _ _,h.ne⟩
theorem RdIs.bel {w w':World} {N m g:Nat} {x:RdP} (h:RdIs w N m g x (.slice none 0 0)) (hb:Below w.heap.size w w') (hl:x.l=[]:=by rfl):RdIs w' N m g x (.slice none 0 0):=h.only0 (Only.of_below hb []) (by simp) hl
theorem getC_p (si:Nat) (x:GtP) (uv fv:Value) {i:Nat} (h:i<8):(getC si x uv fv)[20+i]?=some (.int .u64 (x.leaf.p i)):=by
 rcases(by omega:i=0∨i=1∨i=2∨i=3∨i=4∨i=5∨i=6∨i=7) with rfl | rfl | rfl | rfl | rfl | rfl | rfl | rfl<;>rfl
theorem GtGo.ahead {si m g:Nat} {x:GtP} {w w2 w':World} {r r':Value} {e:Ending} (h:GtGo si m g x w2 r e w') (hb:Below w.heap.size w w2):GtGo si m g x w r' (.returned r') w':=by
 obtain⟨_,f',h1,h2,h3⟩:=h
 exact⟨rfl,f',h1,fun z hz=>Nat.le_trans hb.size (h2 z hz),(Only.of_below hb [g]).trans h3 (fun y hy=>Or.inl hy)⟩
theorem look_fin {si m g sg bs:Nat} {x:GtP} {a:Int} {N:Nat} {w w6 w7:World} (hg:g<w.heap.size) (h6:Below w.heap.size w w6) (k1:w6.cell? ⟨w.heap.size,0,none⟩=some (ptrV g)) (hs:RdIs w6 N m sg (rdNew a) (.slice none 0 0)) (hN:N≤w6.heap.size) (kb:w6.cell? ⟨bs,0,none⟩=some (ptrV sg))
  (hsg:w.heap.size<sg) (hbs:w.heap.size<bs) (hne:sg≠bs) (hB:GtBlk w7 g si x (.iface 235 (ptrV sg)) (clV 125 bs w.heap.size)) (ho:Only [g] w6 w7):
  GtGo si m g { x with u:= .read (rdNew a) } w (.bool false) (.returned (.bool false)) w7:=by
 refine⟨rfl,[sg]++[bs,w.heap.size],⟨⟨_,_,[sg],[bs,w.heap.size],hB,⟨sg,.slice none 0 0,bs,w.heap.size,N,rfl,rfl,hs.only0 ho (by simp;omega),Nat.le_trans hN ho.size,(ho.cell (World.block_lt_of_cell? _ _ kb) (by simp;omega)).trans kb,(ho.cell (World.block_lt_of_cell? _ _ k1) (by simp;omega)).trans k1,rfl,rfl⟩,rfl,?_⟩,?_⟩,?_,?_⟩
 ·intro z hz
  simp at hz ⊢
  omega
 ·simp;omega
 ·intro z hz
  simp at hz
  omega
 ·exact(Only.of_below h6 [g]).trans ho (fun y hy=>Or.inl hy)
theorem LookG_z (si m g:Nat) (x:GtP) (uv fv:Value) (hat:0≤x.at'∧x.at'≤1099511627776) (w:World) (hb:GtBlk w g si x uv fv) (hsi:w.cell? ⟨si,0,none⟩=some (ptrV m)) (hne:si≠g):
  Calls Tryz.prog 76 #[ptrV g] w (GtGo si m g x.look w (.bool false)):=by
 obtain⟨W0,hW0⟩: ∃W0,W0=w.alloc (.cells #[ptrV g] 29):=⟨_,rfl⟩
 have hb0:Below w.heap.size w W0:=by rw[hW0];exact ba (Below.refl _ _) _
 have k0:Blk W0 w.heap.size 29 #[ptrV g]:=by rw[hW0];exact Blk.new _ _ _
 have h0:=hb.bel hb0
 have hgl:=hb.lt
 have HZ0:W0.heap.size=w.heap.size+1:=by rw[hW0,World.size_alloc]
 have FZ:=hid (Find_z x.leaf x.key W0.drew)
 have d0:W0.drew.cell? ⟨w.heap.size,0,none⟩=some (ptrV g):=k0.cell 0
 have d2:W0.drew.cell? ⟨g,2,none⟩=some (.int .u64 x.key):=h0.cell 2
 have dn:ldR Tryz.prog 77 (.pointer (some ⟨g,7,none⟩)) W0.drew= .ok (.agg (nodeC x.leaf)) W0.drew:=GtBlk.ldn (Blk.drew h0)
 have H0:Hid (∀W1,Below W0.drew.heap.size W0.drew W1→Below w.heap.size w W1∧GtBlk W1 g si x uv fv∧Blk W1 w.heap.size 29 #[ptrV g]∧W1.cell? ⟨si,0,none⟩=some (ptrV m)∧w.heap.size+1≤W1.heap.size):=hid fun W1 h=>by
  have hw1:Below w.heap.size w W1:=(Below.drew hb0).trans (h.mono (by show _≤W0.heap.size;omega))
  exact⟨hw1,hb.bel hw1,(Blk.drew k0).bel h,cell_bel hw1 hsi,by rw[←HZ0];exact h.size⟩
 have HW:=hid hW0
 clear hb0 k0 h0 hW0 hb hsi HZ0
 unfold findV at FZ
 unfold GtP.look
 cases hf:findN x.leaf x.key with
 | none=>
  rw[hf] at FZ
  have hLZ:Hid (∀W1,GtBlk W1 g si x uv fv→W1.cell? ⟨si,0,none⟩=some (ptrV m)→Calls Tryz.prog 123 #[ptrV g,.agg (respC 5 { data:= #[] })] W1 (GtGo si m g (x.lastly 5 { data:= #[] }) W1 (.tuple #[]))):=hid fun W1 h1 h2=>Lastly_z si m g x uv fv 5 { data:= #[] } hat W1 h1 h2 hne
  have BL:=fun W=>rs_bld 5 W
  clear hf hat
  go_enter Tryz.func76,Tryz.ntmps76
  go_upto_region 1 with fail
  rw[show _=W0 from HW.out.symm]
  go_region_with
   (first | (go_at_call 122;refine FZ.out.mono ?_;rintro e w1 ⟨rfl,hb1⟩;obtain⟨hw1,hB1,kb1,hs1,hz1⟩:=H0.out w1 hb1;have e0:w1.cell? ⟨w.heap.size,0,none⟩=some (ptrV g):=kb1.cell 0;have LZ:=hid (hLZ.out w1 hB1 hs1);have HL:=hid hw1;clear hb1 hw1 hB1 kb1 hs1 hz1 FZ hLZ d0 d2 dn))
  all_goals
   go_wp2_with fail
   refine LZ.out.mono ?_
   intro e w2 hgo
   have he:=hgo.1
   subst he
   have HG:=hid hgo
   clear hgo LZ
   go_wp2_with fail
   go_ret
   exact HG.out.ahead HL.out
 | some i=>
  rw[hf] at FZ
  have hi8:i<8:=places_lt _ _ (find_some hf).1
  have hi0:(0:Int)≤(i:Int):=by omega
  have hi9:(i:Int)<8:=by omega
  have HF:=hid (⟨hf,hat,hi8⟩:_∧_∧_)
  clear hf hat hi8
  go_enter Tryz.func76,Tryz.ntmps76
  go_upto_region 1 with fail
  rw[show _=W0 from HW.out.symm]
  go_region_with
   (first | (go_at_call 122;refine FZ.out.mono ?_;rintro e W1 ⟨rfl,hb1⟩;obtain⟨hw1,hB1,kb1,hs1,hz1⟩:=H0.out W1 hb1;have e0:W1.cell? ⟨w.heap.size,0,none⟩=some (ptrV g):=kb1.cell 0;have H1:=hid (⟨hw1,hB1,kb1,hs1,hz1⟩:_∧_∧_∧_∧_);clear hb1 hw1 hB1 kb1 hs1 hz1 FZ d0 d2 dn))
  all_goals
   have KS:Hid (∀W,Below W1.heap.size W1 W→(W.cell? ⟨si,0,none⟩=some (ptrV m)∧W.cell? ⟨w.heap.size,0,none⟩=some (ptrV g)∧W.cell? ⟨g,0,none⟩=some (ptrV si)∧W.cell? ⟨g,20+i,none⟩=some (.int .u64 (x.leaf.p i)))):=hid fun W hW=>
    ⟨cell_bel hW H1.out.2.2.2.1,cell_bel hW (H1.out.2.2.1.cell 0),cell_bel hW (H1.out.2.1.cell 0),cell_bel hW ((H1.out.2.1.cell _).trans (getC_p si x uv fv HF.out.2.2))⟩
   have KB:Hid (∀W,Below W1.heap.size W1 W→GtBlk W g si x uv fv):=hid fun W hW=>H1.out.2.1.bel hW
   have HX:=hid (⟨H1.out.1,hgl⟩:_∧_)
   have HZ:Hid (w.heap.size+1≤W1.heap.size):=hid H1.out.2.2.2.2
   have SZ: ∀W,Calls Tryz.prog 124 #[ptrV m,.int .u64 (x.leaf.p i)] W _:=RdNew_z m (x.leaf.p i)
   have SZ:=hid SZ
   clear e0 H1 H0 hgl
   go_upto_region 5 with fail
   go_region_held3 (fun W=>W.cell? ⟨si,0,none⟩=some (ptrV m)∧W.cell? ⟨w.heap.size,0,none⟩=some (ptrV g)∧W.cell? ⟨g,0,none⟩=some (ptrV si)∧W.cell? ⟨g,20+i,none⟩=some (.int .u64 (x.leaf.p i))) (first | (refine KS.out _ ?_;(repeat(first | assumption | exact Below.refl _ _ | refine Below.drew ?_ | refine ba ?_ _ | refine Below.setCell ?_ (by first | exact Nat.le_refl _ | exact Below.size (by assumption)) _));done))
    (first | (go_at_call 66;refine(XMem_e (by assumption)).mono ?_;rintro e w5 ⟨rfl,rfl⟩) | (go_at_call 124;refine(SZ.out _).mono ?_;rintro e w5 ⟨sg,rfl,hsg,hst,hb5⟩;have hw5:Below W1.heap.size W1 w5:=bx (by(repeat(first | assumption | exact Below.refl _ _ | refine Below.drew ?_ | refine ba ?_ _ | refine Below.setCell ?_ (by first | exact Nat.le_refl _ | exact Below.size (by assumption)) _))) hb5;(try(have kb5:Blk w5 W1.heap.size 235 #[.pointer none]:=(Blk.drew (Blk.new W1 235 #[.pointer none])).bel hb5;have cb5:=kb5.cell 0;have fb5:=kb5.frozen 0;have KB5:=hid kb5;clear kb5));have H5:=hid (⟨hsg,hst,hb5⟩:_∧_∧_);clear hsg hst hb5))
   all_goals
    first
    |
     (obtain⟨V,hV⟩: ∃V,V=w5.alloc (.cells #[.pointer (some ⟨sg,0,none⟩)] 235):=⟨_,rfl⟩
      obtain⟨bs,hbs⟩: ∃bs,bs=w5.heap.size:=⟨_,rfl⟩
      rw[show _=V from hV.symm]
      rw[show w5.heap.size=bs from hbs.symm]
      have hbV:Below W1.heap.size W1 V:=by rw[hV];exact ba hw5 _
      obtain⟨t0,t1,t2,t3⟩:=KS.out V hbV
      have tb:V.cell? ⟨bs,0,none⟩=some (ptrV sg):=by rw[hV,hbs];exact(Blk.new w5 235 #[ptrV sg]).cell 0
      have hsV: ∃N,RdIs V N m sg (rdNew (x.leaf.p i)) (.slice none 0 0)∧N≤V.heap.size:=by rw[hV];exact⟨_,H5.out.2.1.bel (ba (Below.refl _ _) _),Nat.le_trans H5.out.2.2.size (ba (Below.refl _ w5) _).size⟩
      have HS:=hid (⟨hsV,hbV,tb,t1⟩:_∧_∧_∧_)
      have hbs1:w.heap.size<bs:=by rw[hbs];have:=hw5.size;have:=HZ.out;omega
      have hne:sg≠bs:=by rw[hbs];have:=H5.out.2.1.blk.lt;omega
      have hsg1:w.heap.size<sg:=by have:=H5.out.1;have:=HZ.out;(try simp only[World.size_alloc,World.size_drew] at*);omega
      have HN:=hid (⟨hbs1,hne,hsg1⟩:_∧_∧_)
      have TZ:Hid (∀fn c1 c2,Calls Tryz.prog 72 #[ptrV g,.iface 235 (ptrV sg),.func fn c1 c2] V fun e w'=>e= .returned (.tuple #[])∧GtBlk w' g si x (.iface 235 (ptrV sg)) (.func fn c1 c2)∧Only [g] V w'):=hid fun fn c1 c2=>To_z si g x uv fv _ _ _ _ _ V (KB.out V hbV)
      clear hV hbs hbV hsV t0 t2 t3 hbs1 hne hsg1
      go_wp2_with fail
      refine(TZ.out _ _ _).mono ?_
      rintro e w7 ⟨rfl,hB7,ho7⟩
      have H7:=hid (⟨hB7,ho7⟩:_∧_)
      clear hB7 ho7
      go_wp2_with fail
      go_ret
      obtain⟨⟨N,hrd,hNN⟩,_⟩:=HS.out
      exact look_fin HX.out.2 (HX.out.1.trans (HS.out.2.1.mono HX.out.1.size)) HS.out.2.2.2 hrd hNN HS.out.2.2.1 HN.out.2.2 HN.out.1 HN.out.2.1 H7.out.1 H7.out.2)
    |
     (obtain⟨V,hV⟩: ∃V,V=w5.setCell ⟨W1.heap.size,0,none⟩ (.pointer (some ⟨sg,0,none⟩)):=⟨_,rfl⟩
      obtain⟨bs,hbs⟩: ∃bs,bs=W1.heap.size:=⟨_,rfl⟩
      rw[show _=V from hV.symm]
      rw[show W1.heap.size=bs from hbs.symm]
      have hbV:Below W1.heap.size W1 V:=by rw[hV];exact Below.setCell hw5 (Nat.le_refl _) _
      obtain⟨t0,t1,t2,t3⟩:=KS.out V hbV
      have tb:V.cell? ⟨bs,0,none⟩=some (ptrV sg):=by rw[hV,hbs];exact(KB5.out.set_ 0 (ptrV sg)).cell 0
      have hsV: ∃N,RdIs V N m sg (rdNew (x.leaf.p i)) (.slice none 0 0)∧N≤V.heap.size:=by rw[hV];exact⟨_,H5.out.2.1.only0 (ks:=[W1.heap.size]) (Only.setCell (Only.refl _ _) (Or.inl (by simp)) _) (by have h:=H5.out.1;change(W1.alloc _).heap.size≤sg at h;rw[World.size_alloc] at h;simp;omega),Nat.le_trans H5.out.2.2.size (Only.setCell (Only.refl [W1.heap.size] w5) (Or.inl (by simp)) _).size⟩
      have HS:=hid (⟨hsV,hbV,tb,t1⟩:_∧_∧_∧_)
      have hbs1:w.heap.size<bs:=by rw[hbs];have:=HZ.out;omega
      have hne:sg≠bs:=by rw[hbs];have h:=H5.out.1;change(W1.alloc _).heap.size≤sg at h;rw[World.size_alloc] at h;omega
      have hsg1:w.heap.size<sg:=by have:=H5.out.1;have:=HZ.out;(try simp only[World.size_alloc,World.size_drew] at*);omega
      have HN:=hid (⟨hbs1,hne,hsg1⟩:_∧_∧_)
      have TZ:Hid (∀fn c1 c2,Calls Tryz.prog 72 #[ptrV g,.iface 235 (ptrV sg),.func fn c1 c2] V fun e w'=>e= .returned (.tuple #[])∧GtBlk w' g si x (.iface 235 (ptrV sg)) (.func fn c1 c2)∧Only [g] V w'):=hid fun fn c1 c2=>To_z si g x uv fv _ _ _ _ _ V (KB.out V hbV)
      clear hV hbs hbV hsV t0 t2 t3 hbs1 hne hsg1
      go_wp2_with fail
      refine(TZ.out _ _ _).mono ?_
      rintro e w7 ⟨rfl,hB7,ho7⟩
      have H7:=hid (⟨hB7,ho7⟩:_∧_)
      clear hB7 ho7
      go_wp2_with fail
      go_ret
      obtain⟨⟨N,hrd,hNN⟩,_⟩:=HS.out
      exact look_fin HX.out.2 (HX.out.1.trans (HS.out.2.1.mono HX.out.1.size)) HS.out.2.2.2 hrd hNN HS.out.2.2.1 HN.out.2.2 HN.out.1 HN.out.2.1 H7.out.1 H7.out.2)
end Go.Proofs.YtjmaicckkkdjpaaGreat
/- What a get does behind each of its machines. -/
namespace Go.Proofs.YtjmaicckkkdjpaaGreat
open Go.RowKit
attribute [local go_sem ↓ high] nodeLoadAt nodeLoadVar nodeStoreAt rsLoadAt rsLoadVar rsStoreAt gtBuild rsBuild
attribute [local go_sem] ldM_run lvM_run stM_run Oper.semAt_some run_store_fnG bldMg_run neFnE neFnEG
theorem GtGo.only {si m g:Nat} {x:GtP} {w w2 w':World} {r r':Value} {e:Ending} (h:GtGo si m g x w2 r e w') (ho:Only [g] w w2):GtGo si m g x w r' (.returned r') w':=by
 obtain⟨_,f',h1,h2,h3⟩:=h
 exact⟨rfl,f',h1,fun z hz=>Nat.le_trans ho.size (h2 z hz),ho.trans h3 (fun y hy=>Or.inl hy)⟩
def GtAn (si g:Nat) (x:GtP) (uv fv:Value) (w:World) (e:Ending) (w':World):Prop:=e= .returned (.bool true)∧GtBlk w' g si x uv fv∧Only [g] w w'
theorem LastC_z (si g br bg:Nat) (x:GtP) (uv fv:Value) (rc:Int) (rv:ByteArray) (w:World) (hb:GtBlk w g si x uv fv) (hr:Blk w br 41 (respC rc rv)) (hg:w.cell? ⟨bg,0,none⟩=some (ptrV g)):
  Calls Tryz.prog 160 #[.int .i64 0,.pointer (some ⟨br,0,none⟩),.pointer (some ⟨bg,0,none⟩)] w (GtAn si g (x.answer rc rv) uv fv w):=by
 have hld:=resp_ld hr
 have AZ:=hid (Answer_z si g x uv fv rc rv w hb)
 clear hb hr
 go_enter Tryz.func160,Tryz.ntmps160
 go_wp2_with fail
 refine AZ.out.mono ?_
 rintro e w2 ⟨rfl,hB,ho⟩
 have H:=hid (⟨hB,ho⟩:_∧_)
 clear hB ho AZ
 go_wp2_with fail
 go_ret
 exact⟨rfl,H.out⟩
theorem GtBlk.val {w:World} {g si:Nat} {y:GtP} {uv fv:Value} (h:GtBlk w g si y uv fv) (s:ByteArray) (e:Int):GtBlk ((w.setCell ⟨g,28,none⟩ (.string s)).setCell ⟨g,29,none⟩ (.int .i64 e)) g si { y with v:=s,why:=e } uv fv:=(h.set_ 28 (.string s)).set_ 29 (.int .i64 e)
theorem GtBlk.tried {w:World} {g si:Nat} {y:GtP} {uv fv:Value} (h:GtBlk w g si y uv fv):GtBlk (w.setCell ⟨g,5,none⟩ (.int .i64 ((y.tries:Int)+1))) g si { y with tries:=y.tries+1 } uv fv:=h.set_ 5 (.int .i64 ((y.tries:Int)+1))
theorem StillC_z (si m g bg bs sg:Nat) (x:GtP) (y:StP) (uv fv:Value) (hov:y.over=true) (hat:0≤x.at'∧x.at'≤1099511627776) (htr:x.tries<4611686018427387904) (w:World) (hb:GtBlk w g si x uv fv) (hs:StIs w m sg x.leaf y) (hg:w.cell? ⟨bg,0,none⟩=some (ptrV g)) (hsg:w.cell? ⟨bs,0,none⟩=some (ptrV sg)) (hsi:w.cell? ⟨si,0,none⟩=some (ptrV m)) (hne:si≠g) (hbg:bg≠g):
  Calls Tryz.prog 163 #[.int .i64 0,.pointer (some ⟨bg,0,none⟩),.pointer (some ⟨bs,0,none⟩)] w fun e w'=>
   if y.same=false then GtGo si m g { x with tries:=x.tries+1,u:= .walk (wkNew x.client x.key 0) } w (.bool false) e w'
   else if x.why≠0 then GtAn si g (x.answer x.why { data:= #[] }) uv fv w e w' else GtGo si m g (x.lastly 0 x.v) w (.bool false) e w':=by
 have ZZ:=hid (StSame_z m sg x.leaf y hov w hs)
 have c5:w.cell? ⟨g,5,none⟩=some (.int .i64 (x.tries:Int)):=hb.cell 5
 have c8:w.cell? ⟨g,28,none⟩=some (.string x.v):=hb.cell 28
 have c9:w.cell? ⟨g,29,none⟩=some (.int .i64 x.why):=hb.cell 29
 have f5:=hb.frozen 5
 have BL:=fun W=>rs_bld x.why W
 have BV:=fun W=>rs_bldv x.v W
 have HX:=hid (⟨hb,hsi,hne,hbg,hat⟩:_∧_∧_∧_∧_)
 cases hsm:y.same with
 | false=>
  rw[hsm] at ZZ
  simp only[if_true]
  have i1:IntKind.i64.wrap ((x.tries:Int)+1)=(x.tries:Int)+1:=by rw[IntKind.wrap_i64];omega
  obtain⟨V,hV⟩: ∃V,V=w.setCell ⟨g,5,none⟩ (.int .i64 ((x.tries:Int)+1)):=⟨_,rfl⟩
  have hBV:GtBlk V g si { x with tries:=x.tries+1 } uv fv:=by rw[hV];exact GtBlk.tried hb
  have hOV:Only [g] w V:=by rw[hV];exact(by repeat(first | exact Only.refl _ _ | (refine Only.drew ?_) | (refine Only.drewN ?_ _) | (refine Only.setCell ?_ (Or.inl (by simp)) _) | (refine Only.alloc ?_ _)))
  have vg:V.cell? ⟨bg,0,none⟩=some (ptrV g):=(hOV.cell (p:=⟨bg,0,none⟩) (World.block_lt_of_cell? _ _ hg) (by simpa using hbg)).trans hg
  have WZ:=hid (WalkG_z si m g { x with tries:=x.tries+1 } uv fv V hBV)
  have HV:=hid (⟨hV,hOV⟩:_∧_)
  clear hV hBV hOV hb hs hsi hne hbg hat htr hov
  go_enter Tryz.func163,Tryz.ntmps163
  go_wp2_with fail
  refine ZZ.out.mono ?_
  rintro e w1 ⟨rfl,rfl⟩
  go_upto_region 5 with fail
  rw[show _=V from HV.out.1.symm]
  go_wp2_with fail
  refine WZ.out.mono ?_
  intro e w2 hgo
  have he:=hgo.1
  subst he
  have HG:=hid hgo
  clear hgo WZ
  go_wp2_with fail
  go_ret
  exact HG.out.only HV.out.2
 | true=>
  rw[hsm] at ZZ
  simp only[Bool.true_eq_false,if_false]
  by_cases hy:x.why≠0
  ·simp only[if_pos hy]
   have b7:(x.why !=0)=true:=by simpa using hy
   have AZ:=hid (Answer_z si g x uv fv x.why { data:= #[] } w.drew hb.drew)
   clear hb hs hsi hne hbg hat htr hov hy
   go_enter Tryz.func163,Tryz.ntmps163
   go_wp2_with fail
   refine ZZ.out.mono ?_
   rintro e w1 ⟨rfl,rfl⟩
   go_upto_region 8 with fail
   go_region_with
    (first | (go_at_call 74;refine AZ.out.mono ?_;rintro e w2 ⟨rfl,hB,ho⟩;have H:=hid (⟨hB,ho⟩:_∧_);clear hB ho))
   all_goals
    go_wp2_with fail
    go_ret
    exact⟨rfl,H.out.1,(Only.refl [g] w1).drew.trans H.out.2 (fun y hy=>Or.inl hy)⟩
  ·simp only[if_neg hy]
   have b7:(x.why !=0)=false:=by simpa using hy
   have LZ:=hid (Lastly_z si m g x uv fv 0 x.v hat w.drew hb.drew hsi hne)
   clear hb hs hsi hne hbg hat htr hov hy
   go_enter Tryz.func163,Tryz.ntmps163
   go_wp2_with fail
   refine ZZ.out.mono ?_
   rintro e w1 ⟨rfl,rfl⟩
   go_upto_region 9 with fail
   go_region_with
    (first | (go_at_call 123;refine LZ.out.mono ?_;intro e w2 hgo;have he:=hgo.1;subst he;have H:=hid hgo;clear hgo))
   all_goals
    go_wp2_with fail
    go_ret
    exact H.out.only (Only.refl [g] w1).drew
end Go.Proofs.YtjmaicckkkdjpaaGreat
