import Derived.Test.YtjmaicckkkdjpaaGreatF44
set_option maxRecDepth 100000
set_option maxHeartbeats 4000000
set_option linter.unusedVariables false
set_option linter.unusedSimpArgs false
/- What a law asks of a scan. -/
namespace Go.Proofs.YtjmaicckkkdjpaaGreat
open Go.RowKit
attribute [local go_sem ↓ high] nodeLoadAt nodeLoadVar nodeStoreAt rsLoadAt rsLoadVar rsStoreAt rsBuild saLoadAt saStoreAt append_shut2
attribute [local go_sem] ldM_run lvM_run stM_run Oper.semAt_some run_store_fnG bldMg_run appM2_run
def respP (rc:Int) (rv:ByteArray) (v:Value):Array Value:= #[.int .i64 rc,.string rv,v]
theorem respP_turn (c0 c:Int) (s0 s:ByteArray) (v0 v:Value):setL (respP c0 s0 v0) 0 (respP c s v).toList=respP c s v:=by kernel_rfl
theorem respP_stA {w:World} {b:Nat} {c0:Int} {s0:ByteArray} {v0:Value} (h:Blk w b 41 (respP c0 s0 v0)) (c:Int) (s:ByteArray) (a:Option Addr) (n k:Nat): ∃W',stR Tryz.prog 41 (.pointer (some ⟨b,0,none⟩)) (.agg (respP c s (.slice a n k))) w= .ok () W'∧Blk W' b 41 (respP c s (.slice a n k))∧Only [b] w W':=
 ⟨_,Blk.stAt h 0 (by show 0+3≤3;omega) (by kernel_rfl) (by kernel_rfl),by have:=Blk.setCells (respP c s (.slice a n k)).toList 0 h;rw[respP_turn] at this;exact this,Only.setCellsM b _ 0 w⟩
theorem rs_bldp (a:Option Addr) (n k:Nat) (W:World):bldRg Tryz.prog 41 #[(2,.slice a n k)] W= .ok (.agg (respP 0 { data:= #[] } (.slice a n k))) W:=by kernel_rfl
theorem rs_bld0 (W:World):bldRg Tryz.prog 41 #[] W= .ok (.agg (respP 0 { data:= #[] } nilS)) W:=by kernel_rfl
theorem rs_blde (c:Int) (W:World):bldRg Tryz.prog 41 #[(0,.int .i64 c)] W= .ok (.agg (respP c { data:= #[] } nilS)) W:=by kernel_rfl
theorem respP_lv {w:World} {b:Nat} {c:Int} {s:ByteArray} {v:Value} (h:Blk w b 41 (respP c s v)):lvR Tryz.prog 41 ⟨b,0,none⟩ w= .ok (.agg (respP c s v)) w:=h.lv Tryz.underlying41 rfl (by kernel_rfl)
theorem respP_new (w:World):Blk (w.alloc (.cells #[.int .i64 0,.string { data:= #[] },.slice none 0 0] 41)) w.heap.size 41 (respP 0 { data:= #[] } nilS):=Blk.new w 41 (respP 0 { data:= #[] } nilS)
def ScRsp (ps:List (Int×ByteArray)) (w:World) (e:Ending) (w':World):Prop:=
 ∃v,e= .returned (.agg (respP 0 { data:= #[] } v))∧w'.ownsRow w.heap.size 96 2 v ps.length (pc ps)∧Below w.heap.size w w'
section
variable (si m g:Nat) (x:ScP) (f:List Nat)
theorem SResp_not (hd:x.done=false) (w:World) (hs:ScIs w si m g x f):Calls Tryz.prog 32 #[ptrV g] w fun e w'=>e= .returned (.agg (respP 0 { data:= #[] } nilS))∧Below w.heap.size w w':=by
 obtain⟨⟨R,uv,fv,us,bs,hb,_⟩,_⟩:=hs
 obtain⟨W1,hW1⟩: ∃W1,W1=w.alloc (.cells #[.int .i64 0,.string { data:= #[] },.slice none 0 0] 41):=⟨_,rfl⟩
 have k1:Blk W1 w.heap.size 41 (respP 0 { data:= #[] } nilS):=by rw[hW1];exact respP_new w
 have hb1:Below w.heap.size w W1:=by rw[hW1];exact ba (Below.refl _ _) _
 have c36:W1.cell? ⟨g,36,none⟩=some (.bool false):=by rw[←hd];exact(hb.bel hb1).cell 36
 have BL:=fun W=>rs_bld0 W
 obtain⟨W2,hst,k2,o2⟩:=respP_stA k1 0 { data:= #[] } none 0 0
 have hlv:=respP_lv k2
 have HB:=hid (hb1.trans (o2.below (fun y hy=>by simp at hy;omega) hb1.size))
 have HW:=hid hW1
 clear hW1 k1 hb1 hb k2 o2 hd
 go_enter Tryz.func32,Tryz.ntmps32
 go_upto_region 1 with fail
 rw[show _=W1 from HW.out.symm]
 go_wp2_with fail
 refine bodyPost_ret (v:= .agg (respP 0 { data:= #[] } nilS)) (results_cellv rfl _ _ _ _ rfl hlv) rfl ?_
 exact⟨rfl,HB.out⟩
theorem SResp_err (hd:x.done=true) (he:x.e≠0) (w:World) (hs:ScIs w si m g x f):Calls Tryz.prog 32 #[ptrV g] w fun e w'=>e= .returned (.agg (respP x.e { data:= #[] } nilS))∧Below w.heap.size w w':=by
 obtain⟨⟨R,uv,fv,us,bs,hb,_⟩,_⟩:=hs
 obtain⟨W1,hW1⟩: ∃W1,W1=w.alloc (.cells #[.int .i64 0,.string { data:= #[] },.slice none 0 0] 41):=⟨_,rfl⟩
 have k1:Blk W1 w.heap.size 41 (respP 0 { data:= #[] } nilS):=by rw[hW1];exact respP_new w
 have hb1:Below w.heap.size w W1:=by rw[hW1];exact ba (Below.refl _ _) _
 have c36:W1.cell? ⟨g,36,none⟩=some (.bool true):=by rw[←hd];exact(hb.bel hb1).cell 36
 have c37:W1.cell? ⟨g,37,none⟩=some (.int .i64 x.e):=(hb.bel hb1).cell 37
 have b1:(x.e !=0)=true:=by simpa using he
 have BL:=fun W=>rs_blde x.e W
 obtain⟨W2,hst,k2,o2⟩:=respP_stA k1 x.e { data:= #[] } none 0 0
 have hlv:=respP_lv k2
 have HB:=hid (hb1.trans (o2.below (fun y hy=>by simp at hy;omega) hb1.size))
 have HW:=hid hW1
 clear hW1 k1 hb1 hb k2 o2 hd he
 go_enter Tryz.func32,Tryz.ntmps32
 go_upto_region 1 with fail
 rw[show _=W1 from HW.out.symm]
 go_wp2_with fail
 refine bodyPost_ret (v:= .agg (respP x.e { data:= #[] } nilS)) (results_cellv rfl _ _ _ _ rfl hlv) rfl ?_
 exact⟨rfl,HB.out⟩
theorem SResp_z (hd:x.done=true) (he:x.e=0) (hl:x.pairs.length≤1000000) (w:World) (hs:ScIs w si m g x f):Calls Tryz.prog 32 #[ptrV g] w (ScRsp x.pairs w):=by
 obtain⟨⟨R,uv,fv,us,bs,hb,hat,hr,_⟩,_⟩:=hs
 obtain⟨W1,hW1⟩: ∃W1,W1=w.alloc (.cells #[.int .i64 0,.string { data:= #[] },.slice none 0 0] 41):=⟨_,rfl⟩
 have k1:Blk W1 w.heap.size 41 (respP 0 { data:= #[] } nilS):=by rw[hW1];exact respP_new w
 have hb1:Below w.heap.size w W1:=by rw[hW1];exact ba (Below.refl _ _) _
 have c36:W1.cell? ⟨g,36,none⟩=some (.bool true):=by rw[←hd];exact(hb.bel hb1).cell 36
 have c37:W1.cell? ⟨g,37,none⟩=some (.int .i64 0):=by rw[←he];exact(hb.bel hb1).cell 37
 have c34:W1.cell? ⟨g,34,none⟩=some R.pv:=(hb.bel hb1).cell 34
 obtain⟨i0,hi0,hz0,hz1,hz2⟩:=info_parts infoPair
 obtain⟨v',w9,r⟩:=run_app (P:=Tryz.prog) W1 w.heap.size 39 39 96 i0 (.agg #[.int .u64 0,.string ⟨#[]⟩]) 2 24 Tryz.underlying39 hi0 hz0 hz1 hz2 rfl (by decide) nilS 0 [] (World.ownsRow_nil _ _ _ _) R.pv x.pairs.length (pc x.pairs) (own_news (hr.bel hb1).pairs) (pc_length x.pairs) (pc_one _) (by unfold maxLen;omega) (by omega) hb1.size
 rw[Nat.zero_add,List.nil_append] at r
 obtain⟨va,vc,rfl⟩:=row_form1 r.own
 have ho9:Only [] W1 w9:=Only.of_grown (f:=[]) r.grown (fun k hk=>by cases hk)
 have hrun:=r.run
 have BL:=fun W=>rs_bldp va x.pairs.length vc W
 have k9:=ho9.blk k1 (by simp)
 obtain⟨W2,hst,k2,o2⟩:=respP_stA k9 0 { data:= #[] } va x.pairs.length vc
 have hlv:=respP_lv k2
 have hnb: ∀k,(Value.slice va x.pairs.length vc).ownBlock=some k→k∉ [w.heap.size]:=fun k hk hc=>by
  rw[List.mem_singleton] at hc
  subst hc
  rcases r.ob with h | h
  ·rw[h] at hk;cases hk
  ·rw[h] at hk;injection hk with hk;rw[hW1,World.size_alloc] at hk;omega
 have HB:=hid (⟨o2.own r.own hnb,(hb1.trans (ho9.below (by simp) hb1.size)).trans (o2.below (fun y hy=>by simp at hy;omega) (Nat.le_trans hb1.size ho9.size))⟩:_∧_)
 have HW:=hid hW1
 clear hW1 k1 hb1 hb k2 o2 hd he hat hr r ho9 k9 hnb
 obtain⟨n,hn⟩: ∃n,n=x.pairs.length:=⟨_,rfl⟩
 rw[←hn] at hrun hst hlv HB BL
 have HN:=hid hn
 clear hn hl
 go_enter Tryz.func32,Tryz.ntmps32
 go_upto_region 1 with fail
 rw[show _=W1 from HW.out.symm]
 go_wp2_with fail
 refine bodyPost_ret (v:= .agg (respP 0 { data:= #[] } (.slice va n vc))) (results_cellv rfl _ _ _ _ rfl hlv) rfl ?_
 exact⟨_,rfl,by rw[←HN.out];exact HB.out.1,HB.out.2⟩
theorem STries_z (w:World) (hs:ScIs w si m g x f):Calls Tryz.prog 38 #[ptrV g] w fun e w'=>e= .returned (.int .i64 (x.tries:Int))∧w'=w:=by
 obtain⟨⟨R,uv,fv,us,bs,hb,_⟩,_⟩:=hs
 have c5:w.cell? ⟨g,35,none⟩=some (.int .i64 (x.tries:Int)):=hb.cell 35
 clear hb
 go_enter Tryz.func38,Tryz.ntmps38
 go_wp2
 go_ret
 exact⟨rfl,rfl⟩
end
end Go.Proofs.YtjmaicckkkdjpaaGreat
/- The law steps a scan till it is done. -/
namespace Go.Proofs.YtjmaicckkkdjpaaGreat
open Go.RowKit
section
attribute [local go_sem ↓ high] nodeLoadAt nodeLoadVar nodeStoreAt rsLoadAt rsLoadVar rsStoreAt rsBuild saLoadAt saStoreAt
attribute [local go_sem] ldM_run lvM_run stM_run Oper.semAt_some run_store_fnG bldMg_run
theorem SDid_z (m:Nat) (B:MB) (M:MemS) (w:World) (h:MemIs w m B M):Calls Tryz.prog 117 #[ptrV m] w fun e w'=>e= .returned (.tuple #[.int .u64 (didV M.st),.int .u64 M.st.b])∧Below w.heap.size w w':=by
 have SZ:=hid (Stats_m m B M.view.length M.st h.pos w h.blk)
 obtain⟨s,hs⟩: ∃s,s=M.st:=⟨_,rfl⟩
 rw[←hs] at SZ ⊢
 obtain⟨a,b,c,d⟩:=s
 unfold didV
 have HN:Hid (∀w1,Below w.heap.size w w1→ ∃W2,stR Tryz.prog 122 (.pointer (some ⟨w1.heap.size,0,none⟩)) (.agg #[.int .u64 a,.int .u64 b,.int .u64 c,.int .u64 d]) (w1.alloc (.cells #[.int .u64 0,.int .u64 0,.int .u64 0,.int .u64 0] 122))= .ok () W2∧Blk W2 w1.heap.size 122 (statC ⟨a,b,c,d⟩)∧Below w.heap.size w W2):=hid fun w1 hb=>by
  obtain⟨W2,h1,h2,o2⟩:=stat_stA (Blk.new w1 122 (statC ⟨0,0,0,0⟩)) ⟨a,b,c,d⟩
  exact⟨W2,h1,h2,(ba hb _).trans (o2.below (fun y hy=>by simp at hy;have:=hb.size;omega) (ba hb _).size)⟩
 clear h hs
 go_enter Tryz.func117,Tryz.ntmps117
 go_wp2_with fail
 refine SZ.out.mono ?_
 rintro e w1 ⟨rfl,hb1⟩
 obtain⟨W2,hst,k2,hb2⟩:=HN.out w1 hb1
 have c0:W2.cell? ⟨w1.heap.size,0,none⟩=some (.int .u64 a):=k2.cell 0
 have c1:W2.cell? ⟨w1.heap.size,1,none⟩=some (.int .u64 b):=k2.cell 1
 have c2:W2.cell? ⟨w1.heap.size,2,none⟩=some (.int .u64 c):=k2.cell 2
 have c3:W2.cell? ⟨w1.heap.size,3,none⟩=some (.int .u64 d):=k2.cell 3
 have HB:=hid hb2
 clear hb1 k2 hb2 HN SZ
 go_upto_region 2 with fail
 go_quiet (fail)
 go_wp2_with fail
 go_ret2
 exact⟨rfl,HB.out.trans ((Only.refl [] W2).drewN nq |>.below (by simp) HB.out.size)⟩
end
def ScDid (si m g:Nat) (B:MB) (M:MemS) (K:Nat) (x:ScP) (f:List Nat) (w:World) (e:Ending) (w':World):Prop:=
 e= .returned (.tuple #[.bool (x.next M.view).done,.bool true])∧ ∃M' f',MSt m B K w M w' M' (x.eff (absM M)) (g::f)∧ScIs w' si m g (x.next M.view) f'∧ ∀y∈f',y∈f∨(w.heap.size≤y∧y∉footM m B M')
theorem SLStep_z (si m g:Nat) (B:MB) (M:MemS) (K:Nat) (x:ScP) (f:List Nat) (hok:ScOK M.view x) (w:World) (hin:WkIn w si m g B M K f) (hs:ScIs w si m g x f):
  Calls Tryz.prog 63 #[ptrV m,ptrV g] w (ScDid si m g B M K x f w):=by
 have D1:=hid (SDid_z m B M w hin.mem.is)
 have SZ:Hid (∀w1,Below w.heap.size w w1→Calls Tryz.prog 37 #[ptrV g] w1 (ScPost si m g B M K x f w1)):=hid fun w1 hb=>ScStep_z si m g B M K x f hok w1 (hin.bel hb) (hs.only (Only.of_below hb []) (by simp) (by simp))
 unfold ScDid
 obtain⟨X,hX⟩: ∃X,X=x.next M.view:=⟨_,rfl⟩
 rw[←hX]
 have HX:=hid hX
 clear hok hin hs hX
 go_enter Tryz.func63,Tryz.ntmps63
 go_wp2_with fail
 refine D1.out.mono ?_
 rintro e w1 ⟨rfl,hb1⟩
 have S1:=hid (SZ.out w1 hb1)
 have HB1:=hid hb1
 clear hb1 SZ D1
 go_wp2_with fail
 refine S1.out.mono ?_
 intro e w2 hp
 unfold ScPost at hp
 rw[←HX.out] at hp
 unfold outS at hp
 obtain⟨rfl,M',f',hM,hI,hf⟩:=hp
 have D2:=hid (SDid_z m B M' w2 hM.mems.is)
 have b9:(M.st.b==M'.st.b)=true:=by
  obtain⟨i,j,k,_,_,h2,_,_⟩:=hM.st
  rw[h2];simp
 have b8:decide (IntKind.u64.wrap (didV M'.st-didV M.st)≤1)=true:=decide_eq_true (by
  obtain⟨i,j,k,h0,h1,h2,h3,h4⟩:=hM.st
  exact didV_step i j k h0 h1 h2 h3 h4)
 have H2:=hid (⟨hM,hI,hf⟩:_∧_∧_)
 clear hM hI hf S1
 go_wp2_with fail
 refine D2.out.mono ?_
 rintro e w3 ⟨rfl,hb3⟩
 have HB3:=hid hb3
 clear hb3 D2
 go_wp2_with fail
 go_ret2
 refine⟨rfl,M',f',((H2.out.1.ahead HB1.out).turn (js:=[]) (Only.of_below HB3.out []) (fun x hx=>by cases hx)),H2.out.2.1.only (Only.of_below HB3.out []) (by simp) (by simp),fun y hy=>(H2.out.2.2 y hy).imp id (fun h=>⟨Nat.le_trans HB1.out.size h.1,h.2⟩)⟩
theorem ScU.at.lt {w:World} {si m g:Nat} {n:NodeA} {ky:Int} {u:ScU} {uv fv:Value} {us bs:List Nat} (h:u.at w si m g n ky uv fv us bs): ∀z∈us++bs,z<w.heap.size:=by
 have hc: ∀{b:Nat} {v:Value},w.cell? ⟨b,0,none⟩=some v→b<w.heap.size:=fun h2=>World.block_lt_of_cell? _ _ h2
 cases u with
 | walk y=>
  obtain⟨wg,f0,bg,bw,rfl,rfl,h1,h2,h3,rfl,rfl⟩:=h
  intro z hz
  simp at hz
  rcases hz with rfl | hz | rfl | rfl
  ·exact h1.lt.1
  ·exact h1.lt.2 z hz
  ·exact hc h2
  ·exact hc h3
 | read y=>
  obtain⟨rg,lv,br,bg,be,pt,N,rfl,rfl,h1,h4,h2,h3,h5,rfl,rfl⟩:=h
  intro z hz
  simp at hz
  rcases hz with rfl | hz | rfl | rfl | rfl
  ·exact h1.blk.lt
  ·exact own_blt h1.own hz
  ·exact hc h2
  ·exact hc h3
  ·exact h5.lt
 | still y=>
  obtain⟨sg,bg,bs',rfl,rfl,h1,h2,h3,rfl,rfl⟩:=h
  intro z hz
  simp at hz
  rcases hz with rfl | rfl | rfl
  ·exact h1.blk.lt
  ·exact hc h2
  ·exact hc h3
 | last l=>
  obtain⟨lg,lr,rfl,rfl,h1,rfl,rfl⟩:=h
  intro z hz
  simp at hz
  rcases hz with rfl | rfl
  ·obtain⟨p,c,h5,_⟩:=h1.blk;exact h5.lt
  ·exact h1.rlt
theorem ScIs.lt {w:World} {si m g:Nat} {x:ScP} {f:List Nat} (h:ScIs w si m g x f):g<w.heap.size∧ ∀z∈f,z<w.heap.size:=by
 obtain⟨⟨R,uv,fv,us,bs,h1,h2,h3,rfl,h4⟩,h5⟩:=h
 refine⟨h1.lt,fun z hz=> ?_⟩
 rcases List.mem_append.1 hz with h | h
 ·exact h2.lt z (List.mem_append_left _ h)
 ·rcases List.mem_append.1 h with h | h
  ·exact h2.lt z (List.mem_append_right _ h)
  ·exact h3.lt z h
theorem eff_viewS (x:ScP) (A:MA):(x.eff A).view=A.view:=by
 unfold ScP.eff
 split
 ·rename_i y _
  exact eff_view { gtNew 0 0 with u:= .walk y } A
 ·rename_i l _
  exact eff_view { gtNew 0 0 with u:= .last l 0 { data:= #[] } } A
 ·rfl
def SQ (V:List Int) (M:MemS):Prop:=M.image=V∧M.lines=[]
theorem fenceA_noS {A:MA} (h:A.lines=[]) (c:Nat):fenceA A c=A:=by
 obtain⟨v,i,l⟩:=A
 subst h
 unfold fenceA
 congr 1
 exact List.ext_getElem? fun j=>by simp[List.getElem?_mapIdx]
theorem eff_quietS (x:ScP) {A:MA} (h:A.lines=[]):x.eff A=A:=by
 have hl: ∀l:LtP,l.eff A=A:=fun l=>by
  unfold LtP.eff
  split
  ·rfl
  ·split
   ·obtain⟨v,i,ls⟩:=A
    subst h
    rfl
   ·exact fenceA_noS h _
 unfold ScP.eff
 split
 ·unfold WkP.eff
  split
  ·rfl
  ·split
   ·exact hl _
   ·rfl
 ·exact hl _
 ·rfl
theorem SQ.next {M M':MemS} {V:List Int} (h:SQ V M) (x:ScP) (ha:absM M'=x.eff (absM M)):SQ V M':=by
 have hl:(absM M).lines=[]:=by show M.lines.map absL=[];rw[h.2];rfl
 rw[eff_quietS x hl] at ha
 have h2:=congrArg MA.image ha
 have h3:=congrArg MA.lines ha
 have h4:M'.lines.map absL=[]:=by
  have:M'.lines.map absL=(absM M).lines:=h3
  rw[this,hl]
 exact⟨h2.trans h.1,List.map_eq_nil_iff.1 h4⟩
structure ScWh (P:Nat→ScP→Prop) (V:List Int) (si m g:Nat) (B:MB) (K:Nat) (M0:MemS) (f0:List Nat) (w:World) (n:Nat) (x:ScP) (M:MemS) (f:List Nat) (wr:World):Prop where
 st:P n x
 inn:WkIn wr si m g B M K f
 is:ScIs wr si m g x f
 view:M.view=V
 only:Only (g::f0++footM m B M0) w wr
 fresh: ∀y∈f,y∈f0∨w.heap.size≤y
 foot: ∀k∈footM m B M,k∈footM m B M0∨w.heap.size≤k
 quiet:SQ V M0→SQ V M
structure ScAll (Fin:ScP→Prop) (V:List Int) (si m g:Nat) (B:MB) (K:Nat) (M0:MemS) (f0:List Nat) (w:World) (x:ScP) (M:MemS) (f:List Nat) (wr:World):Prop where
 fin:Fin x
 inn:WkIn wr si m g B M K f
 is:ScIs wr si m g x f
 view:M.view=V
 only:Only (g::f0++footM m B M0) w wr
 fresh: ∀y∈f,y∈f0∨w.heap.size≤y
 foot: ∀k∈footM m B M,k∈footM m B M0∨w.heap.size≤k
 quiet:SQ V M0→SQ V M
theorem ScWh.step {P:Nat→ScP→Prop} {V:List Int} {si m g:Nat} {B:MB} {K:Nat} {M0 M M':MemS} {f0 f f':List Nat} {w wr w':World} {n:Nat} {x:ScP} (h:ScWh P V si m g B K M0 f0 w n x M f wr)
  (hM:MSt m B K wr M w' M' (x.eff (absM M)) (g::f)) (hI:ScIs w' si m g (x.next V) f') (hf: ∀y∈f',y∈f∨(wr.heap.size≤y∧y∉footM m B M')):
  WkIn w' si m g B M' K f'∧M'.view=V∧Only (g::f0++footM m B M0) w w'∧(∀y∈f',y∈f0∨w.heap.size≤y)∧(∀k∈footM m B M',k∈footM m B M0∨w.heap.size≤k)∧(SQ V M0→SQ V M'):=by
 obtain⟨hgl,hfl⟩:=h.is.lt
 refine⟨h.inn.next hgl hfl hM hf,?_,h.only.trans hM.only ?_,?_,?_,fun hq=>(h.quiet hq).next x hM.abs⟩
 ·have:=congrArg MA.view hM.abs
  rw[eff_viewS] at this
  rw[←h.view];exact this
 ·intro y hy
  rcases List.mem_append.1 hy with h1 | h1
  ·rcases List.mem_cons.1 h1 with rfl | h1
   ·exact Or.inl (by simp)
   ·exact(h.fresh y h1).imp (fun h=>by simp[h]) id
  ·exact(h.foot y h1).imp (fun h=>by simp[h]) id
 ·intro y hy
  rcases hf y hy with h1 | h1
  ·exact h.fresh y h1
  ·exact Or.inr (Nat.le_trans h.only.size h1.1)
 ·intro k hk
  rcases hM.foot k hk with h1 | h1
  ·exact h.foot k h1
  ·exact Or.inr (Nat.le_trans h.only.size h1)
theorem SLWhole_z (P:Nat→ScP→Prop) (Fin:ScP→Prop) (V:List Int)
  (hP: ∀n x,P n x→0<n∧ScOK V x∧((∃n',n'<n∧(x.next V).done=false∧P n' (x.next V))∨(Fin (x.next V)∧(x.next V).done=true)))
  (L n:Nat) (hn:n≤L) (hL:L<4611686018427387904) (si m g:Nat) (B:MB) (M:MemS) (K:Nat) (x:ScP) (f:List Nat) (hV:M.view=V) (hx:P n x) (w:World) (hin:WkIn w si m g B M K f) (hs:ScIs w si m g x f):
  Calls Tryz.prog 30 #[ptrV m,ptrV g,.int .i64 (L:Int)] w fun e w'=> ∃x' M' f',e= .returned (.bool true)∧ScAll Fin V si m g B K M f w x' M' f' w':=by
 have H0:Hid (ScWh P V si m g B K M f w n x M f w):=hid ⟨hx,hin,hs,hV,Only.refl _ _,fun y hy=>Or.inl hy,fun k hk=>Or.inl hk,fun h=>h⟩
 have HP:=hid hP
 have HL:=hid hL
 have HN:=hid hn
 clear hP hn hV hx hin hs hL
 go_enter Tryz.func30,Tryz.ntmps30
 go_wp2
 go_loopw [7] (fun i wr=> ∃(k n':Nat) (x':ScP) (M':MemS) (f':List Nat),i= .int .i64 (k:Int)∧k+n'≤n∧Hid (ScWh P V si m g B K M f w n' x' M' f' wr)) (fun i _=>L- (intOf i).toNat)
 case atStart=>exact⟨0,n,x,M,f,rfl,by omega,H0⟩
 case round=>
  obtain⟨k,n',x',M',f',rfl,hk,hI⟩:=hrel
  obtain⟨h0,hok,hst⟩:=HP.out n' x' hI.out.st
  have SZ:=hid (SLStep_z si m g B M' K x' f' (by rw[hI.out.view];exact hok) wr hI.out.inn hI.out.is)
  have i1:(k:Int)< (L:Int):=by have:=HN.out;omega
  have i2:IntKind.i64.wrap ((k:Int)+1)=(k:Int)+1:=by rw[IntKind.wrap_i64];have:=HN.out;have:=HL.out;omega
  obtain⟨X,hX⟩: ∃X,X=x'.next M'.view:=⟨_,rfl⟩
  unfold ScDid at SZ
  rw[←hX] at SZ
  rw[←hI.out.view,←hX] at hst
  have HS:=hid (⟨hst,hX,h0,hk⟩:_∧_∧_∧_)
  clear hst hok hk h0
  cases hd:X.done with
  | false=>
   rw[hd] at SZ
   have HD:=hid hd
   clear hd hX
   go_wp2_with fail
   refine SZ.out.mono ?_
   rintro e w2 ⟨rfl,M2,f2,hM,hI2,hf⟩
   have H2:=hid (⟨hM,hI2,hf⟩:_∧_∧_)
   clear hM hI2 hf SZ
   go_wp2_with fail
   go_roundw
   case rel=>
    obtain⟨hM,hI2,hf⟩:=H2.out
    obtain⟨hst,hX,h0,hk⟩:=HS.out
    rcases hst with⟨n2,hn2,_,hp2⟩ | ⟨_,h1⟩
    ·rw[hX,hI.out.view] at hI2 hp2
     obtain⟨a1,a2,a3,a4,a5,a6⟩:=hI.out.step hM hI2 hf
     exact⟨k+1,n2,_,M2,f2,by push_cast;rfl,by omega,hid ⟨hp2,a1,hI2,a2,a3,a4,a5,a6⟩⟩
    ·rw[HD.out] at h1;cases h1
   case measure=>simp[intOf];have:=HS.out.2.2.2;have:=HS.out.2.2.1;have:=HN.out;omega
  | true=>
   rw[hd] at SZ
   have HD:=hid hd
   clear hd hX
   go_wp2_with fail
   refine SZ.out.mono ?_
   rintro e w2 ⟨rfl,M2,f2,hM,hI2,hf⟩
   have H2:=hid (⟨hM,hI2,hf⟩:_∧_∧_)
   clear hM hI2 hf SZ
   go_wp2_with fail
   go_ret
   obtain⟨hM,hI2,hf⟩:=H2.out
   obtain⟨hst,hX,h0,hk⟩:=HS.out
   rcases hst with⟨n2,hn2,h1,hp2⟩ | ⟨hF,h1⟩
   ·rw[HD.out] at h1;cases h1
   ·rw[hX,hI.out.view] at hI2 hF
    obtain⟨a1,a2,a3,a4,a5,a6⟩:=hI.out.step hM hI2 hf
    exact⟨_,M2,f2,rfl,hF,a1,hI2,a2,a3,a4,a5,a6⟩
end Go.Proofs.YtjmaicckkkdjpaaGreat
