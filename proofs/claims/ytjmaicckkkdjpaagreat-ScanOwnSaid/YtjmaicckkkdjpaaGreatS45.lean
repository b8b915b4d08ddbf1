import Derived.Test.YtjmaicckkkdjpaaGreatS44
import Derived.Test.YtjmaicckkkdjpaaGreatS05
set_option maxRecDepth 100000
set_option maxHeartbeats 4000000
set_option linter.unusedVariables false
set_option linter.unusedSimpArgs false
/- What a law asks of a scan. -/
namespace Go.Proofs.YtjmaicckkkdjpaaGreat
open Go.RowKit
attribute [local go_sem ↓ high] nodeLoadAt nodeLoadVar nodeStoreAt rsLoadAt rsLoadVar rsStoreAt rsBuild saLoadAt saStoreAt append_shut2
attribute [local go_sem] ldM_run lvM_run stM_run Oper.semAt_some run_store_fnG bldMg_run appM2_run
def respP (rc:Int) (rv:ByteArray) (v:Value):Array Value:= #[.int .i64 rc,.string rv,v]
theorem respP_turn (c0 c:Int) (s0 s:ByteArray) (v0 v:Value):setL (respP c0 s0 v0) 0 (respP c s v).toList=respP c s v:=by kernel_rfl
theorem respP_stA {w:World} {b:Nat} {c0:Int} {s0:ByteArray} {v0:Value} (h:Blk w b 41 (respP c0 s0 v0)) (c:Int) (s:ByteArray) (a:Option Addr) (n k:Nat): ∃W',stR Tryz.prog 41 (.pointer (some ⟨b,0,none⟩)) (.agg (respP c s (.slice a n k))) w= .ok () W'∧Blk W' b 41 (respP c s (.slice a n k))∧Only [b] w W':=
 ⟨_,Blk.stAt h 0 (by show 0+3≤3;omega) (by kernel_rfl) (by kernel_rfl),by have:=Blk.setCells (respP c s (.slice a n k)).toList 0 h;rw[respP_turn] at this;exact this,Only.setCellsM b _ 0 w⟩
theorem rs_bldp (a:Option Addr) (n k:Nat) (W:World):bldRg Tryz.prog 41 #[(2,.slice a n k)] W= .ok (.agg (respP 0 { data:= #[] } (.slice a n k))) W:=by kernel_rfl
theorem respP_lv {w:World} {b:Nat} {c:Int} {s:ByteArray} {v:Value} (h:Blk w b 41 (respP c s v)):lvR Tryz.prog 41 ⟨b,0,none⟩ w= .ok (.agg (respP c s v)) w:=h.lv Tryz.underlying41 rfl (by kernel_rfl)
theorem respP_new (w:World):Blk (w.alloc (.cells #[.int .i64 0,.string { data:= #[] },.slice none 0 0] 41)) w.heap.size 41 (respP 0 { data:= #[] } nilS):=Blk.new w 41 (respP 0 { data:= #[] } nilS)
def ScRsp (ps:List (Int×ByteArray)) (w:World) (e:Ending) (w':World):Prop:=
 ∃v,e= .returned (.agg (respP 0 { data:= #[] } v))∧w'.ownsRow w.heap.size 96 2 v ps.length (pc ps)∧Below w.heap.size w w'
section
variable (si m g:Nat) (x:ScP) (f:List Nat)
theorem SResp_z (hd:x.done=true) (he:x.e=0) (hl:x.pairs.length≤1000000) (w:World) (hs:ScIs w si m g x f):Calls Tryz.prog 32 #[ptrV g] w (ScRsp x.pairs w):=by
 obtain⟨⟨R,uv,fv,us,bs,hb,hat,hr,_⟩,_⟩:=hs
 obtain⟨W1,hW1⟩: ∃W1,W1=w.alloc (.cells #[.int .i64 0,.string { data:= #[] },.slice none 0 0] 41):=⟨_,rfl⟩
 have k1:Blk W1 w.heap.size 41 (respP 0 { data:= #[] } nilS):=by rw[hW1];exact respP_new w
 have hb1:Below w.heap.size w W1:=by rw[hW1];exact ba (Below.refl _ _) _
 have c36:W1.cell? ⟨g,36,none⟩=some (.bool true):=by rw[←hd];exact(hb.bel hb1).cell 36
 have c37:W1.cell? ⟨g,37,none⟩=some (.int .i64 0):=by rw[←he];exact(hb.bel hb1).cell 37
 have c34:W1.cell? ⟨g,34,none⟩=some R.pv:=(hb.bel hb1).cell 34
 obtain⟨i0,hi0,hz0,hz1,hz2⟩:=info_parts infoPair
 obtain⟨v',w9,r⟩:=run_app (P:=Tryz.prog) W1 w.heap.size 39 39 96 i0 (.agg #[.int .u64 0,.string ⟨#[]⟩]) 2 24 Tryz.underlying39 hi0 hz0 hz1 hz2 rfl (by decide) nilS 0 [] (World.ownsRow_nil _ _ _ _) R.pv x.pairs.length (pc x.pairs) (own_news (hr.bel hb1).pairs) (pc_length x.pairs) (pc_one _) (by unfold maxLen;omega) (by omega) hb1.size
 rw[Nat.zero_add,List.nil_append] at r
 obtain⟨va,vc,rfl⟩:=row_form1 r.own
 have ho9:Only [] W1 w9:=Only.of_grown (f:=[]) r.grown (fun k hk=>by cases hk)
 have hrun:=r.run
 have BL:=fun W=>rs_bldp va x.pairs.length vc W
 have k9:=ho9.blk k1 (by simp)
 obtain⟨W2,hst,k2,o2⟩:=respP_stA k9 0 { data:= #[] } va x.pairs.length vc
 have hlv:=respP_lv k2
 have hnb: ∀k,(Value.slice va x.pairs.length vc).ownBlock=some k→k∉ [w.heap.size]:=fun k hk hc=>by
  rw[List.mem_singleton] at hc
  subst hc
  rcases r.ob with h | h
  ·rw[h] at hk;cases hk
  ·rw[h] at hk;injection hk with hk;rw[hW1,World.size_alloc] at hk;omega
 have HB:=hid (⟨o2.own r.own hnb,(hb1.trans (ho9.below (by simp) hb1.size)).trans (o2.below (fun y hy=>by simp at hy;omega) (Nat.le_trans hb1.size ho9.size))⟩:_∧_)
 have HW:=hid hW1
 clear hW1 k1 hb1 hb k2 o2 hd he hat hr r ho9 k9 hnb
 obtain⟨n,hn⟩: ∃n,n=x.pairs.length:=⟨_,rfl⟩
 rw[←hn] at hrun hst hlv HB BL
 have HN:=hid hn
 clear hn hl
 go_enter Tryz.func32,Tryz.ntmps32
 go_upto_region 1 with fail
 rw[show _=W1 from HW.out.symm]
 go_wp2_with fail
 refine bodyPost_ret (v:= .agg (respP 0 { data:= #[] } (.slice va n vc))) (results_cellv rfl _ _ _ _ rfl hlv) rfl ?_
 exact⟨_,rfl,by rw[←HN.out];exact HB.out.1,HB.out.2⟩
end
end Go.Proofs.YtjmaicckkkdjpaaGreat
/- The law steps a scan till it is done. -/
namespace Go.Proofs.YtjmaicckkkdjpaaGreat
open Go.RowKit
section
attribute [local go_sem ↓ high] nodeLoadAt nodeLoadVar nodeStoreAt rsLoadAt rsLoadVar rsStoreAt rsBuild saLoadAt saStoreAt
attribute [local go_sem] ldM_run lvM_run stM_run Oper.semAt_some run_store_fnG bldMg_run
theorem SDid_z (m:Nat) (B:MB) (M:MemS) (w:World) (h:MemIs w m B M):Calls Tryz.prog 117 #[ptrV m] w fun e w'=>e= .returned (.tuple #[.int .u64 (didV M.st),.int .u64 M.st.b])∧Below w.heap.size w w':=by
 have SZ:=hid (Stats_m m B M.view.length M.st h.pos w h.blk)
 obtain⟨s,hs⟩: ∃s,s=M.st:=⟨_,rfl⟩
 rw[←hs] at SZ ⊢
 obtain⟨a,b,c,d⟩:=s
 unfold didV
 have HN:Hid (∀w1,Below w.heap.size w w1→ ∃W2,stR Tryz.prog 122 (.pointer (some ⟨w1.heap.size,0,none⟩)) (.agg #[.int .u64 a,.int .u64 b,.int .u64 c,.int .u64 d]) (w1.alloc (.cells #[.int .u64 0,.int .u64 0,.int .u64 0,.int .u64 0] 122))= .ok () W2∧Blk W2 w1.heap.size 122 (statC ⟨a,b,c,d⟩)∧Below w.heap.size w W2):=hid fun w1 hb=>by
  obtain⟨W2,h1,h2,o2⟩:=stat_stA (Blk.new w1 122 (statC ⟨0,0,0,0⟩)) ⟨a,b,c,d⟩
  exact⟨W2,h1,h2,(ba hb _).trans (o2.below (fun y hy=>by simp at hy;have:=hb.size;omega) (ba hb _).size)⟩
 clear h hs
 go_enter Tryz.func117,Tryz.ntmps117
 go_wp2_with fail
 refine SZ.out.mono ?_
 rintro e w1 ⟨rfl,hb1⟩
 obtain⟨W2,hst,k2,hb2⟩:=HN.out w1 hb1
 have c0:W2.cell? ⟨w1.heap.size,0,none⟩=some (.int .u64 a):=k2.cell 0
 have c1:W2.cell? ⟨w1.heap.size,1,none⟩=some (.int .u64 b):=k2.cell 1
 have c2:W2.cell? ⟨w1.heap.size,2,none⟩=some (.int .u64 c):=k2.cell 2
 have c3:W2.cell? ⟨w1.heap.size,3,none⟩=some (.int .u64 d):=k2.cell 3
 have HB:=hid hb2
 clear hb1 k2 hb2 HN SZ
 go_upto_region 2 with fail
 go_quiet (fail)
 go_wp2_with fail
 go_ret2
 exact⟨rfl,HB.out.trans ((Only.refl [] W2).drewN nq |>.below (by simp) HB.out.size)⟩
end
def ScDid (si m g:Nat) (B:MB) (M:MemS) (K:Nat) (x:ScP) (f:List Nat) (w:World) (e:Ending) (w':World):Prop:=
 e= .returned (.tuple #[.bool (x.next M.view).done,.bool true])∧ ∃M' f',MSt m B K w M w' M' (x.eff (absM M)) (g::f)∧ScIs w' si m g (x.next M.view) f'∧ ∀y∈f',y∈f∨(w.heap.size≤y∧y∉footM m B M')
theorem SLStep_z (si m g:Nat) (B:MB) (M:MemS) (K:Nat) (x:ScP) (f:List Nat) (hok:ScOK M.view x) (w:World) (hin:WkIn w si m g B M K f) (hs:ScIs w si m g x f):
  Calls Tryz.prog 63 #[ptrV m,ptrV g] w (ScDid si m g B M K x f w):=by
 have D1:=hid (SDid_z m B M w hin.mem.is)
 have SZ:Hid (∀w1,Below w.heap.size w w1→Calls Tryz.prog 37 #[ptrV g] w1 (ScPost si m g B M K x f w1)):=hid fun w1 hb=>ScStep_z si m g B M K x f hok w1 (hin.bel hb) (hs.only (Only.of_below hb []) (by simp) (by simp))
 unfold ScDid
 obtain⟨X,hX⟩: ∃X,X=x.next M.view:=⟨_,rfl⟩
 rw[←hX]
 have HX:=hid hX
 clear hok hin hs hX
 go_enter Tryz.func63,Tryz.ntmps63
 go_wp2_with fail
 refine D1.out.mono ?_
 rintro e w1 ⟨rfl,hb1⟩
 have S1:=hid (SZ.out w1 hb1)
 have HB1:=hid hb1
 clear hb1 SZ D1
 go_wp2_with fail
 refine S1.out.mono ?_
 intro e w2 hp
 unfold ScPost at hp
 rw[←HX.out] at hp
 unfold outS at hp
 obtain⟨rfl,M',f',hM,hI,hf⟩:=hp
 have D2:=hid (SDid_z m B M' w2 hM.mems.is)
 have b9:(M.st.b==M'.st.b)=true:=by
  obtain⟨i,j,k,_,_,h2,_,_⟩:=hM.st
  rw[h2];simp
 have b8:decide (IntKind.u64.wrap (didV M'.st-didV M.st)≤1)=true:=decide_eq_true (by
  obtain⟨i,j,k,h0,h1,h2,h3,h4⟩:=hM.st
  exact didV_step i j k h0 h1 h2 h3 h4)
 have H2:=hid (⟨hM,hI,hf⟩:_∧_∧_)
 clear hM hI hf S1
 go_wp2_with fail
 refine D2.out.mono ?_
 rintro e w3 ⟨rfl,hb3⟩
 have HB3:=hid hb3
 clear hb3 D2
 go_wp2_with fail
 go_ret2
 refine⟨rfl,M',f',((H2.out.1.ahead HB1.out).turn (js:=[]) (Only.of_below HB3.out []) (fun x hx=>by cases hx)),H2.out.2.1.only (Only.of_below HB3.out []) (by simp) (by simp),fun y hy=>(H2.out.2.2 y hy).imp id (fun h=>⟨Nat.le_trans HB1.out.size h.1,h.2⟩)⟩
theorem ScU.at.lt {w:World} {si m g:Nat} {n:NodeA} {ky:Int} {u:ScU} {uv fv:Value} {us bs:List Nat} (h:u.at w si m g n ky uv fv us bs): ∀z∈us++bs,z<w.heap.size:=by
 have hc: ∀{b:Nat} {v:Value},w.cell? ⟨b,0,none⟩=some v→b<w.heap.size:=fun h2=>World.block_lt_of_cell? _ _ h2
 cases u with
 | walk y=>
  obtain⟨wg,f0,bg,bw,rfl,rfl,h1,h2,h3,rfl,rfl⟩:=h
  intro z hz
  simp at hz
  rcases hz with rfl | hz | rfl | rfl
  ·exact h1.lt.1
  ·exact h1.lt.2 z hz
  ·exact hc h2
  ·exact hc h3
 | read y=>
  obtain⟨rg,lv,br,bg,be,pt,N,rfl,rfl,h1,h4,h2,h3,h5,rfl,rfl⟩:=h
  intro z hz
  simp at hz
  rcases hz with rfl | hz | rfl | rfl | rfl
  ·exact h1.blk.lt
  ·exact own_blt h1.own hz
  ·exact hc h2
  ·exact hc h3
  ·exact h5.lt
 | still y=>
  obtain⟨sg,bg,bs',rfl,rfl,h1,h2,h3,rfl,rfl⟩:=h
  intro z hz
  simp at hz
  rcases hz with rfl | rfl | rfl
  ·exact h1.blk.lt
  ·exact hc h2
  ·exact hc h3
 | last l=>
  obtain⟨lg,lr,rfl,rfl,h1,rfl,rfl⟩:=h
  intro z hz
  simp at hz
  rcases hz with rfl | rfl
  ·obtain⟨p,c,h5,_⟩:=h1.blk;exact h5.lt
  ·exact h1.rlt
theorem ScIs.lt {w:World} {si m g:Nat} {x:ScP} {f:List Nat} (h:ScIs w si m g x f):g<w.heap.size∧ ∀z∈f,z<w.heap.size:=by
 obtain⟨⟨R,uv,fv,us,bs,h1,h2,h3,rfl,h4⟩,h5⟩:=h
 refine⟨h1.lt,fun z hz=> ?_⟩
 rcases List.mem_append.1 hz with h | h
 ·exact h2.lt z (List.mem_append_left _ h)
 ·rcases List.mem_append.1 h with h | h
  ·exact h2.lt z (List.mem_append_right _ h)
  ·exact h3.lt z h
theorem eff_viewS (x:ScP) (A:MA):(x.eff A).view=A.view:=by
 unfold ScP.eff
 split
 ·rename_i y _
  exact eff_view { gtNew 0 0 with u:= .walk y } A
 ·rename_i l _
  exact eff_view { gtNew 0 0 with u:= .last l 0 { data:= #[] } } A
 ·rfl
structure ScWh (P:Nat→ScP→Prop) (V:List Int) (si m g:Nat) (B:MB) (K:Nat) (M0:MemS) (f0:List Nat) (w:World) (n:Nat) (x:ScP) (M:MemS) (f:List Nat) (wr:World):Prop where
 st:P n x
 inn:WkIn wr si m g B M K f
 is:ScIs wr si m g x f
 view:M.view=V
 only:Only (g::f0++footM m B M0) w wr
 fresh: ∀y∈f,y∈f0∨w.heap.size≤y
 foot: ∀k∈footM m B M,k∈footM m B M0∨w.heap.size≤k
structure ScAll (Fin:ScP→Prop) (V:List Int) (si m g:Nat) (B:MB) (K:Nat) (M0:MemS) (f0:List Nat) (w:World) (x:ScP) (M:MemS) (f:List Nat) (wr:World):Prop where
 fin:Fin x
 inn:WkIn wr si m g B M K f
 is:ScIs wr si m g x f
 view:M.view=V
 only:Only (g::f0++footM m B M0) w wr
 fresh: ∀y∈f,y∈f0∨w.heap.size≤y
 foot: ∀k∈footM m B M,k∈footM m B M0∨w.heap.size≤k
theorem ScWh.step {P:Nat→ScP→Prop} {V:List Int} {si m g:Nat} {B:MB} {K:Nat} {M0 M M':MemS} {f0 f f':List Nat} {w wr w':World} {n:Nat} {x:ScP} (h:ScWh P V si m g B K M0 f0 w n x M f wr)
  (hM:MSt m B K wr M w' M' (x.eff (absM M)) (g::f)) (hI:ScIs w' si m g (x.next V) f') (hf: ∀y∈f',y∈f∨(wr.heap.size≤y∧y∉footM m B M')):
  WkIn w' si m g B M' K f'∧M'.view=V∧Only (g::f0++footM m B M0) w w'∧(∀y∈f',y∈f0∨w.heap.size≤y)∧ ∀k∈footM m B M',k∈footM m B M0∨w.heap.size≤k:=by
 obtain⟨hgl,hfl⟩:=h.is.lt
 refine⟨h.inn.next hgl hfl hM hf,?_,h.only.trans hM.only ?_,?_,?_⟩
 ·have:=congrArg MA.view hM.abs
  rw[eff_viewS] at this
  rw[←h.view];exact this
 ·intro y hy
  rcases List.mem_append.1 hy with h1 | h1
  ·rcases List.mem_cons.1 h1 with rfl | h1
   ·exact Or.inl (by simp)
   ·exact(h.fresh y h1).imp (fun h=>by simp[h]) id
  ·exact(h.foot y h1).imp (fun h=>by simp[h]) id
 ·intro y hy
  rcases hf y hy with h1 | h1
  ·exact h.fresh y h1
  ·exact Or.inr (Nat.le_trans h.only.size h1.1)
 ·intro k hk
  rcases hM.foot k hk with h1 | h1
  ·exact h.foot k h1
  ·exact Or.inr (Nat.le_trans h.only.size h1)
theorem SLWhole_z (P:Nat→ScP→Prop) (Fin:ScP→Prop) (V:List Int)
  (hP: ∀n x,P n x→0<n∧ScOK V x∧((∃n',n'<n∧(x.next V).done=false∧P n' (x.next V))∨(Fin (x.next V)∧(x.next V).done=true)))
  (L n:Nat) (hn:n≤L) (hL:L<4611686018427387904) (si m g:Nat) (B:MB) (M:MemS) (K:Nat) (x:ScP) (f:List Nat) (hV:M.view=V) (hx:P n x) (w:World) (hin:WkIn w si m g B M K f) (hs:ScIs w si m g x f):
  Calls Tryz.prog 30 #[ptrV m,ptrV g,.int .i64 (L:Int)] w fun e w'=> ∃x' M' f',e= .returned (.bool true)∧ScAll Fin V si m g B K M f w x' M' f' w':=by
 have H0:Hid (ScWh P V si m g B K M f w n x M f w):=hid ⟨hx,hin,hs,hV,Only.refl _ _,fun y hy=>Or.inl hy,fun k hk=>Or.inl hk⟩
 have HP:=hid hP
 have HL:=hid hL
 have HN:=hid hn
 clear hP hn hV hx hin hs hL
 go_enter Tryz.func30,Tryz.ntmps30
 go_wp2
 go_loopw [7] (fun i wr=> ∃(k n':Nat) (x':ScP) (M':MemS) (f':List Nat),i= .int .i64 (k:Int)∧k+n'≤n∧Hid (ScWh P V si m g B K M f w n' x' M' f' wr)) (fun i _=>L- (intOf i).toNat)
 case atStart=>exact⟨0,n,x,M,f,rfl,by omega,H0⟩
 case round=>
  obtain⟨k,n',x',M',f',rfl,hk,hI⟩:=hrel
  obtain⟨h0,hok,hst⟩:=HP.out n' x' hI.out.st
  have SZ:=hid (SLStep_z si m g B M' K x' f' (by rw[hI.out.view];exact hok) wr hI.out.inn hI.out.is)
  have i1:(k:Int)< (L:Int):=by have:=HN.out;omega
  have i2:IntKind.i64.wrap ((k:Int)+1)=(k:Int)+1:=by rw[IntKind.wrap_i64];have:=HN.out;have:=HL.out;omega
  obtain⟨X,hX⟩: ∃X,X=x'.next M'.view:=⟨_,rfl⟩
  unfold ScDid at SZ
  rw[←hX] at SZ
  rw[←hI.out.view,←hX] at hst
  have HS:=hid (⟨hst,hX,h0,hk⟩:_∧_∧_∧_)
  clear hst hok hk h0
  cases hd:X.done with
  | false=>
   rw[hd] at SZ
   have HD:=hid hd
   clear hd hX
   go_wp2_with fail
   refine SZ.out.mono ?_
   rintro e w2 ⟨rfl,M2,f2,hM,hI2,hf⟩
   have H2:=hid (⟨hM,hI2,hf⟩:_∧_∧_)
   clear hM hI2 hf SZ
   go_wp2_with fail
   go_roundw
   case rel=>
    obtain⟨hM,hI2,hf⟩:=H2.out
    obtain⟨hst,hX,h0,hk⟩:=HS.out
    rcases hst with⟨n2,hn2,_,hp2⟩ | ⟨_,h1⟩
    ·rw[hX,hI.out.view] at hI2 hp2
     obtain⟨a1,a2,a3,a4,a5⟩:=hI.out.step hM hI2 hf
     exact⟨k+1,n2,_,M2,f2,by push_cast;rfl,by omega,hid ⟨hp2,a1,hI2,a2,a3,a4,a5⟩⟩
    ·rw[HD.out] at h1;cases h1
   case measure=>simp[intOf];have:=HS.out.2.2.2;have:=HS.out.2.2.1;have:=HN.out;omega
  | true=>
   rw[hd] at SZ
   have HD:=hid hd
   clear hd hX
   go_wp2_with fail
   refine SZ.out.mono ?_
   rintro e w2 ⟨rfl,M2,f2,hM,hI2,hf⟩
   have H2:=hid (⟨hM,hI2,hf⟩:_∧_∧_)
   clear hM hI2 hf SZ
   go_wp2_with fail
   go_ret
   obtain⟨hM,hI2,hf⟩:=H2.out
   obtain⟨hst,hX,h0,hk⟩:=HS.out
   rcases hst with⟨n2,hn2,h1,hp2⟩ | ⟨hF,h1⟩
   ·rw[HD.out] at h1;cases h1
   ·rw[hX,hI.out.view] at hI2 hF
    obtain⟨a1,a2,a3,a4,a5⟩:=hI.out.step hM hI2 hf
    exact⟨_,M2,f2,rfl,hF,a1,hI2,a2,a3,a4,a5⟩
end Go.Proofs.YtjmaicckkkdjpaaGreat
/- The keys laid rise; what is laid, loaded whole. -/
namespace Go.Proofs.YtjmaicckkkdjpaaGreat
open Go.RowKit
theorem insU_rise {out:List Int} {x:Int} (h:out.Pairwise (· < ·)):(insU out x).Pairwise (· < ·):=by
 unfold insU
 split
 ·exact h
 ·rename_i hne
  obtain⟨a,ha⟩: ∃a,a=atU out x:=⟨_,rfl⟩
  rw[←ha] at hne ⊢
  have hlt: ∀y∈out.take a,y<x:=fun y hy=>by
   rw[ha] at hy
   unfold atU at hy
   have e:out.take (out.takeWhile fun y=>decide (y<x)).length=out.takeWhile fun y=>decide (y<x):=(List.prefix_iff_eq_take.1 (List.takeWhile_prefix _)).symm
   rw[e] at hy
   have:=List.all_eq_true.1 (List.all_takeWhile (p:=fun y=>decide (y<x)) (l:=out)) y hy
   simpa using this
  have hgt: ∀y∈out.drop a,x<y:=by
   cases hd:out.drop a with
   | nil=>intro y hy;cases hy
   | cons z r=>
    have hz:out[a]?=some z:=by
     have h1:(out.drop a)[0]?=some z:=by rw[hd];rfl
     rw[List.getElem?_drop,Nat.add_zero] at h1
     exact h1
    have hnz: ¬z<x:=by
     intro hlt2
     have hdw:out.dropWhile (fun y=>decide (y<x))=z::r:=by
      have e:out.drop (out.takeWhile fun y=>decide (y<x)).length=out.dropWhile fun y=>decide (y<x):=by
       have h1:=List.takeWhile_append_dropWhile (p:=fun y=>decide (y<x)) (l:=out)
       have h2:(out.takeWhile (fun y=>decide (y<x))++out.dropWhile (fun y=>decide (y<x))).drop (out.takeWhile fun y=>decide (y<x)).length=out.dropWhile fun y=>decide (y<x):=List.drop_left
       rw[h1] at h2
       exact h2
      rw[←e]
      unfold atU at ha
      rw[←ha];exact hd
     have:=List.head?_dropWhile_not (fun y=>decide (y<x)) out
     rw[hdw] at this
     simp at this
     omega
    have hzx:z≠x:=fun e=>hne (by rw[hz,e])
    have hp:(z::r).Pairwise (· < ·):=by rw[←hd];exact h.sublist (List.drop_sublist _ _)
    intro y hy
    rcases List.mem_cons.1 hy with rfl | hy
    ·omega
    ·have:=(List.pairwise_cons.1 hp).1 y hy
     omega
  rw[List.pairwise_append]
  refine⟨h.sublist (List.take_sublist _ _),List.pairwise_cons.2 ⟨hgt,h.sublist (List.drop_sublist _ _)⟩,fun y hy z hz=> ?_⟩
  have h1:=hlt y hy
  rcases List.mem_cons.1 hz with rfl | hz
  ·exact h1
  ·have:=hgt z hz;omega
theorem risTo_rise (xs:List Int): ∀i,(risTo xs i).Pairwise (· < ·)
 | 0=>List.Pairwise.nil
 | i+1=>insU_rise (risTo_rise xs i)
def risKeys (xs:List Int):List Nat:=(risTo xs xs.length).map Int.toNat
theorem risKeys_rise {xs:List Int} (h: ∀y∈xs,U64 y):(risKeys xs).Pairwise (· < ·)∧ ∀x∈risKeys xs,x<18446744073709551616:=by
 have hin: ∀y∈risTo xs xs.length,U64 y:=fun y hy=>h y (risTo_in (Nat.le_refl _) y hy)
 refine⟨?_,fun x hx=> ?_⟩
 ·unfold risKeys
  rw[List.pairwise_map]
  refine List.Pairwise.imp_of_mem ?_ (risTo_rise xs xs.length)
  intro a b ha hb hab
  have h1:=hin a ha
  have h2:=hin b hb
  unfold U64 at h1 h2
  omega
 ·unfold risKeys at hx
  obtain⟨y,hy,rfl⟩:=List.mem_map.1 hx
  have h1:=hin y hy
  unfold U64 at h1
  omega
theorem risKeys_back {xs:List Int} (h: ∀y∈xs,U64 y):(risKeys xs).map (fun k:Nat=>(k:Int))=risTo xs xs.length:=by
 unfold risKeys
 rw[List.map_map]
 conv=>rhs;rw[←List.map_id (risTo xs xs.length)]
 refine List.map_congr_left fun y hy=> ?_
 have h1:=h y (risTo_in (Nat.le_refl _) y hy)
 unfold U64 at h1
 show((y.toNat:Nat):Int)=y
 omega
end Go.Proofs.YtjmaicckkkdjpaaGreat
/- How many nodes the law's tree has. -/
namespace Go.Proofs.YtjmaicckkkdjpaaGreat
open Go.RowKit
def nodesN (rows:List (List (Nat×NodeA))) (k:Nat):Nat:=((rows.take k).map List.length).sum
theorem nodesN_succ {rows:List (List (Nat×NodeA))} {k:Nat} {row:List (Nat×NodeA)} (h:rows[k]?=some row):nodesN rows (k+1)=nodesN rows k+row.length:=by
 unfold nodesN
 rw[List.take_add_one,h]
 simp
end Go.Proofs.YtjmaicckkkdjpaaGreat
/- How many nodes a built tree has. -/
namespace Go.Proofs.YtjmaicckkkdjpaaGreat
open Go.RowKit
theorem nodesN_tK (keys:List Nat) (per lag K:Nat): ∀k,k≤K+1→nodesN ((List.range (K+1)).map (rowK (uN keys) per lag (ents0 keys))) k=tK keys per lag k
 | 0,_=>by simp[nodesN,tK,stk]
 | k+1,h=>by
  rw[nodesN_succ (row:=rowK (uN keys) per lag (ents0 keys) k) (by rw[List.getElem?_map,List.getElem?_range (by omega)];rfl),nodesN_tK keys per lag K k (by omega),tK_succ]
  unfold rowK
  rw[rowS_len]
theorem nodes_tK (keys:List Nat) (per lag K:Nat):nodesN ((List.range (K+1)).map (rowK (uN keys) per lag (ents0 keys))) ((List.range (K+1)).map (rowK (uN keys) per lag (ents0 keys))).length=tK keys per lag (K+1):=by
 rw[List.length_map,List.length_range]
 exact nodesN_tK keys per lag K (K+1) (Nat.le_refl _)
end Go.Proofs.YtjmaicckkkdjpaaGreat
/- What a get answers is what the law wants. -/
namespace Go.Proofs.YtjmaicckkkdjpaaGreat
open Go.RowKit
end Go.Proofs.YtjmaicckkkdjpaaGreat
/- The states of a scan over a built image may be; the law's whole over it. -/
namespace Go.Proofs.YtjmaicckkkdjpaaGreat
open Go.RowKit
theorem act_len8S (n:NodeA) (h:Int) (f:Bool):(activeN n h f).length≤8:=by
 have h1:=List.length_filter_le (actE h f) (validN n)
 have h2:=valid_len n
 have h3:(activeN n h f).length=((validN n).filter (actE h f)).length:=rfl
 omega
section
variable {slabs per lag K:Nat} {keys:List Nat} {bs:List Int}
theorem ScSt.ok (h:Built slabs keys per lag K bs) {c lo hi limit:Int} (hc:0≤c∧c≤64) (hlo:0≤lo) (hhi:hi<18446744073709551616) (hl1:1≤limit) (hl2:limit≤256) {n:Nat} {x:ScP} (hx:ScSt keys per lag K bs c lo hi limit n x):0<n∧ScOK (wordsOf bs) x:=by
 have gen: ∀{x:ScP},ScOn c lo hi limit x→ ¬(x.limit<1∨256<x.limit∨x.hi<x.lo)∧(0≤x.client∧x.client≤64)∧x.tries<4611686018427387904∧U64 x.lo:=fun hx=>by
  have h1:=hx.lolo
  refine⟨by rw[hx.limit',hx.hi'];omega,by rw[hx.client];exact hc,by rw[hx.tries];omega,⟨by omega,by omega⟩⟩
 have gr: ∀{left r:Nat} {x:ScP},ScLf keys per lag c lo hi limit left r x→x.want.length≤256∧x.got.length≤x.want.length∧(0≤x.at'∧x.at'≤1099511627776):=fun{left r x} hx=>by
  obtain⟨b1,b2,b3⟩:=h.adN_in (k:=0) (by omega) hx.hr
  have h1:=congrArg List.length hx.got'
  rw[List.length_map,List.length_take] at h1
  have h2:x.want.length≤8:=by
   rw[hx.want',List.length_take]
   have h8:=wsE_len8 h.toCore r
   have h7:=List.length_filter_le (rngB lo hi) (wsE keys per lag 0 r)
   omega
  refine⟨by omega,by omega,?_⟩
  rw[hx.adr];omega
 cases hx with
 | walk n left x y hx hu hy=>
  obtain⟨g1,g2,g3,g4⟩:=gen hx.toScOn
  refine⟨by omega,hx.done,hx.e,g1,g2,g3,by rw[hx.limit'];have:=hx.room;omega,fun y' hy'=> ?_,(fun _ h=>by rw[hu] at h;cases h),(fun _ h=>by rw[hu] at h;cases h),(fun _ h=>by rw[hu] at h;cases h)⟩
  rw[hu] at hy'
  injection hy' with hy'
  subst hy'
  rcases WkSt.step h g4.1 hy with⟨n',_,h2⟩ | h2
  ·exact⟨(hy.ok h hc g4).1,(h2.ok h hc g4).1.e0,fun ho=>by rw[h2.live] at ho;cases ho⟩
  ·obtain⟨e1,e2,_,r,hr,e3,e4,e5,e6,_,_⟩:=h2
   refine⟨(hy.ok h hc g4).1,e2,fun _=>⟨fun hp=> ?_,act_len8S _ _ _⟩⟩
   rw[e6,if_neg]
   rw[hp] at e5
   simpa using e5.symm
 | read n left r j x y hx hu hj hw hy=>
  obtain⟨g1,g2,g3,g4⟩:=gen hx.toScOn
  obtain⟨k1,k2,k3⟩:=gr hx
  refine⟨by omega,hx.done,hx.e,g1,g2,g3,by rw[hx.limit'];have:=hx.room;omega,(fun _ h=>by rw[hu] at h;cases h),fun y' hy'=> ?_,(fun _ h=>by rw[hu] at h;cases h),(fun _ h=>by rw[hu] at h;cases h)⟩
  rw[hu] at hy'
  injection hy' with hy'
  subst hy'
  have hj64:U64 (keys.getD j 0:Int):=by
   have h1:=h.kk (keys.getD j 0) (by rw[List.getD_eq_getElem?_getD,List.getElem?_eq_getElem hj];exact List.getElem_mem _)
   exact⟨by omega,by omega⟩
  exact⟨((GtSt.read (q:=(keys.getD j 0:Int)) r j n y hx.hr hj rfl hy).ok h hc hj64).2.read y rfl,(List.getElem?_eq_some_iff.1 hw).1,k1⟩
 | still n left r k x hx hu hg hk=>
  obtain⟨g1,g2,g3,g4⟩:=gen hx.toScOn
  obtain⟨k1,k2,k3⟩:=gr hx
  obtain⟨b1,b2,b3⟩:=h.adN_in (k:=0) (by omega) hx.hr
  refine⟨by omega,hx.done,hx.e,g1,g2,g3,by rw[hx.limit'];have:=hx.room;omega,(fun _ h=>by rw[hu] at h;cases h),(fun _ h=>by rw[hu] at h;cases h),fun y' hy'=> ?_,(fun _ h=>by rw[hu] at h;cases h)⟩
  rw[hu] at hy'
  injection hy' with hy'
  subst hy'
  refine⟨rfl,by rcases hk with⟨rfl,_⟩ | ⟨rfl,_⟩;exact Or.inl rfl;exact Or.inr rfl,?_,by show 0≤((adN keys per lag 0 r:Nat):Int)∧((adN keys per lag 0 r:Nat):Int)≤_;omega,k3⟩
  show inV (wordsOf bs) ((adN keys per lag 0 r:Nat)+8*k)
  rcases hk with⟨rfl,_⟩ | ⟨rfl,_⟩
  ·exact h.ad (k:=0) (by omega) hx.hr 16 (by omega) (by omega)
  ·exact h.ad (k:=0) (by omega) hx.hr 24 (by omega) (by omega)
 | last n left r i x hx hu hg hi3 hn=>
  obtain⟨g1,g2,g3,g4⟩:=gen hx.toScOn
  obtain⟨k1,k2,k3⟩:=gr hx
  refine⟨by omega,hx.done,hx.e,g1,g2,g3,by rw[hx.limit'];have:=hx.room;omega,(fun _ h=>by rw[hu] at h;cases h),(fun _ h=>by rw[hu] at h;cases h),(fun _ h=>by rw[hu] at h;cases h),fun l' hy'=> ?_⟩
  rw[hu] at hy'
  injection hy' with hy'
  subst hy'
  refine⟨rfl,hc,fun a ha=> ?_,k2,k1⟩
  have ha2:a∈linesL (adN keys per lag 0 r:Nat):=List.mem_of_mem_drop ha
  unfold linesL at ha2
  simp at ha2
  rcases ha2 with rfl | rfl | rfl
  ·have:=h.ad (k:=0) (by omega) hx.hr 0 (by omega) (by omega)
   simpa using this
  ·exact h.ad (k:=0) (by omega) hx.hr 64 (by omega) (by omega)
  ·exact h.ad (k:=0) (by omega) hx.hr 128 (by omega) (by omega)
end
theorem SWhole_z {slabs per lag K:Nat} {keys:List Nat} {bs:List Int} (h:Built slabs keys per lag K bs) {c lo hi limit:Int} (hc:0≤c∧c≤64) (hlo:0≤lo) (hhi:hi<18446744073709551616) (hl1:1≤limit) (hl2:limit≤256) (hle:lo≤hi) (L:Nat) (hL:L<4611686018427387904) (hn:nK keys per lag 0*lfN keys per lag K≤L)
  (si m g:Nat) (B:MB) (M:MemS) (KK:Nat) (f:List Nat) (hV:M.view=wordsOf bs) (w:World) (hin:WkIn w si m g B M KK f) (hs:ScIs w si m g (scNew c lo hi limit) f):
  Calls Tryz.prog 30 #[ptrV m,ptrV g,.int .i64 (L:Int)] w fun e w'=> ∃x' M' f',e= .returned (.bool true)∧ScAll (ScEnd keys lo hi limit) (wordsOf bs) si m g B KK M f w x' M' f' w':=by
 have hn0:0<nK keys per lag 0:=nRounds_pos _ _
 refine SLWhole_z (fun n x=>ScSt keys per lag K bs c lo hi limit n x) (ScEnd keys lo hi limit) (wordsOf bs) (fun n x hx=> ?_) L (1+45*tK keys per lag (K+1)+38+(nK keys per lag 0-1)*lfN keys per lag K) ?_ hL si m g B M KK (scNew c lo hi limit) f hV (ScSt.new c lo hi limit h.toCore hl1 hle) w hin hs
 ·obtain⟨h1,h2⟩:=hx.ok h hc hlo hhi hl1 hl2
  refine⟨h1,h2,?_⟩
  rcases hx.step h hlo hl1 hl2 with⟨n',a,b,d⟩ | hE
  ·exact Or.inl ⟨n',a,b,d⟩
  ·exact Or.inr ⟨hE,hE.done⟩
 ·refine Nat.le_trans (Nat.le_of_eq ?_) hn
  obtain⟨q,hq⟩: ∃q,nK keys per lag 0=q+1:=⟨nK keys per lag 0-1,by omega⟩
  rw[hq,Nat.add_sub_cancel,show(q+1)*lfN keys per lag K=q*lfN keys per lag K+lfN keys per lag K from Nat.succ_mul _ _]
  show 1+45*tK keys per lag (K+1)+38+q*lfN keys per lag K=q*lfN keys per lag K+(45*tK keys per lag (K+1)+39)
  omega
end Go.Proofs.YtjmaicckkkdjpaaGreat
