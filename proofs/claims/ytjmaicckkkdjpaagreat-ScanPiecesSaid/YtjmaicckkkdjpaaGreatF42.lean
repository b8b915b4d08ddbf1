import Derived.Test.YtjmaicckkkdjpaaGreatF41
set_option maxRecDepth 100000
set_option maxHeartbeats 4000000
set_option linter.unusedVariables false
set_option linter.unusedSimpArgs false
/- A walk's high bound. -/
namespace Go.Proofs.YtjmaicckkkdjpaaGreat
open Go.RowKit
attribute [local go_sem ↓ high] nodeLoadAt nodeLoadVar nodeStoreAt
attribute [local go_sem] ldM_run lvM_run stM_run Oper.semAt_some run_store_fnG bldMg_run neFnE neFnEG
theorem WkHigh_z (si m g:Nat) (x:WkP) (hov:x.over=true) (he:x.e=0) (hph:x.phas=false→x.ph=0) (f:List Nat) (w:World) (hs:WkIs w si m g x f):
  Calls Tryz.prog 114 #[ptrV g] w fun e w'=>e= .returned (.tuple #[.int .u64 x.ph,.bool x.phas])∧Below w.heap.size w w':=by
 have AZ:=hid (WkAt_z si m g x hov he f w hs)
 obtain⟨⟨uv,hb,hat⟩,hgf⟩:=hs
 have HB:=hid hb
 obtain⟨pa,hpa⟩: ∃pa,pa=x.pa:=⟨_,rfl⟩
 rw[←hpa] at AZ
 clear hb hat hgf hpa
 go_enter Tryz.func114,Tryz.ntmps114
 go_wp2_with fail
 refine AZ.out.mono ?_
 rintro e w5 ⟨rfl,hb5⟩
 have h5:=HB.out.bel hb5
 obtain⟨W7,hst,k7,o7⟩:=node_stA (Blk.new w5 77 (nodeC zeroN)) x.pn
 have hst':stR Tryz.prog 77 (.pointer (some ⟨w5.heap.size,0,none⟩)) (.agg (nodeC x.pn)) (w5.alloc (.cells #[.int .i64 0,.int .u64 0,.int .u64 0,.int .u64 0,.int .u64 0,.int .u64 0,.int .u64 0,.int .u64 0,.int .u64 0,.int .u64 0,.int .u64 0,.int .u64 0,.int .u64 0,.int .u64 0,.int .u64 0,.int .u64 0,.int .u64 0,.int .u64 0,.int .u64 0,.int .u64 0,.int .u64 0] 77))= .ok () W7:=hst
 have hgn:g≠w5.heap.size:=by have:=h5.lt;omega
 have h7:WkBlk W7 g si x uv (fnV (wkFn x.u) g):=o7.blk (h5.alloc _) (by simpa using hgn)
 have c26:W7.cell? ⟨g,26,none⟩=some (.int .u64 x.ph):=h7.cell 26
 have c27:W7.cell? ⟨g,27,none⟩=some (.bool x.phas):=h7.cell 27
 have HH:=hid ((hb5.alloc hb5.size _).trans (o7.below (fun y hy=>by simp at hy;have:=hb5.size;omega) (by rw[World.size_alloc];have:=hb5.size;omega)))
 clear hst hb5 h5 k7 o7 h7 hgn AZ
 cases hc:x.phas with
 | false=>
  rw[hc] at c27
  go_wp2
  go_ret2
  exact⟨by rw[hph hc,hc];rfl,HH.out⟩
 | true=>
  rw[hc] at c27
  go_wp2
  go_ret2
  exact⟨by rw[hc];rfl,HH.out⟩
end Go.Proofs.YtjmaicckkkdjpaaGreat
/- The entries of a leaf that a scan wants. -/
namespace Go.Proofs.YtjmaicckkkdjpaaGreat
open Go.RowKit
attribute [local go_sem ↓ high] nodeLoadAt nodeLoadVar nodeStoreAt scBuild lfBuild lfStoreAt append_shut2
attribute [local go_sem] ldM_run lvM_run stM_run Oper.semAt_some run_store_fnG bldMg_run neFnE neFnEG appM2_run
theorem cell_far {W:World} {g b i:Nat} {v u:Value} (hb:b≠g) (h:W.cell? ⟨b,0,none⟩=some u):(W.setCell ⟨g,i,none⟩ v).cell? ⟨b,0,none⟩=some u:=(World.cell?_setCell_far W ⟨g,i,none⟩ ⟨b,0,none⟩ v (fun e=>hb e.symm)).trans h
structure ScPl (si m g bg bw wg:Nat) (x:ScP) (R:SR) (y:WkP) (f0:List Nat) (uv fv:Value) (w W:World):Prop where
 blk:ScBlk W g si x R uv fv
 wk:WkIs W si m wg y f0
 bg:W.cell? ⟨bg,0,none⟩=some (ptrV g)
 bw:W.cell? ⟨bw,0,none⟩=some (ptrV wg)
 only:Only [g] w W
theorem ScPl.turn {si m g bg bw wg:Nat} {x x':ScP} {R R':SR} {y:WkP} {f0:List Nat} {uv fv:Value} {w W W':World} (h:ScPl si m g bg bw wg x R y f0 uv fv w W) (hbg:bg≠g) (hbw:bw≠g) (hwg:wg≠g) (hf:g∉f0) (ho:Only [g] W W') (hb:ScBlk W' g si x' R' uv fv):ScPl si m g bg bw wg x' R' y f0 uv fv w W':=
 ⟨hb,h.wk.only ho (by simpa using hwg) (fun z hz hc=>by rw[List.mem_singleton.1 hc] at hz;exact hf hz),(ho.cell (p:=⟨bg,0,none⟩) (World.block_lt_of_cell? _ _ h.bg) (by simpa using hbg)).trans h.bg,(ho.cell (p:=⟨bw,0,none⟩) (World.block_lt_of_cell? _ _ h.bw) (by simpa using hbw)).trans h.bw,h.only.trans ho (fun y hy=>Or.inl hy)⟩
theorem ScPl.bel {si m g bg bw wg:Nat} {x:ScP} {R:SR} {y:WkP} {f0:List Nat} {uv fv:Value} {w W W':World} (h:ScPl si m g bg bw wg x R y f0 uv fv w W) (hbg:bg≠g) (hbw:bw≠g) (hwg:wg≠g) (hf:g∉f0) (hb:Below W.heap.size W W'):ScPl si m g bg bw wg x R y f0 uv fv w W':=h.turn hbg hbw hwg hf (Only.of_below hb _) (h.blk.bel hb)
def ScWl (si g:Nat) (X:ScP) (R0:SR) (uv fv:Value) (W5 wr:World) (c:List (Int×Int)):Prop:=
 ∃wv,Only [g] W5 wr∧ScBlk wr g si X { R0 with wv:=wv } uv fv∧wr.ownsRow W5.heap.size 130 2 wv c.length (c.flatMap entC)
theorem ScWl.ahead {si g:Nat} {X:ScP} {R0:SR} {uv fv:Value} {W5 wr W:World} {c:List (Int×Int)} (h:ScWl si g X R0 uv fv W5 wr c) (hb:Below wr.heap.size wr W):ScWl si g X R0 uv fv W5 W c:=by
 obtain⟨wv,h1,h2,h3⟩:=h
 exact⟨wv,h1.trans (Only.of_below hb [g]) (fun y hy=>Or.inl hy),h2.bel hb,(Only.of_below hb []).own h3 (by simp)⟩
structure ScWa (si g:Nat) (X:ScP) (R0:SR) (uv fv:Value) (W5 w:World) (c:List (Int×Int)) (q p:Int) (wv:Value) (va:Option Addr) (n vc:Nat) (w9:World):Prop where
 run:appRun2 Tryz.prog #[131,131] 131 #[wv,.slice (some ⟨w.heap.size,0,none⟩) 1 1] (w.alloc (.cells #[.int .u64 q,.int .u64 p] 130)).drew= .ok (.slice va n vc) w9
 old:w.cell? ⟨g,31,none⟩=some wv
 cell:w9.cell? ⟨g,31,none⟩=some wv
 frozen:w9.frozen? ⟨g,31,none⟩=false
 keep: ∀b i v,b<W5.heap.size→w.cell? ⟨b,i,none⟩=some v→w9.cell? ⟨b,i,none⟩=some v
 wl:ScWl si g X R0 uv fv W5 (w9.setCell ⟨g,31,none⟩ (.slice va n vc)) (c++[(q,p)])
theorem ScWl.app {si g:Nat} {X:ScP} {R0:SR} {uv fv:Value} {W5 w:World} {c:List (Int×Int)} (h:ScWl si g X R0 uv fv W5 w c) (hg:g<W5.heap.size) (hl:c.length≤1000) (q p:Int): ∃wv va vc w9,ScWa si g X R0 uv fv W5 w c q p wv va (c.length+1) vc w9:=by
 obtain⟨wv,h1,h2,h3⟩:=h
 obtain⟨i0,hi0,hz0,hz1,hz2⟩:=info_parts infoEnt
 have hoA:Only [] w (w.drew.alloc (.cells #[.int .u64 q,.int .u64 p] 130)):=((Only.refl [] w).drew).alloc _
 have hr1:=hoA.own h3 (by simp)
 have hB:=Blk.new w.drew 130 #[.int .u64 q,.int .u64 p]
 obtain⟨v',w9,r⟩:=run_app (P:=Tryz.prog) (w.drew.alloc (.cells #[.int .u64 q,.int .u64 p] 130)) W5.heap.size 131 131 130 i0 (.agg #[.int .u64 0,.int .u64 0]) 2 16 Tryz.underlying131 hi0 hz0 hz1 hz2 rfl (by decide) wv c.length _ hr1 (.slice (some ⟨w.heap.size,0,none⟩) 1 1) 1 ([(q,p)].flatMap entC) (Or.inr ⟨w.heap.size,0,1,rfl,fun j u hj=>by
  have:=hB.cell (0+j)
  rw[show(w.drew.heap.size)=w.heap.size from rfl] at this
  rw[this,Nat.zero_add];simpa[entC] using hj⟩) rfl (by intro u hu;simp[entC] at hu;rcases hu with rfl | rfl<;>rfl) (by unfold maxLen;omega) (by omega) (Nat.le_trans h1.size hoA.size)
 obtain⟨va,vc,rfl⟩:=row_form1 r.own
 have ho:Only wv.ownBlock.toList (w.drew.alloc (.cells #[.int .u64 q,.int .u64 p] 130)) w9:=Only.of_grown (f:=wv.ownBlock.toList) r.grown (fun y hy=>by simp[hy])
 have hob: ∀b,b∈wv.ownBlock.toList→W5.heap.size≤b:=fun b hb=>own_base h3 b (by simpa using hb)
 have hgp:g∉wv.ownBlock.toList:=fun h=>by have:=hob g h;omega
 have hB9:ScBlk w9 g si X { R0 with wv:=wv } uv fv:=ho.blk (hoA.blk h2 (by simp)) hgp
 have ho2:Only [g] w9 (w9.setCell ⟨g,31,none⟩ (.slice va (c.length+1) vc)):=Only.setCell (Only.refl _ _) (Or.inl (by simp)) _
 have hO9:Only [g] W5 w9:=(h1.trans hoA (fun y hy=>by cases hy)).trans ho (fun y hy=>Or.inr (hob y hy))
 refine⟨wv,va,vc,w9,r.run,h2.cell 31,hB9.cell 31,hB9.frozen 31,fun b i v hb hc=> ?_,_,hO9.trans ho2 (fun y hy=>Or.inl hy),hB9.set_ 31 _,?_⟩
 ·exact(ho.cell (p:=⟨b,i,none⟩) (World.block_lt_of_cell? _ _ ((hoA.cell (p:=⟨b,i,none⟩) (World.block_lt_of_cell? _ _ hc) (by simp)).trans hc)) (fun h=>by have:=hob b h;omega)).trans ((hoA.cell (p:=⟨b,i,none⟩) (World.block_lt_of_cell? _ _ hc) (by simp)).trans hc)
 ·rw[List.length_append,List.flatMap_append]
  exact ho2.own r.own (fun k hk hc=>by
   rw[List.mem_singleton.1 hc] at hk
   have:=own_base r.own g hk
   omega)
theorem take_filter_yes {α:Type} {A:List α} {k:Nat} {y:α} {f:α→Bool} (h:A[k]?=some y) (hf:f y=true):(A.take (k+1)).filter f=(A.take k).filter f++[y]:=by
 rw[List.take_add_one,h,List.filter_append];simp[hf]
theorem take_filter_no {α:Type} {A:List α} {k:Nat} {y:α} {f:α→Bool} (h:A[k]?=some y) (hf:f y=false):(A.take (k+1)).filter f=(A.take k).filter f:=by
 rw[List.take_add_one,h,List.filter_append];simp[hf]
def ScP.leafed (x:ScP) (y:WkP):ScP:={ x with at':=y.pa,leaf:=y.pn,high:=y.ph,has:=y.phas,want:=wantN y.pn y.ph y.phas x.lo x.hi (x.limit.toNat-x.pairs.length),got:=[],why:=0 }
theorem ScWl.land {si g:Nat} {x X2:ScP} {R R0:SR} {y:WkP} {uv fv:Value} {w5 wA V2:World} {A:List (Int×Int)} (hA:A=activeN y.pn y.ph y.phas) (hX:X2={ x with at':=y.pa,leaf:=y.pn,high:=y.ph,has:=y.phas,want:=[],got:=[],why:=0 }) (hR0:R0={ R with wv:=nilS,gv:=nilS })
  (h:ScWl si g X2 R0 uv fv w5 wA (A.filter (rngB x.lo x.hi))) (hg:g<w5.heap.size) (hrp:w5.ownsRow 0 96 2 R.pv x.pairs.length (pc x.pairs)) (hgr:g∉R.bl)
  {va:Option Addr} {c vc n:Nat} (hv:wA.cell? ⟨g,31,none⟩=some (.slice va c vc)) (hn:n=min (A.filter (rngB x.lo x.hi)).length (x.limit.toNat-x.pairs.length)) (ho:Only [] (wA.setCell ⟨g,31,none⟩ (.slice va n n)) V2):
  ScBlk V2 g si (x.leafed y) ⟨.slice va n n,nilS,R.pv⟩ uv fv∧ScRows V2 (x.leafed y).want (x.leafed y).got (x.leafed y).pairs ⟨.slice va n n,nilS,R.pv⟩∧g∉ (⟨.slice va n n,nilS,R.pv⟩:SR).bl∧Only [g] w5 V2∧ ∀z∈(⟨.slice va n n,nilS,R.pv⟩:SR).bl,z∈R.bl∨w5.heap.size≤z:=by
 obtain⟨wv,h1,h2,h3⟩:=h
 have hwv:wv= .slice va c vc:=by
  have:=h2.cell 31
  rw[hv] at this
  exact(Option.some.inj this).symm
 subst hwv hX hR0
 obtain⟨a2,c2,e2⟩:=row_form1 h3
 injection e2 with _ e3 _
 have ho1:Only [g] wA V2:=(Only.setCell (Only.refl [g] wA) (Or.inl (by simp)) _).trans ho (fun y hy=>by cases hy)
 have hob: ∀b,(Value.slice va n n).ownBlock=some b→w5.heap.size≤b:=fun b hb=>own_base h3 b (by cases va with | none=>cases hb | some a=>exact hb)
 have hpb: ∀b,R.pv.ownBlock=some b→b<w5.heap.size∧b≠g:=fun b hb=>⟨own_blt hrp hb,fun e=>hgr (e▸SR.bl_p hb)⟩
 have hO:Only [g] w5 V2:=h1.trans ho1 (fun y hy=>Or.inl hy)
 have hbl: ∀z∈(⟨.slice va n n,nilS,R.pv⟩:SR).bl,(R.pv.ownBlock=some z)∨w5.heap.size≤z:=fun z hz=>by
  unfold SR.bl at hz
  rcases List.mem_append.1 hz with h | h
  ·exact Or.inr (hob z (by simpa using h))
  ·rcases List.mem_append.1 h with h | h
   ·cases h
   ·exact Or.inl (by simpa using h)
 have hE:EntsAt wA (.slice va c vc) (A.filter (rngB x.lo x.hi)):=EntsAt.of_own h3
 have hT:EntsAt wA (.slice va n n) ((A.filter (rngB x.lo x.hi)).take n):=hE.take (by rw[e3]) n (by omega) n
 have hw:(x.leafed y).want=(A.filter (rngB x.lo x.hi)).take n:=by
  show((activeN y.pn y.ph y.phas).filter (rngB x.lo x.hi)).take (x.limit.toNat-x.pairs.length)=_
  rw[←hA,hn]
  by_cases e:(A.filter (rngB x.lo x.hi)).length≤x.limit.toNat-x.pairs.length
  ·rw[Nat.min_eq_left e,List.take_length,List.take_of_length_le e]
  ·rw[Nat.min_eq_right (by omega)]
 refine⟨ho.blk (h2.set_ 31 (.slice va n n)) (by simp),⟨?_,World.ownsRow_nil _ _ _ _,?_,(fun b _ h=>(by cases h)),fun b hb h=> ?_,(fun b h=>(by cases h)),fun b hb=> ?_⟩,fun h=> ?_,hO,fun z hz=>(hbl z hz).imp SR.bl_p id⟩
 ·rw[hw]
  exact hT.only ho1 (fun b hb hc=>by rw[List.mem_singleton.1 hc] at hb;have:=hob g hb;omega)
 ·exact hO.own hrp (fun b hb hc=>(hpb b hb).2 (List.mem_singleton.1 hc))
 ·have:=hob b hb;have:=(hpb b h).1;omega
 ·unfold SR.bl at hb
  rcases List.mem_append.1 hb with h | h
  ·have h9:(Value.slice va c vc).ownBlock=some b:=by
    have h8:(Value.slice va n n).ownBlock=some b:=by simpa using h
    cases va with
   | none=>cases h8
   | some a=>exact h8
   exact Nat.lt_of_lt_of_le (own_blt h3 h9) ho1.size
  ·rcases List.mem_append.1 h with h | h
   ·cases h
   ·exact Nat.lt_of_lt_of_le (hpb b (by simpa using h)).1 hO.size
 ·rcases hbl g h with h | h
  ·exact(hpb g h).2 rfl
  ·omega
end Go.Proofs.YtjmaicckkkdjpaaGreat
/- What a scan does behind a walk: its leaf is read. -/
namespace Go.Proofs.YtjmaicckkkdjpaaGreat
open Go.RowKit
attribute [local go_sem ↓ high] nodeLoadAt nodeLoadVar nodeStoreAt scBuild lfBuild lfStoreAt append_shut2
attribute [local go_sem] ldM_run lvM_run stM_run Oper.semAt_some run_store_fnG bldMg_run neFnE neFnEG appM2_run
section
variable (si m g bg bw wg:Nat) (x:ScP) (R:SR) (y:WkP) (f0:List Nat) (uv fv:Value)
theorem SWalkC_z (hov:y.over=true) (he:y.e=0) (hph:y.phas=false→y.ph=0) (hlim:(x.pairs.length:Int)≤x.limit) (hl2:x.limit≤256) (h8:(activeN y.pn y.ph y.phas).length≤8) (w:World) (hb:ScBlk w g si x R uv fv) (hr:ScRows w x.want x.got x.pairs R) (hgr:g∉R.bl) (hs:WkIs w si m wg y f0) (hg:w.cell? ⟨bg,0,none⟩=some (ptrV g)) (hwg:w.cell? ⟨bw,0,none⟩=some (ptrV wg)) (hsi:w.cell? ⟨si,0,none⟩=some (ptrV m)) (hne:si≠g) (hbg:bg≠g) (hbw:bw≠g) (hwgn:wg≠g) (hf0:g∉f0):
  Calls Tryz.prog 113 #[.int .i64 0,.pointer (some ⟨bg,0,none⟩),.pointer (some ⟨bw,0,none⟩)] w (ScGo si m g R.bl (x.land y) w):=by
 have HN:=hid (⟨hne,hbg,hbw,hwgn,hf0,hsi,hr,hgr,hlim,hl2⟩:_∧_∧_∧_∧_∧_∧_∧_∧_∧_)
 have HY:=hid (⟨hov,he,hph,h8⟩:_∧_∧_∧_)
 obtain⟨pa,hpa⟩: ∃pa,pa=y.pa:=⟨_,rfl⟩
 obtain⟨pn,hpn⟩: ∃pn,pn=y.pn:=⟨_,rfl⟩
 obtain⟨ph,hph'⟩: ∃ph,ph=y.ph:=⟨_,rfl⟩
 obtain⟨hs',hhs⟩: ∃hs',hs'=y.phas:=⟨_,rfl⟩
 have HQ:=hid (⟨hpa,hpn,hph',hhs⟩:_∧_∧_∧_)
 obtain⟨W2,hst,hB2,ho2⟩:=ScBlk.stz hb
 have P2:ScPl si m g bg bw wg _ _ y f0 uv fv w W2:=(ScPl.mk hb hs hg hwg (Only.refl [g] w):ScPl si m g bg bw wg x R y f0 uv fv w w).turn hbg hbw hwgn hf0 ho2 hB2
 have AZ:=hid (WkAt_z si m wg y hov he f0 W2.drew (P2.wk.only (Only.refl [] W2).drew (by simp) (by simp)))
 rw[←hpa,←hpn] at AZ
 have BL:=fun W=>lf_bld W
 have c0:=hg
 have e0:W2.drew.cell? ⟨bg,0,none⟩=some (ptrV g):=P2.bg
 have e1:W2.drew.cell? ⟨bw,0,none⟩=some (ptrV wg):=P2.bw
 obtain⟨X0,hX0⟩: ∃X0:ScP,X0={ x with at':=0,leaf:=zeroN,high:=0,has:=false,want:=[],got:=[],why:=0 }:=⟨_,rfl⟩
 obtain⟨R0,hR0⟩: ∃R0:SR,R0={ R with wv:=nilS,gv:=nilS }:=⟨_,rfl⟩
 rw[←hX0,←hR0] at P2
 have HXR:=hid (⟨hX0,hR0⟩:_∧_)
 have KF:Hid (∀W,Below W2.drew.heap.size W2.drew W→(W.cell? ⟨bg,0,none⟩=some (ptrV g)∧W.cell? ⟨bw,0,none⟩=some (ptrV wg))∧((W.setCell ⟨g,7,none⟩ (.int .u64 pa)).cell? ⟨bg,0,none⟩=some (ptrV g)∧(W.setCell ⟨g,7,none⟩ (.int .u64 pa)).cell? ⟨bw,0,none⟩=some (ptrV wg))∧(∃v,W.cell? ⟨g,7,none⟩=some v)∧W.frozen? ⟨g,7,none⟩=false∧ ∃W3,stR Tryz.prog 77 (.pointer (some ⟨g,8,none⟩)) (.agg (nodeC pn)) (W.setCell ⟨g,7,none⟩ (.int .u64 pa))= .ok () W3∧ScPl si m g bg bw wg { X0 with at':=pa,leaf:=pn } R0 y f0 uv fv w W3):=hid fun W hW=>by
  have hW':Below W2.heap.size W2 W:=(Below.drew (Below.refl _ W2)).trans hW
  have p:=P2.bel hbg hbw hwgn hf0 hW'
  have hB:=p.blk.set_ 7 (.int .u64 pa)
  obtain⟨W3,h3,hB3,o3⟩:=ScBlk.stn (x:={ X0 with at':=pa }) hB pn
  exact⟨⟨p.bg,p.bw⟩,⟨cell_far hbg p.bg,cell_far hbw p.bw⟩,⟨_,p.blk.cell 7⟩,p.blk.frozen 7,W3,h3,p.turn hbg hbw hwgn hf0 ((Only.setCell (Only.refl [g] W) (Or.inl (by simp)) _).trans o3 (fun y hy=>Or.inl hy)) hB3⟩
 clear hb hs hov he hph h8 hlim hl2 hr hgr hg hwg hsi hne hbg hbw hwgn hf0 hpa hpn hph' hhs hB2 ho2 P2 hX0 hR0
 go_enter Tryz.func113,Tryz.ntmps113
 go_upto_region 3 with fail
 go_region_held3 (fun W=>W.cell? ⟨bg,0,none⟩=some (ptrV g)∧W.cell? ⟨bw,0,none⟩=some (ptrV wg)) (first | go_keep | (exact sC) | (exact sD) | (exact⟨sE.bg,sE.bw⟩))
  (first | (go_at_call 75;refine AZ.out.mono ?_;rintro e w3 ⟨rfl,hb3⟩;obtain⟨sC,sD,⟨v7,c7⟩,f7,W3,hst3,sE⟩:=KF.out w3 hb3;have H3:=hid sE;clear hb3))
 clear sC sD c7 f7 hst3 sE KF AZ BL hst e0 e1 c0
 obtain⟨hne,hbg,hbw,hwgn,hf0,hsi,hr,hgr,hlim,hl2⟩:=HN.out
 obtain⟨hpa,hpn,hph',hhs⟩:=HQ.out
 have p3:=H3.out
 have GZ:=hid (WkHigh_z si m wg y HY.out.1 HY.out.2.1 HY.out.2.2.1 f0 W3.drew (p3.wk.only (Only.refl [] W3).drew (by simp) (by simp)))
 rw[←hph',←hhs] at GZ
 have e0:W3.drew.cell? ⟨bg,0,none⟩=some (ptrV g):=p3.bg
 have e1:W3.drew.cell? ⟨bw,0,none⟩=some (ptrV wg):=p3.bw
 have KF:Hid (∀W,Below W3.drew.heap.size W3.drew W→(W.cell? ⟨bg,0,none⟩=some (ptrV g)∧W.cell? ⟨bw,0,none⟩=some (ptrV wg))∧((W.setCell ⟨g,29,none⟩ (.int .u64 ph)).cell? ⟨bg,0,none⟩=some (ptrV g)∧(W.setCell ⟨g,29,none⟩ (.int .u64 ph)).cell? ⟨bw,0,none⟩=some (ptrV wg))∧((∃v,W.cell? ⟨g,29,none⟩=some v)∧W.frozen? ⟨g,29,none⟩=false)∧((∃v,(W.setCell ⟨g,29,none⟩ (.int .u64 ph)).cell? ⟨g,30,none⟩=some v)∧(W.setCell ⟨g,29,none⟩ (.int .u64 ph)).frozen? ⟨g,30,none⟩=false)∧ScPl si m g bg bw wg { X0 with at':=pa,leaf:=pn,high:=ph,has:=hs' } R0 y f0 uv fv w ((W.setCell ⟨g,29,none⟩ (.int .u64 ph)).setCell ⟨g,30,none⟩ (.bool hs'))):=hid fun W hW=>by
  have hW':Below W3.heap.size W3 W:=(Below.drew (Below.refl _ W3)).trans hW
  have p:=p3.bel hbg hbw hwgn hf0 hW'
  have hB:=p.blk.set_ 29 (.int .u64 ph)
  exact⟨⟨p.bg,p.bw⟩,⟨cell_far hbg p.bg,cell_far hbw p.bw⟩,⟨⟨_,p.blk.cell 29⟩,p.blk.frozen 29⟩,⟨⟨_,hB.cell 30⟩,hB.frozen 30⟩,p.turn hbg hbw hwgn hf0 ((by repeat(first | exact Only.refl _ _ | (refine Only.drew ?_) | (refine Only.drewN ?_ _) | (refine Only.setCell ?_ (Or.inl (by simp)) _) | (refine Only.alloc ?_ _)))) (hB.set_ 30 (.bool hs'))⟩
 clear p3 H3 hne hbg hbw hwgn hf0 hsi hr hgr hlim hl2 hpa hpn hph' hhs
 go_upto_region 4 with fail
 go_region_held3 (fun W=>W.cell? ⟨bg,0,none⟩=some (ptrV g)∧W.cell? ⟨bw,0,none⟩=some (ptrV wg)) (first | go_keep | (exact sC) | (exact sD) | (exact⟨H4.out.bg,H4.out.bw⟩))
  (first | (go_at_call 114;refine GZ.out.mono ?_;rintro e w4 ⟨rfl,hb4⟩;obtain⟨sC,sD,⟨⟨v8,c8⟩,f8⟩,⟨⟨v9,c9⟩,f9⟩,sE⟩:=KF.out w4 hb4;have H4:=hid sE;clear hb4 sE))
 obtain⟨V,hV⟩: ∃V,V=(w4.setCell ⟨g,29,none⟩ (.int .u64 ph)).setCell ⟨g,30,none⟩ (.bool hs'):=⟨_,rfl⟩
 rw[show _=V from hV.symm]
 rw[←hV] at H4
 clear hV sC sD c8 f8 c9 f9 KF GZ e0 e1
 have KA:Hid (∀W,Below V.heap.size V W→W.cell? ⟨bg,0,none⟩=some (ptrV g)∧W.cell? ⟨g,29,none⟩=some (.int .u64 ph)∧W.cell? ⟨g,30,none⟩=some (.bool hs')∧ldR Tryz.prog 77 (.pointer (some ⟨g,8,none⟩)) W= .ok (.agg (nodeC pn)) W):=hid fun W hW=>by
  have hB:=H4.out.blk.bel hW
  exact⟨cell_bel hW H4.out.bg,hB.cell 29,hB.cell 30,ScBlk.ldn hB⟩
 obtain⟨s0,s1,s2,s3⟩:=KA.out V.drew (Below.drew (Below.refl _ _))
 have NZ:=hid (fun W=>NActive_z pn ph hs' W)
 go_upto_region 5 with fail
 go_region_held3 (fun W=>W.cell? ⟨bg,0,none⟩=some (ptrV g)∧W.cell? ⟨g,29,none⟩=some (.int .u64 ph)∧W.cell? ⟨g,30,none⟩=some (.bool hs')∧ldR Tryz.prog 77 (.pointer (some ⟨g,8,none⟩)) W= .ok (.agg (nodeC pn)) W) (first | go_keep | (exact sC) | (exact⟨s0,s1,s2,s3⟩))
  (first | (go_at_call 115;refine(NZ.out _).mono ?_;rintro e w5 ⟨av,rfl,hE⟩;obtain⟨ao,ac,rfl,hcl⟩:=hE.ents;have hb5:=bx (Below.drew (Below.refl _ V)) hE.bel;have sC:=KA.out w5 hb5;have HE:=hid (⟨hE,hcl,hb5⟩:_∧_∧_);clear hE hcl hb5))
 obtain⟨A,hA⟩: ∃A,A=activeN pn ph hs':=⟨_,rfl⟩
 obtain⟨L,hL⟩: ∃L,L=A.length:=⟨_,rfl⟩
 have hLL:(activeN pn ph hs').length=L:=by rw[←hA];exact hL.symm
 rw[hLL]
 obtain⟨X2,hX2⟩: ∃X2:ScP,X2={ X0 with at':=pa,leaf:=pn,high:=ph,has:=hs' }:=⟨_,rfl⟩
 rw[←hX2] at H4
 have HV5:Hid (Below V.heap.size V w5):=hid HE.out.2.2
 have HL:Hid (A=activeN pn ph hs'∧L=A.length∧L≤8):=hid ⟨hA,hL,by
  have:=HY.out.2.2.2;rw[←HQ.out.2.1,←HQ.out.2.2.1,←HQ.out.2.2.2,←hA] at this;omega⟩
 have HC:=HE.out.2.1
 rw[←hA] at HC
 have HC:=hid HC
 have hg5:g<w5.heap.size:=(H4.out.blk.bel HV5.out).lt
 have HG5:=hid hg5
 have HEN:=hid (⟨HE.out.1.new,H4.out.blk.lt⟩:(∀b,(Value.slice ao (activeN pn ph hs').length ac).ownBlock=some b→V.heap.size≤b)∧g<V.heap.size)
 have HLO:Hid (X2.lo=x.lo∧X2.hi=x.hi):=hid (by rw[hX2,HXR.out.1];exact⟨rfl,rfl⟩)
 have HBG:=hid (cell_bel HV5.out H4.out.bg)
 have I0:Hid (ScWl si g X2 R0 uv fv w5 w5 ((A.take 0).filter (rngB x.lo x.hi))):=hid ⟨nilS,Only.refl _ _,by
  have h:=H4.out.blk.bel HV5.out
  rw[HXR.out.2] at h ⊢;exact h,by simp;exact World.ownsRow_nil _ _ _ _⟩
 have HX2:=hid hX2
 clear hA hL hLL hX2 hg5 s0 s1 s2 s3 sC HE NZ KA
 go_wp2
 go_loopw [60] (fun iv wr=> ∃k:Nat,k≤L∧iv= .int .i64 k∧Hid (ScWl si g X2 R0 uv fv w5 wr ((A.take k).filter (rngB x.lo x.hi)))) (fun iv _=>L- (intOf iv).toNat)
 case atStart=>exact⟨0,Nat.zero_le _,rfl,I0⟩
 case round=>
  obtain⟨k,hk,rfl,hI⟩:=hrel
  clear I0
  obtain⟨wA,rfl⟩: ∃z,z=wr:=⟨_,rfl⟩
  by_cases hlt:k<L
  ·have i1:(k:Int)< (L:Int):=by omega
   have i0:(0:Int)≤(k:Int):=by omega
   obtain⟨⟨q,p⟩,hy⟩: ∃y,A[k]?=some y:=⟨_,List.getElem?_eq_getElem (by have:=HL.out.2.1;omega)⟩
   obtain⟨ab,aof,rfl,hal,hac⟩:=HC.out.resolve_left (fun e=>by rw[e] at hy;simp at hy)
   obtain⟨wv0,hO,hB,hR⟩:=hI.out
   have hag:ab≠g:=by have:=HEN.out.1 ab rfl;have:=HEN.out.2;omega
   have c1:wA.cell? ⟨ab,aof+k*2,none⟩=some (.int .u64 q):=(hO.cell (p:=⟨ab,aof+k*2,none⟩) hal (by simpa using hag)).trans (hac k _ hy).1
   have c2:wA.cell? ⟨ab,aof+k*2+1,none⟩=some (.int .u64 p):=(hO.cell (p:=⟨ab,aof+k*2+1,none⟩) hal (by simpa using hag)).trans (hac k _ hy).2
   obtain⟨W7,hW7⟩: ∃W7,W7=(wA.alloc (.cells #[.int .u64 q,.int .u64 p] 130)).drew:=⟨_,rfl⟩
   have hb7:Below wA.heap.size wA W7:=by rw[hW7];exact(ba (Below.refl _ _) _).drew
   have k7:Blk W7 wA.heap.size 130 #[.int .u64 q,.int .u64 p]:=by rw[hW7];exact Blk.new _ _ _
   have hbgn:bg≠g:=HN.out.2.1
   have a0:wA.cell? ⟨bg,0,none⟩=some (ptrV g):=(hO.cell (p:=⟨bg,0,none⟩) (World.block_lt_of_cell? _ _ HBG.out) (by simpa using hbgn)).trans HBG.out
   have b0:W7.cell? ⟨bg,0,none⟩=some (ptrV g):=cell_bel hb7 a0
   have b1:W7.cell? ⟨wA.heap.size,0,none⟩=some (.int .u64 q):=k7.cell 0
   have b2:W7.cell? ⟨g,2,none⟩=some (.int .u64 x.lo):=by rw[←HLO.out.1];exact(hB.bel hb7).cell 2
   have b3:W7.cell? ⟨g,3,none⟩=some (.int .u64 x.hi):=by rw[←HLO.out.2];exact(hB.bel hb7).cell 3
   have hI7:=hI.out.ahead hb7
   have iL:(L:Int)≤8:=by have:=HL.out.2.2;omega
   have HW7:=hid hW7
   rw[hW7] at b0 b1 b2 b3
   have HI:=hid (⟨hI7,hy,hlt,k7⟩:_∧_∧_∧_)
   clear hO hB hR hal hac hag hI7 hI hy hlt hk hb7 k7 hbgn hW7
   go_upto_region 8 with fail
   by_cases hr1:x.lo≤q
   ·by_cases hr2:q≤x.hi
    ·have i3:q≥x.lo:=hr1
     go_region
     rw[show _=W7 from HW7.out.symm]
     rw[←HW7.out] at b0
     obtain⟨wv,va,vc,w9,hA9⟩:=HI.out.1.app HG5.out (by have h1:=List.length_filter_le (rngB x.lo x.hi) (A.take k);have h2:=List.length_take_le k A;have:=HI.out.2.2.1;have:=HL.out.2.2;omega) q p
     obtain⟨n,hn⟩: ∃n,n=((A.take k).filter (rngB x.lo x.hi)).length+1:=⟨_,rfl⟩
     rw[←hn] at hA9
     clear hn
     have d0:W7.drew.cell? ⟨bg,0,none⟩=some (ptrV g):=b0
     have d1:W7.drew.cell? ⟨g,31,none⟩=some wv:=hA9.old
     have d2:W7.drew.cell? ⟨wA.heap.size,0,none⟩=some (.int .u64 q):=HI.out.2.2.2.cell 0
     have d3:W7.drew.cell? ⟨wA.heap.size,1,none⟩=some (.int .u64 p):=HI.out.2.2.2.cell 1
     have f0:(W7.alloc (.cells #[.int .u64 q,.int .u64 p] 130)).drew.cell? ⟨bg,0,none⟩=some (ptrV g):=ca _ d0
     have f1:(W7.alloc (.cells #[.int .u64 q,.int .u64 p] 130)).drew.cell? ⟨g,31,none⟩=some wv:=ca _ d1
     have r0:=hA9.run
     have r1:=hA9.cell
     have r2:=hA9.frozen
     have x0:w9.cell? ⟨bg,0,none⟩=some (ptrV g):=hA9.keep bg 0 _ (World.block_lt_of_cell? _ _ HBG.out) b0
     have H9:=hid hA9.wl
     clear hA9 b1 b2 b3
     go_upto_region 9 with fail
     go_region
     go_wp2
     go_roundw
     case rel=>exact⟨k+1,by have:=HI.out.2.2.1;omega,by go_num,hid (by rw[take_filter_yes HI.out.2.1 (by unfold rngB;simp;exact⟨hr1,hr2⟩)];exact H9.out)⟩
     case measure=>simp[intOf];have:=HI.out.2.2.1;omega
    ·have i3:q≥x.lo:=hr1
     go_region
     rw[show _=W7 from HW7.out.symm]
     go_wp2
     go_roundw
     case rel=>exact⟨k+1,by have:=HI.out.2.2.1;omega,by go_num,hid (by rw[take_filter_no HI.out.2.1 (by unfold rngB;simp;omega)];exact HI.out.1)⟩
     case measure=>simp[intOf];have:=HI.out.2.2.1;omega
   ·have i3: ¬q≥x.lo:=hr1
    go_region
    rw[show _=W7 from HW7.out.symm]
    go_wp2
    go_roundw
    case rel=>exact⟨k+1,by have:=HI.out.2.2.1;omega,by go_num,hid (by rw[take_filter_no HI.out.2.1 (by unfold rngB;simp;omega)];exact HI.out.1)⟩
    case measure=>simp[intOf];have:=HI.out.2.2.1;omega
  ·obtain rfl:k=L:=by omega
   have i1: ¬(k:Int)< (k:Int):=by omega
   obtain⟨C,hC⟩: ∃C,C=A.filter (rngB x.lo x.hi):=⟨_,rfl⟩
   have hI2:ScWl si g X2 R0 uv fv w5 wA C:=by
    have:=hI.out
    rw[HL.out.2.1,List.take_length,←hC] at this;exact this
   obtain⟨wv,hO,hB,hR⟩:=hI2
   obtain⟨va,vc,rfl⟩:=row_form1 hR
   obtain⟨hne,hbg,hbw,hwgn,hf0,hsi,hr,hgr,hlim,hl2⟩:=HN.out
   obtain⟨qa,qc,hpv⟩:=row_form1 hr.pairs
   obtain⟨c,hc⟩: ∃c,c=C.length:=⟨_,rfl⟩
   obtain⟨np,hnp⟩: ∃np,np=x.pairs.length:=⟨_,rfl⟩
   obtain⟨n,hn⟩: ∃n,n=min c (x.limit.toNat-np):=⟨_,rfl⟩
   rw[←hc] at hB hR
   have a0:wA.cell? ⟨bg,0,none⟩=some (ptrV g):=(hO.cell (p:=⟨bg,0,none⟩) (World.block_lt_of_cell? _ _ HBG.out) (by simpa using hbg)).trans HBG.out
   have d0:wA.drew.cell? ⟨bg,0,none⟩=some (ptrV g):=a0
   have d31:wA.drew.cell? ⟨g,31,none⟩=some (.slice va c vc):=hB.cell 31
   have hXl:X2.limit=x.limit:=by rw[HX2.out,HXR.out.1]
   have hXp:R0.pv=R.pv:=by rw[HXR.out.2]
   have d4:wA.drew.cell? ⟨g,4,none⟩=some (.int .i64 x.limit):=by rw[←hXl];exact hB.cell 4
   have d34:wA.drew.cell? ⟨g,34,none⟩=some (.slice qa np qc):=by rw[hnp,←hpv,←hXp];exact hB.cell 34
   have m1:IntKind.i64.wrap (x.limit- (np:Int))=x.limit- (np:Int):=by rw[IntKind.wrap_i64];omega
   have m2:min (c:Int) (x.limit- (np:Int))=(n:Int):=by omega
   have hcap:(n:Int)≤(vc:Int):=by
    have:=CapOK.of_own hR va c vc rfl
    omega
   have j0:(0:Int)≤(n:Int):=by omega
   have f31:=hB.frozen 31
   have HF:=hid (⟨hI.out,hn⟩:_∧_)
   have hcn:Hid (c=(A.filter (rngB x.lo x.hi)).length∧np=x.pairs.length):=hid ⟨by rw[hc,hC],hnp⟩
   clear hI hO hB hR hr hgr hsi hlim hl2 hpv hc hnp hn hk hlt a0 hC
   go_upto_region 11 with fail
   go_region
   clear m1 m2 d4 d34
   have e0:wA.drew.drew.cell? ⟨bg,0,none⟩=some (ptrV g):=d0
   have e31:wA.drew.drew.cell? ⟨g,31,none⟩=some (.slice va c vc):=d31
   have g31:wA.drew.drew.frozen? ⟨g,31,none⟩=false:=f31
   go_upto_region 12 with fail
   go_region
   obtain⟨V2,hV2⟩: ∃V2,V2=(wA.setCell ⟨g,31,none⟩ (.slice va n n)).drew.drew:=⟨_,rfl⟩
   rw[show _=V2 from hV2.symm]
   obtain⟨hne,hbg,hbw,hwgn,hf0,hsi,hr,hgr,hlim,hl2⟩:=HN.out
   obtain⟨q1,q2,q3,q4⟩:=HQ.out
   have hOw:Only [g] w w5:=H4.out.only.trans (Only.of_below HV5.out [g]) (fun y hy=>Or.inl hy)
   have hwl:=HF.out.1
   rw[HL.out.2.1,List.take_length] at hwl
   have hn':=HF.out.2
   rw[hcn.out.1,hcn.out.2] at hn'
   obtain⟨t1,t2,t3,t4,t5⟩:=ScWl.land (x:=x) (R:=R) (y:=y) (V2:=V2) (by rw[HL.out.1,q2,q3,q4]) (by rw[HX2.out,HXR.out.1,q1,q2,q3,q4]) HXR.out.2 hwl HG5.out (hOw.own hr.pairs (fun b hb hc=>hgr (by rw[List.mem_singleton.1 hc] at hb;exact SR.bl_p hb))) hgr d31 hn' (by rw[hV2];exact(Only.refl [] _).drew.drew)
   have hO2:=hOw.trans t4 (fun y hy=>Or.inl hy)
   have v0:V2.cell? ⟨bg,0,none⟩=some (ptrV g):=(t4.cell (p:=⟨bg,0,none⟩) (World.block_lt_of_cell? _ _ HBG.out) (by simpa using hbg)).trans HBG.out
   have v1:V2.cell? ⟨si,0,none⟩=some (ptrV m):=(hO2.cell (p:=⟨si,0,none⟩) (World.block_lt_of_cell? _ _ hsi) (by simpa using hne)).trans hsi
   have SZ:=hid (SRead_z si m g (x.leafed y) _ uv fv (Nat.zero_le _) (by
    have h1:=HY.out.2.2.2
    have h2:(x.leafed y).want.length≤(activeN y.pn y.ph y.phas).length:=by
     show(wantN y.pn y.ph y.phas x.lo x.hi (x.limit.toNat-x.pairs.length)).length≤_
     unfold wantN
     rw[List.length_take]
     have:=List.length_filter_le (rngB x.lo x.hi) (activeN y.pn y.ph y.phas)
     omega
    omega) V2 t1 v1 t2 t3)
   have HH:=hid (⟨hO2.mono (by simp),fun z hz=>(t5 z hz).imp id (fun h=>Nat.le_trans hOw.size h)⟩:Only (g::R.bl) w V2∧ ∀z∈(⟨.slice va n n,nilS,R.pv⟩:SR).bl,z∈R.bl∨w.heap.size≤z)
   clear hV2 hne hbg hbw hwgn hf0 hsi hr hgr hlim hl2 q1 q2 q3 q4 hOw hwl hn' t1 t2 t3 t4 t5 hO2 v1 d0 d31 e0 e31 g31 f31 hcap j0
   go_wp2_with fail
   refine SZ.out.mono ?_
   intro e w8 hgo
   have he:=hgo.1
   subst he
   have HG:=hid hgo
   clear hgo SZ
   go_wp2_with fail
   refine bodyPost_end (v:= .tuple #[]) (by simp[results,Tryz.results113,go_sem]) rfl ?_
   exact HG.out.behind HH.out.1 HH.out.2
end
end Go.Proofs.YtjmaicckkkdjpaaGreat
