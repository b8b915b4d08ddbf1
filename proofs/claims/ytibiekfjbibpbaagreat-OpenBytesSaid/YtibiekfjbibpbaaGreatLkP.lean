/- A level's pointers held against the level below: link.active, leads, children. -/
import Derived.Test.YtibiekfjbibpbaaGreatLkO
set_option maxRecDepth 100000
set_option maxHeartbeats 4000000
set_option linter.unusedVariables false
set_option linter.unusedSimpArgs false
namespace Go.Proofs.YtibiekfjbibpbaaGreat
open Go.RowKit
section
attribute [local go_sem ↓ high] nodeLoadAt nodeLoadVar nodeStoreAt append_shut2 linkBuild linkBuildS linkLoadAt linkStoreAt
attribute [local go_sem] ldM_run lvM_run stM_run Oper.semAt_some appM2_run bldM_run bslM_run
theorem LActive_z (n:NodeA) (a h:Int) (f:Bool) (w:World):Calls Tryz.prog 208 #[.agg (linkL n a h f).toArray] w fun e W'=> ∃v,e= .returned v∧EntsNew w W' v (activeN n h f):=by
 obtain⟨W1,hW1⟩: ∃W1,W1=w.alloc (.cells (linkL n a h f).toArray 196):=⟨_,rfl⟩
 have k1:Blk W1 w.heap.size 196 (linkL n a h f).toArray:=by rw[hW1];exact Blk.new _ _ _
 have hb1:Below w.heap.size w W1:=by rw[hW1];exact ba (Below.refl _ _) _
 have ld:=link_node k1
 have d22:W1.cell? ⟨w.heap.size,22,none⟩=some (.int .u64 h):=k1.cell 22
 have d23:W1.cell? ⟨w.heap.size,23,none⟩=some (.bool f):=k1.cell 23
 have AC:=hid (NActive_z n h f W1)
 have HW1:=hid hW1
 have HB1:=hid hb1
 clear hW1 k1 hb1
 go_enter Tryz.func208,Tryz.ntmps208
 go_upto_region 1 with fail
 rw[←HW1.out]
 go_wp2_with fail
 refine AC.out.mono ?_
 rintro e w2 ⟨v,rfl,hE⟩
 obtain⟨va,vc,rfl⟩: ∃a c,v= .slice a (activeN n h f).length c:=by
  obtain⟨ao,cap,e,_⟩:=hE.ents
  exact⟨ao,cap,e⟩
 have HE:=hid hE
 clear hE
 go_wp2
 go_ret
 exact⟨_,rfl,HE.out.ents,fun b hb=>Nat.le_trans HB1.out.size (HE.out.new b hb),bx HB1.out HE.out.bel,HE.out.cap⟩
def isUU (p:Int×Int):Value×Value:=(.int .u64 p.1,.int .u64 p.2)
def MapU (w:World) (mb:Nat) (ps:List (Int×Int)):Prop:= ∃es clock,w.heap[mb]?=some (.map es clock)∧es.toList.map pairE=ps.map isUU
theorem mapKeys {es:List MapEntry} {ps:List (Int×Int)} (hv:es.map pairE=ps.map isUU): ∀e∈es,∃x∈ps,e.key= .int .u64 x.1:=by
 intro e he
 have hm:pairE e∈ps.map isUU:=hv▸List.mem_map_of_mem he
 obtain⟨x,hx,hxe⟩:=List.mem_map.1 hm
 exact⟨x,hx,(congrArg Prod.fst hxe).symm⟩
theorem MapU.put {w:World} {mb:Nat} {ps:List (Int×Int)} (h:MapU w mb ps) (a b:Int) (ha:a∉ps.map (·.1)):
  ∃w',(Instr.mapUpdate 301 (.map (some mb)) (.int .u64 a) (.int .u64 b)).run Tryz.prog w= .ok () w'∧MapU w' mb (ps++[(a,b)])∧Only [mb] w w':=by
 obtain⟨es,clock,h1,h2⟩:=h
 refine⟨_,run_updU_new w _ _ _ Tryz.underlying301 Tryz.underlying46 mb es clock h1 a (.int .u64 b) (findU_none fun e he=>by
   obtain⟨x,hx,hxk⟩:=mapKeys h2 e he
   exact⟨x.1,hxk,fun e=>ha (e▸List.mem_map_of_mem hx)⟩),⟨_,_,putObj_at h1,?_⟩,(Only.refl _ _).putObj (Or.inl (by simp)) _⟩
 rw[Array.toList_push,List.map_append,h2,List.map_append];rfl
theorem MapU.look {w:World} {mb:Nat} {ps:List (Int×Int)} (h:MapU w mb ps) (hn:(ps.map (·.1)).Nodup) (a:Int):
  (∃b,(a,b)∈ps∧(Instr.lookup 301 (.map (some mb)) (.int .u64 a) true).run Tryz.prog w= .ok (.tuple #[.int .u64 b,.bool true]) w)∨
  (a∉ps.map (·.1)∧(Instr.lookup 301 (.map (some mb)) (.int .u64 a) true).run Tryz.prog w= .ok (.tuple #[.int .u64 0,.bool false]) w):=by
 obtain⟨es,clock,h1,h2⟩:=h
 by_cases hm:a∈ps.map (·.1)
 ·obtain⟨x,hx,rfl⟩:=List.mem_map.1 hm
  obtain⟨pre,post,hps⟩:=List.append_of_mem hx
  left
  refine⟨x.2,hx,?_⟩
  rw[hps,List.map_append,List.map_cons] at h2
  have hnp:x.1∉pre.map (·.1):=by
   rw[hps,List.map_append,List.map_cons,List.nodup_append] at hn
   intro hc
   exact hn.2.2 _ hc _ (List.mem_cons_self ..) rfl
  obtain⟨es1,es3,k1,k2,k3⟩:=List.map_eq_append_iff.1 h2
  obtain⟨e,es2,k4,k5,k6⟩:=List.map_eq_cons_iff.1 k3
  subst k4
  have hk:e.key= .int .u64 x.1:=congrArg Prod.fst k5
  have hvl:e.val= .int .u64 x.2:=congrArg Prod.snd k5
  have hf:=findU_at (k:=x.1) (e:=e) (post:=es2) hk (pre:=es1) (i:=0) (fun d hd=>by
   obtain⟨y,hy,hyk⟩:=mapKeys k2 d hd
   exact⟨y.1,hyk,fun e=>hnp (e▸List.mem_map_of_mem hy)⟩)
  rw[←k1,hvl] at hf
  exact run_lookU_some w _ _ _ Tryz.underlying301 Tryz.underlying46 mb es clock h1 x.1 _ (.int .u64 x.2) true hf
 ·right
  refine⟨hm,run_lookU_none w _ _ _ Tryz.underlying301 Tryz.underlying46 mb es clock h1 a (.int .u64 0) true (by kernel_rfl) (findU_none fun e he=> ?_)⟩
  obtain⟨x,hx,hxk⟩:=mapKeys h2 e he
  exact⟨x.1,hxk,fun e=>hm (e▸List.mem_map_of_mem hx)⟩
theorem mem_uniq {ps:List (Int×Int)} (hn:(ps.map (·.1)).Nodup) {a b c:Int} (h1:(a,b)∈ps) (h2:(a,c)∈ps):b=c:=by
 induction ps with
 | nil=>cases h1
 | cons p ps ih=>
  rw[List.map_cons,List.nodup_cons] at hn
  rcases List.mem_cons.1 h1 with e1 | e1<;>rcases List.mem_cons.1 h2 with e2 | e2
  ·rw[←e1] at e2;exact(Prod.mk.inj e2).2.symm
  ·exact absurd (List.mem_map.2 ⟨_,e2,by rw[←e1]⟩) hn.1
  ·exact absurd (List.mem_map.2 ⟨_,e1,by rw[←e2]⟩) hn.1
  ·exact ih hn.2 e1 e2
theorem Leads_z (Bm mb:Nat) (ps:List (Int×Int)) (hn:(ps.map (·.1)).Nodup) (low a:Int) (w:World) (hc:w.cell? ⟨Bm,0,none⟩=some (.map (some mb))) (hm:MapU w mb ps):
  Calls Tryz.prog 207 #[.int .u64 low,.int .u64 a,.pointer (some ⟨Bm,0,none⟩)] w fun e w'=>w'=w∧(((low,a)∈ps∧e= .returned (.tuple #[]))∨((low,a)∉ps∧e= .panicked errC)):=by
 have MY:=hid (Must_yes w)
 have MN:=hid (Must_no w)
 rcases hm.look hn low with⟨b,hb,hlk⟩ | ⟨hno,hlk⟩
 ·by_cases hba:b=a
  ·have e1:(b==a)=true:=by simp[hba]
   have HB:=hid (show(low,a)∈ps by rw[←hba];exact hb)
   clear hb hm hn hba
   go_enter Tryz.func207,Tryz.ntmps207
   go_wp2_with fail
   refine MY.out.mono ?_
   rintro e w1 ⟨rfl,rfl⟩
   go_wp2
   refine bodyPost_end (v:= .tuple #[]) (by simp[results,Tryz.results207,go_sem]) rfl ?_
   exact⟨rfl,Or.inl ⟨HB.out,rfl⟩⟩
  ·have e1:(b==a)=false:=by simp[hba]
   have HB:=hid (show(low,a)∉ps from fun h=>hba (mem_uniq hn hb h))
   clear hb hm hn hba
   go_enter Tryz.func207,Tryz.ntmps207
   go_wp2_with fail
   refine MN.out.mono ?_
   rintro e w1 ⟨rfl,rfl⟩
   exact⟨rfl,rfl,Or.inr ⟨HB.out,rfl⟩⟩
 ·have HB:=hid (show(low,a)∉ps from fun h=>hno (List.mem_map.2 ⟨_,h,rfl⟩))
  clear hm hn hno
  go_enter Tryz.func207,Tryz.ntmps207
  go_wp2_with fail
  refine MN.out.mono ?_
  rintro e w1 ⟨rfl,rfl⟩
  exact⟨rfl,rfl,Or.inr ⟨HB.out,rfl⟩⟩
end
section
attribute [local go_sem ↓ high] nodeLoadAt nodeLoadVar nodeStoreAt append_shut2 linkBuild linkBuildS linkLoadAt linkStoreAt
attribute [local go_sem] ldM_run lvM_run stM_run Oper.semAt_some appM2_run bldM_run bslM_run
theorem RowAt.ld {W W':World} {N:Nat} {ra:Option Addr} {rc n:Nat} {row:List (Int×NodeA)} (h:RowAt W N (.slice ra n rc) row) (hb:Below W.heap.size W W') {i:Nat} {x:Int×NodeA} (hx:row[i]?=some x): ∃g,ra=some ⟨g,0,none⟩∧ldR Tryz.prog 196 (.pointer (some ⟨g,i*24,none⟩)) W'= .ok (.agg (linkL x.2 x.1 (highI row i) (hasI row i)).toArray) W':=by
 have hi:=(List.getElem?_eq_some_iff.1 hx).1
 obtain⟨g,cap,cur,hsl,hg1,hg2,hg3,hg4,hg5,hg6⟩:=own_links h (by omega)
 injection hsl with hs1' _ hs2'
 exact⟨g,hs1',link_ld (i:=i*24) (hg4.bel hb) (fun j v hv=>take_at hg6 (by rw[linksC_at hx (by have:=(List.getElem?_eq_some_iff.1 hv).1;rw[linkL_len] at this;exact this)];exact hv))⟩
theorem RowAt.few {W:World} {N:Nat} {v:Value} {row:List (Int×NodeA)} (h:RowAt W N v row):row.length≤9223372036854775807:=by
 rcases Nat.eq_zero_or_pos row.length with h0 | h0
 ·omega
 ·obtain⟨g,cap,cur,_,_,h1,h2,_⟩:=own_links h h0
  unfold maxLen at h2
  omega
def lowAt (y:Int×NodeA):Int×Int:=(y.2.low,y.1)
theorem hitI_iff {down:List (Int×NodeA)} {e:Int×Int}:hitI down e↔(e.1,e.2)∈down.map lowAt:=by
 unfold hitI lowAt
 constructor
 ·rintro⟨y,hy,h1,h2⟩
  exact List.mem_map.2 ⟨y,hy,by rw[h1,h2]⟩
 ·intro h
  obtain⟨y,hy,he⟩:=List.mem_map.1 h
  injection he with h1 h2
  exact⟨y,hy,h2,h1⟩
theorem ptrsI_eq {up:List (Int×NodeA)} {j:Nat} {x:Int×NodeA} (hx:up[j]?=some x):ptrsI up j=(x.2.low,x.2.fi)::activeN x.2 (highI up j) (hasI up j):=by
 unfold ptrsI actI
 rw[hx];rfl
theorem leads_no {up down:List (Int×NodeA)} {j:Nat} (hj:j<up.length) {e:Int×Int} (he:e∈ptrsI up j) (hn:(e.1,e.2)∉down.map lowAt): ¬leadsI up down:=fun h=>hn (hitI_iff.1 (h j hj e he))
theorem MapU.bel {w w':World} {mb:Nat} {ps:List (Int×Int)} (h:MapU w mb ps) (hb:Below w.heap.size w w'):MapU w' mb ps:=by
 obtain⟨es,cl,q1,q2⟩:=h
 exact⟨es,cl,(hb.block _ (Array.getElem?_eq_some_iff.1 q1).1).trans q1,q2⟩
theorem LChildren_z (N lb:Nat) (up down:List (Int×NodeA)) (ua da:Option Addr) (un dn uc dc:Nat) (hun:un=up.length) (hdn:dn=down.length) (hnd:(down.map fun y=>y.2.low).Nodup) (w:World) (hu:RowAt w N (.slice ua un uc) up) (hd:RowAt w N (.slice da dn dc) down):
  Calls Tryz.prog 153 #[.pointer (some ⟨lb,0,none⟩),.slice ua un uc,.slice da dn dc] w fun e w'=>Below w.heap.size w w'∧((leadsI up down∧e= .returned (.tuple #[]))∨(¬leadsI up down∧e= .panicked errC)):=by
 have hmk:(Instr.makeMap 301 none).run Tryz.prog w= .ok (.map (some w.heap.size)) (w.alloc (.map #[] 0)):=by
  simp[Instr.makeMap,run_underlying Tryz.underlying301]
 have hu9:=hu.few
 have hd9:=hd.few
 obtain⟨W1,hW1⟩: ∃W1,W1=(w.alloc (.map #[] 0)).alloc (.cells #[.map (some w.heap.size)] 301):=⟨_,rfl⟩
 have hb1:Below w.heap.size w W1:=by rw[hW1];exact ba (ba (Below.refl _ _) _) _
 have hm1:MapU W1 w.heap.size []:=by
  refine⟨#[],0,?_,rfl⟩
  rw[hW1,Below.heap_alloc _ _ _ (by simp)]
  exact heap_alloc_new w _
 have k1:Blk W1 (w.heap.size+1) 301 #[.map (some w.heap.size)]:=by
  rw[hW1]
  have:=Blk.new (w.alloc (.map #[] 0)) 301 #[.map (some w.heap.size)]
  rwa[World.size_alloc] at this
 have HU:=hid hu
 have HD:=hid hd
 have HND:=hid hnd
 have HW1:=hid hW1
 have H1:=hid (⟨hb1,hm1,k1⟩:_∧_∧_)
 have HUN:=hid hun
 have HDN:=hid hdn
 rw[←hun] at hu9
 rw[←hdn] at hd9
 clear hu hd hnd hW1 hb1 hm1 k1 hun hdn
 go_enter Tryz.func153,Tryz.ntmps153
 go_upto_region 1 with fail
 rw[←HW1.out]
 go_wp2
 go_loopw [8,17] (fun s8 iv wr=> ∃i:Nat,i≤dn∧iv= .int .i64 i∧Hid (Below w.heap.size w wr)∧Hid (MapU wr w.heap.size ((down.take i).map lowAt))∧Hid (Blk wr (w.heap.size+1) 301 #[.map (some w.heap.size)])) (fun _ iv _=>dn- (intOf iv).toNat)
 case atStart=>exact⟨0,Nat.zero_le _,rfl,H1.out.1,H1.out.2.1,H1.out.2.2⟩
 case round=>
  obtain⟨i,hi,rfl,hB,hM,hK⟩:=hrel
  have i0:(0:Int)≤(i:Int):=by omega
  by_cases hlt:i<dn
  ·have i1:(i:Int)< (dn:Int):=by omega
   obtain⟨x,hx⟩: ∃x,down[i]?=some x:=⟨_,List.getElem?_eq_getElem (by have:=HDN.out;omega)⟩
   obtain⟨g,rfl,ld1⟩:=HD.out.ld hB.out hx
   obtain⟨W5,st5,k5,hb5⟩:=link_new wr x.2 x.1 (highI down i) (hasI down i)
   have d1:W5.cell? ⟨wr.heap.size,1,none⟩=some (.int .u64 x.2.low):=k5.cell 1
   have d21:W5.cell? ⟨wr.heap.size,21,none⟩=some (.int .u64 x.1):=k5.cell 21
   have km5:=hK.out.bel hb5
   have cm5:W5.cell? ⟨w.heap.size+1,0,none⟩=some (.map (some w.heap.size)):=km5.cell 0
   have hm5:MapU W5 w.heap.size ((down.take i).map lowAt):=by
    obtain⟨es,cl,q1,q2⟩:=hM.out
    exact⟨es,cl,(hb5.block _ (Array.getElem?_eq_some_iff.1 q1).1).trans q1,q2⟩
   have hnot:x.2.low∉ ((down.take i).map lowAt).map (·.1):=by
    intro hc
    rw[List.map_map] at hc
    obtain⟨y,hy,he⟩:=List.mem_map.1 hc
    obtain⟨j,hj⟩:=List.mem_iff_getElem?.1 hy
    rw[List.getElem?_take] at hj
    split at hj
    ·rename_i hji
     have h1:=List.pairwise_iff_getElem.1 HND.out
     have hjl:=(List.getElem?_eq_some_iff.1 hj).1
     have hil:=(List.getElem?_eq_some_iff.1 hx).1
     have:=h1 j i (by simpa using hjl) (by simpa using hil) hji
     simp only[List.getElem_map] at this
     rw[(List.getElem?_eq_some_iff.1 hj).2,(List.getElem?_eq_some_iff.1 hx).2] at this
     exact this he
    ·cases hj
   obtain⟨W6,hup,hm6,ho6⟩:=hm5.put x.2.low x.1 hnot
   have HI:Hid (Below w.heap.size w W6):=(bx hB.out hb5).trans (ho6.below (fun y hy=>by rw[List.mem_singleton.1 hy];exact Nat.le_refl _) (bx hB.out hb5).size)
   have htk:(down.take (i+1)).map lowAt=(down.take i).map lowAt++[(x.2.low,x.1)]:=by rw[List.take_add_one,hx];simp[lowAt]
   have HM6:Hid (MapU W6 w.heap.size ((down.take (i+1)).map lowAt)):=by rw[htk];exact hm6
   have HK6:Hid (Blk W6 (w.heap.size+1) 301 #[.map (some w.heap.size)]):=ho6.blk km5 (by simp)
   have HLT:=hid hlt
   clear hx hb5 k5 km5 hm5 hnot hm6 ho6 htk hlt hi
   go_wp2
   go_roundw
   case rel=>exact⟨i+1,HLT.out,by go_num,HI,HM6,HK6⟩
   case measure=>simp[intOf];have:=HLT.out;omega
  ·obtain rfl:i=dn:=by omega
   have i1: ¬(i:Int)< (i:Int):=by omega
   have hps:(down.take i).map lowAt=down.map lowAt:=by rw[List.take_of_length_le (by have:=HDN.out;omega)]
   have hM':=hM.out
   rw[hps] at hM'
   have HMM:=hid hM'
   have HN2:=hid (show((down.map lowAt).map (·.1)).Nodup by rw[List.map_map];exact HND.out)
   clear hps hM' hlt hi
   go_wp2
   obtain⟨wA,rfl⟩: ∃x,x=wr:=⟨_,rfl⟩
   go_loopw [11,13,31,46] (fun s11 s13 iv s46 wr2=> ∃j:Nat,j≤un∧iv= .int .i64 j∧Hid (Below wA.heap.size wA wr2)∧Hid (∀i',i'<j→ ∀e∈ptrsI up i',hitI down e)) (fun _ _ iv _ _=>un- (intOf iv).toNat)
   case atStart=>exact⟨0,Nat.zero_le _,rfl,Below.refl _ _,fun i' h=>absurd h (Nat.not_lt_zero _)⟩
   case round=>
    obtain⟨wr2,rfl⟩: ∃x,x=wr:=⟨_,rfl⟩
    obtain⟨j,hj,rfl,hB2,hA⟩:=hrel
    have j0:(0:Int)≤(j:Int):=by omega
    by_cases hlt:j<un
    ·have j1:(j:Int)< (un:Int):=by omega
     obtain⟨x,hx⟩: ∃x,up[j]?=some x:=⟨_,List.getElem?_eq_getElem (by have:=HUN.out;omega)⟩
     obtain⟨g,rfl,ld1⟩:=HU.out.ld (bx hB.out hB2.out) hx
     obtain⟨W5,st5,k5,hb5⟩:=link_new wr2 x.2 x.1 (highI up j) (hasI up j)
     have d1:W5.cell? ⟨wr2.heap.size,1,none⟩=some (.int .u64 x.2.low):=k5.cell 1
     have d4:W5.cell? ⟨wr2.heap.size,4,none⟩=some (.int .u64 x.2.fi):=k5.cell 4
     have ld5:=link_ld (i:=0) k5 (fun j v hv=>by rw[Nat.zero_add,List.getElem?_toArray];exact hv)
     have hB5:=bx hB2.out hb5
     have LD:=fun W' (hb:Below W5.heap.size W5 W') (low a:Int)=>Leads_z (w.heap.size+1) w.heap.size (down.map lowAt) HN2.out low a W' (((hK.out.bel hB5).bel hb).cell 0) ((HMM.out.bel hB5).bel hb)
     have HLD:=hid LD
     have HX:=hid (⟨hx,hB5⟩:_∧_)
     have AC:=hid (LActive_z x.2 x.1 (highI up j) (hasI up j) W5)
     have HLT:=hid hlt
     clear hx hB5 LD k5 hb5 hlt hj
     go_wp2_with fail
     refine(HLD.out W5 (Below.refl _ _) _ _).mono ?_
     rintro e w6 ⟨rfl,(⟨hit,rfl⟩ | ⟨hno,rfl⟩)⟩
     ·have HIT:=hid hit
      clear hit
      go_wp2_with fail
      refine AC.out.mono ?_
      rintro e w7 ⟨v,rfl,hE⟩
      obtain⟨l,hl⟩: ∃l,l=activeN x.2 (highI up j) (hasI up j):=⟨_,rfl⟩
      rw[←hl] at hE
      obtain⟨n,hn⟩: ∃n,n=l.length:=⟨_,rfl⟩
      have hn8:n≤8:=by
       have h1:=List.length_filter_le (actE (highI up j) (hasI up j)) (validN x.2)
       have h2:=valid_len x.2
       have h3:l.length=((validN x.2).filter (actE (highI up j) (hasI up j))).length:=by rw[hl];rfl
       omega
      obtain⟨va,vc,he,hcl⟩:=hE.ents
      rw[←hn] at he
      subst he
      have HE:=hid (⟨hE.bel,hcl,hl,hn⟩:_∧_∧_∧_)
      clear hE hcl hl hn AC ld5 ld1 st5
      go_wp2
      go_loopw [13,46] (fun s13 qv wr3=> ∃q:Nat,q≤n∧qv= .int .i64 q∧Hid (Below w7.heap.size w7 wr3)∧Hid (∀q' e,q'<q→l[q']?=some e→hitI down e)) (fun _ qv _=>n- (intOf qv).toNat)
      case atStart=>exact⟨0,Nat.zero_le _,rfl,Below.refl _ _,fun q' e h=>absurd h (Nat.not_lt_zero _)⟩
      case round=>
       obtain⟨wr3,rfl⟩: ∃x,x=wr:=⟨_,rfl⟩
       obtain⟨q,hq,rfl,hB3,hA3⟩:=hrel
       have q0:(0:Int)≤(q:Int):=by omega
       by_cases hqn:q<n
       ·have q1:(q:Int)< (n:Int):=by omega
        obtain⟨y,hy⟩: ∃y,l[q]?=some y:=⟨_,List.getElem?_eq_getElem (by have:=HE.out.2.2.2;omega)⟩
        obtain⟨b,off,hva,hbl,hcl⟩:=HE.out.2.1.resolve_left (fun e=>by rw[e] at hy;simp at hy)
        subst hva
        have y1:wr3.cell? ⟨b,off+q*2,none⟩=some (.int .u64 y.1):=(hB3.out.cell (p:=⟨b,off+q*2,none⟩) hbl).trans (hcl q y hy).1
        have y2:wr3.cell? ⟨b,off+q*2+1,none⟩=some (.int .u64 y.2):=(hB3.out.cell (p:=⟨b,off+q*2+1,none⟩) hbl).trans (hcl q y hy).2
        have hb37:=bx HE.out.1 hB3.out
        have LQ:=hid (HLD.out (wr3.alloc (.cells #[.int .u64 y.1,.int .u64 y.2] 166)) (ba hb37 _) y.1 y.2)
        have HB4:=hid (ba hB3.out (.cells #[.int .u64 y.1,.int .u64 y.2] 166))
        have HY:=hid hy
        have HQN:=hid hqn
        clear hbl hcl hy hb37 hqn hq
        go_wp2_with fail
        refine LQ.out.mono ?_
        rintro e w8 ⟨rfl,(⟨hit,rfl⟩ | ⟨hno,rfl⟩)⟩
        ·have HA4:Hid (∀q' e,q'<q+1→l[q']?=some e→hitI down e):=by
          intro q' e h1 h2
          by_cases hqq:q'=q
          ·subst hqq
           rw[HY.out] at h2;injection h2 with h2;subst h2
           exact hitI_iff.2 hit
          ·exact hA3.out q' e (by omega) h2
         clear hit
         go_wp2
         go_roundw
         case rel=>exact⟨q+1,HQN.out,by go_num,HB4,HA4⟩
         case measure=>simp[intOf];have:=HQN.out;omega
        ·refine⟨rfl,?_,Or.inr ⟨?_,rfl⟩⟩
         ·exact(bx hB.out HX.out.2).trans ((bx HE.out.1 HB4.out).mono (bx hB.out HX.out.2).size)
         ·refine leads_no (j:=j) (by have:=HLT.out;have:=HUN.out;omega) (e:=y) ?_ hno
          rw[ptrsI_eq HX.out.1,←HE.out.2.2.1]
          exact List.mem_cons_of_mem _ (List.mem_of_getElem? HY.out)
       ·obtain rfl:q=n:=by omega
        have q1: ¬(q:Int)< (q:Int):=by omega
        have HA2:Hid (∀i',i'<j+1→ ∀e∈ptrsI up i',hitI down e):=by
         intro i' h1 e he
         by_cases hij:i'=j
         ·subst hij
          rw[ptrsI_eq HX.out.1,←HE.out.2.2.1] at he
          rcases List.mem_cons.1 he with h | h
          ·rw[h];exact hitI_iff.2 HIT.out
          ·obtain⟨q',hq'⟩:=List.mem_iff_getElem?.1 h
           exact hA3.out q' e (by have:=(List.getElem?_eq_some_iff.1 hq').1;have:=HE.out.2.2.2;omega) hq'
         ·exact hA.out i' (by omega) e he
        have HB9:Hid (Below wA.heap.size wA wr3):=HX.out.2.trans ((bx HE.out.1 hB3.out).mono HX.out.2.size)
        clear hqn hq
        go_wp2
        go_roundw
        case rel=>exact⟨j+1,HLT.out,by go_num,HB9,HA2⟩
        case measure=>simp[intOf];have:=HLT.out;omega
     ·refine⟨rfl,(bx hB.out HX.out.2),Or.inr ⟨leads_no (j:=j) (by have:=HLT.out;have:=HUN.out;omega) (e:=(x.2.low,x.2.fi)) (by rw[ptrsI_eq HX.out.1];exact List.mem_cons_self ..) hno,rfl⟩⟩
    ·obtain rfl:j=un:=by omega
     have j1: ¬(j:Int)< (j:Int):=by omega
     have HLE:=hid (show leadsI up down from fun i' hi' e he=>hA.out i' (by have:=HUN.out;omega) e he)
     clear hlt hj
     go_wp2
     refine bodyPost_end (v:= .tuple #[]) (by simp[results,Tryz.results153,go_sem]) rfl ?_
     exact⟨bx hB.out hB2.out,Or.inl ⟨HLE.out,rfl⟩⟩
end
def blkN (bs:List Int) (a:Int):List Nat:=((wordsN bs).drop (a/8).toNat).take (8*(clsI bs a).toNat)
def ValOK (bs:List Int) (R:List Int) (e:Int×Int) (s:ByteArray):Prop:=e.2∉R∧(clsI bs e.2=1∨clsI bs e.2=2)∧parseV (clsI bs e.2) (blkN bs e.2)= .tuple #[.string s,.int .i64 0]
def ValsAt (bs:List Int):List Int→List (Int×Int)→List (Int×ByteArray)→Prop
 | _,[],ps=>ps=[]
 | R,e::es,ps=> ∃s ps',ValOK bs R e s∧ps=(e.1,s)::ps'∧ValsAt bs (R++[e.2]) es ps'
structure VTo (bs:List Int) (R:List Int) (es done:List (Int×Int)) (ps:List (Int×ByteArray)) (rest:List (Int×Int)):Prop where
 all:es=done++rest
 iff: ∀qs,ValsAt bs R es qs↔ ∃qs',qs=ps++qs'∧ValsAt bs (R++done.map (·.2)) rest qs'
 len:ps.length=done.length
theorem VTo.start (bs:List Int) (R:List Int) (es:List (Int×Int)):VTo bs R es [] [] es:=⟨rfl,fun qs=>by simp,rfl⟩
theorem parse_uniq {v:Value} {s s':ByteArray} (h:v= .tuple #[.string s,.int .i64 0]) (h':v= .tuple #[.string s',.int .i64 0]):s=s':=by
 rw[h] at h'
 injection h' with h'
 have:=congrArg (fun a:Array Value=>a[0]?) h'
 simp at this
 exact this
theorem VTo.next {bs:List Int} {R:List Int} {es done rest:List (Int×Int)} {ps:List (Int×ByteArray)} {e:Int×Int} {s:ByteArray} (h:VTo bs R es done ps (e::rest)) (hs:ValOK bs (R++done.map (·.2)) e s):VTo bs R es (done++[e]) (ps++[(e.1,s)]) rest:=by
 refine⟨by rw[h.all];simp,fun qs=> ?_,by simp[h.len]⟩
 rw[h.iff]
 have hR:R++(done++[e]).map (·.2)=R++done.map (·.2)++[e.2]:=by simp
 rw[hR]
 constructor
 ·rintro⟨qs',rfl,s',ps',h1,rfl,h2⟩
  have:=parse_uniq h1.2.2 hs.2.2
  subst this
  exact⟨ps',by simp,h2⟩
 ·rintro⟨qs',rfl,h2⟩
  exact⟨(e.1,s)::qs',by simp,s,qs',hs,rfl,h2⟩
theorem VTo.no {bs:List Int} {R:List Int} {es done rest:List (Int×Int)} {ps:List (Int×ByteArray)} {e:Int×Int} (h:VTo bs R es done ps (e::rest)) (hs: ∀s,¬ValOK bs (R++done.map (·.2)) e s): ∀qs,¬ValsAt bs R es qs:=by
 intro qs hq
 obtain⟨qs',_,s,ps',h1,_⟩:=(h.iff qs).1 hq
 exact hs s h1
theorem VTo.done {bs:List Int} {R:List Int} {es d:List (Int×Int)} {ps:List (Int×ByteArray)} (h:VTo bs R es d ps []):ValsAt bs R es ps∧d=es:=⟨(h.iff ps).2 ⟨[],by simp,rfl⟩,by rw[h.all];simp⟩
def allE (row:List (Int×NodeA)):List (Int×Int):=(List.range row.length).flatMap (actI row)
theorem allE_at {row:List (Int×NodeA)} {i:Nat} (hi:i<row.length): ∃t,allE row=(List.range i).flatMap (actI row)++(actI row i++t)∧t=((List.range row.length).drop (i+1)).flatMap (actI row):=by
 refine⟨_,?_,rfl⟩
 unfold allE
 have hd:(List.range row.length).drop i=i::(List.range row.length).drop (i+1):=by
  rw[List.drop_eq_getElem_cons (by simpa using hi)];simp
 have h1:List.range row.length=(List.range row.length).take i++(i::(List.range row.length).drop (i+1)):=by
  rw[←hd,List.take_append_drop]
 conv=>lhs;rw[h1]
 rw[List.flatMap_append,List.flatMap_cons]
 congr 1
 have:(List.range row.length).take i=List.range i:=by rw[List.take_range,Nat.min_eq_left (by omega)]
 rw[this]
theorem RowAt.only {W W':World} {N:Nat} {v:Value} {row:List (Int×NodeA)} {f:List Nat} (h:RowAt W N v row) (ho:Only f W W') (hf: ∀k∈f,W.heap.size≤k∨ ∀cs fr,W.heap[k]?≠some (.cells cs 196 fr)):RowAt W' N v row:=by
 refine ho.own h (fun k hk hm=> ?_)
 obtain⟨_,cs,hc⟩:=own_typed h k hk
 rcases hf k hm with h1 | h1
 ·have:=(Array.getElem?_eq_some_iff.1 hc).1;omega
 ·exact h1 _ _ hc
def pairC (p:Int×ByteArray):List Value:=[.int .u64 p.1,.string p.2]
structure PrsAt (W:World) (N:Nat) (B:LkP) (pr:Value) (ps:List (Int×ByteArray)):Prop where
 own:W.ownsRow N 48 2 pr ps.length (ps.flatMap pairC)
 apart: ∀k,pr.ownBlock=some k→k≠B.lb∧k≠B.wb∧k≠B.hb∧k≠B.mb
theorem infoPair:(Tryz.prog.info? 48).map (fun i=>(i.zero,i.size,i.bytes))=some (some (.agg #[.int .u64 0,.string { data:= #[] }]),2,24):=by kernel_rfl
theorem prs_push {W:World} {N:Nat} {B:LkP} {bs:List Int} {root:Int} {lv pr:Value} {R:List Int} {ps:List (Int×ByteArray)} (key:Int) (s:ByteArray) (hL:LookIs W N B bs root lv pr R) (hP:PrsAt W N B pr ps) (hN:N≤W.heap.size) (hrl:ps.length≤1000000):
  ∃va vc w9,appRun2 Tryz.prog #[29,29] 29 #[pr,.slice (some ⟨W.heap.size,0,none⟩) 1 1] ((W.alloc (.cells #[.int .u64 key,.string s] 48)).drew)= .ok (.slice va (ps.length+1) vc) w9∧w9.cell? ⟨B.lb,5,none⟩=some pr∧w9.frozen? ⟨B.lb,5,none⟩=false∧
   LookIs (w9.setCell ⟨B.lb,5,none⟩ (.slice va (ps.length+1) vc)) N B bs root lv (.slice va (ps.length+1) vc) R∧PrsAt (w9.setCell ⟨B.lb,5,none⟩ (.slice va (ps.length+1) vc)) N B (.slice va (ps.length+1) vc) (ps++[(key,s)])∧Only (B.lb::pr.ownBlock.toList) W (w9.setCell ⟨B.lb,5,none⟩ (.slice va (ps.length+1) vc))∧((Value.slice va (ps.length+1) vc).ownBlock=pr.ownBlock∨ ∃k,(Value.slice va (ps.length+1) vc).ownBlock=some k∧W.heap.size≤k):=by
 obtain⟨i0,hi0,hz0,hz1,hz2⟩:=info_parts infoPair
 have q2:=hP.own
 have h5a:((W.alloc (.cells #[.int .u64 key,.string s] 48)).drew).ownsRow N 48 2 pr ps.length (ps.flatMap pairC):=(((Only.refl [] W).alloc _).drew).own q2 (by simp)
 obtain⟨v',w9,hA⟩:=run_app (P:=Tryz.prog) ((W.alloc (.cells #[.int .u64 key,.string s] 48)).drew) N 29 29 48 i0 _ 2 24 Tryz.underlying29 hi0 hz0 hz1 hz2 rfl (by decide) pr ps.length _ h5a (.slice (some ⟨W.heap.size,0,none⟩) 1 1) 1 [.int .u64 key,.string s] (Or.inr ⟨W.heap.size,0,1,rfl,fun i u hi=>by
  rw[(Blk.new W 48 #[.int .u64 key,.string s]).drew.cell (0+i),Nat.zero_add];simpa using hi⟩) rfl (fun u hu=>by simp at hu;rcases hu with rfl | rfl<;>rfl) (by unfold maxLen;omega) (by omega) (by simp;omega)
 have hown:=hA.own
 have hgr:=hA.grown
 have hob:=hA.ob
 obtain⟨va,vc,rfl⟩:=row_form1 hown
 have o9:Only pr.ownBlock.toList W w9:=((((Only.refl [] W).alloc _).drew).mono (fun _ h=>by cases h)).trans (Only.of_grown (f:=pr.ownBlock.toList) hgr (fun y hy=>by simp[hy])) (fun y hy=>Or.inl hy)
 have hap: ∀y,y∈pr.ownBlock.toList→y≠B.lb∧y≠B.wb∧y≠B.hb∧y≠B.mb:=fun y hy=>hP.apart y (by simpa[Option.mem_toList] using hy)
 have hL9:LookIs w9 N B bs root lv pr R:=hL.only o9 (fun hm=>(hap _ hm).1 rfl) (fun hm=>(hap _ hm).2.1 rfl) (fun hm=>(hap _ hm).2.2.1 rfl) (fun hm=>(hap _ hm).2.2.2 rfl)
 have oS:Only [B.lb] w9 (w9.setCell ⟨B.lb,5,none⟩ (.slice va (ps.length+1) vc)):=(Only.refl _ _).setCell (Or.inl (by simp)) _
 have hne:=hL9.ne
 have e5:((W.alloc (.cells #[.int .u64 key,.string s] 48)).drew).heap.size=W.heap.size+1:=World.size_alloc _ _
 have hap': ∀k,(Value.slice va (ps.length+1) vc).ownBlock=some k→k≠B.lb∧k≠B.wb∧k≠B.hb∧k≠B.mb:=by
  intro k hk
  rcases hob with h | h
  ·exact hP.apart k (h▸hk)
  ·rw[h] at hk
   injection hk with hk
   have e1:=hL.cells.lt
   have e2:=hL.fix.words.1
   have e3:=hL.fix.hlt
   have e4:=hL.set.lt
   omega
 refine⟨va,vc,w9,hA.run,hL9.cells.cell 5,hL9.cells.frozen 5,⟨hL9.cells.set_ 5 _,hL9.fix.only oS (by simp;omega) (by simp;omega),hL9.set.only oS (by simp;omega),hL9.ge,hne⟩,⟨?_,hap'⟩,(o9.mono (fun _ h=>List.mem_cons_of_mem _ h)).trans oS (fun x hx=>Or.inl (by rw[List.mem_singleton.1 hx];exact List.mem_cons_self ..)),?_⟩
 ·have:=oS.own hown (fun k hk hm=>(hap' k hk).1 (by simpa using hm))
  rw[List.length_append,List.length_singleton,List.flatMap_append]
  simpa[pairC] using this
 ·rcases hob with h | h
  ·exact Or.inl h
  ·exact Or.inr ⟨_,h,by omega⟩
section
attribute [local go_sem ↓ high] nodeLoadAt nodeLoadVar nodeStoreAt append_shut2 linkBuild linkBuildS linkLoadAt linkStoreAt
attribute [local go_sem] ldM_run lvM_run stM_run Oper.semAt_some appM2_run bldM_run bslM_run
theorem cls12_in {bs:List Int} {a c:Int} (h:clsI bs a=c) (hc:c=1∨c=2) (h0:0≤a) (hs:0<slabsZ bs.length): ∃k:Nat,a=8*k∧k+8*c.toNat≤bs.length/8∧0<k:=by
 have hn:=slabs_len hs
 unfold clsI at h
 by_cases h1:slabZ a=0∨slabsZ bs.length<slabZ a
 ·rw[if_pos h1] at h;omega
 ·rw[if_neg h1] at h
  by_cases h2:clsAt bs (slabZ a).toNat≤3∧idxB a (clsAt bs (slabZ a).toNat:Nat)=true
  ·rw[if_pos h2] at h
   rw[h] at h2
   have hi:=h2.2
   unfold idxB at hi
   have hi2:idxZ a c≠ -1:=by simpa using hi
   unfold idxZ at hi2
   split at hi2
   ·rename_i hh
    have hb:blocksZ 1=15:=by decide
    have hb2:blocksZ 2=7:=by decide
    unfold slabZ at h1 hh
    rcases hc with rfl | rfl
    ·rw[hb] at hh
     refine⟨(a/8).toNat,?_,?_,?_⟩
     all_goals
      split at h1
      ·omega
      ·omega
    ·rw[hb2] at hh
     refine⟨(a/8).toNat,?_,?_,?_⟩
     all_goals
      split at h1
      ·omega
      ·omega
   ·exact absurd rfl hi2
  ·rw[if_neg h2] at h;omega
theorem act_U64 {bs:List Int} (hb: ∀x∈bs,0≤x∧x<256) {a:Int} {n:NodeA} (hn:nodeI bs a=some n) {h:Int} {f:Bool} {e:Int×Int} (he:e∈activeN n h f):0≤e.2∧e.2≤18446744073709551615:=by
 unfold activeN validN at he
 have h1:=(List.mem_filter.1 he).1
 obtain⟨i,_,rfl⟩:=List.mem_map.1 h1
 rw[(node_in hn).2]
 exact nodeF_U64 hb a (9+2*i)
theorem parseV_two (c:Int) (l:List Nat): ∃s e,parseV c l= .tuple #[.string s,.int .i64 e]:=by
 unfold parseV
 split
 ·exact⟨_,_,rfl⟩
 ·split
  ·exact⟨_,_,rfl⟩
  ·split
   ·exact⟨_,_,rfl⟩
   ·split
    ·exact⟨_,_,rfl⟩
    ·exact textV_two _ _
theorem act_len8 (n:NodeA) (h:Int) (f:Bool):(activeN n h f).length≤8:=by
 have h1:=List.length_filter_le (actE h f) (validN n)
 have h2:=valid_len n
 have h3:(activeN n h f).length=((validN n).filter (actE h f)).length:=rfl
 omega
theorem LParse_z {N:Nat} {B:LkP} {bs:List Int} (a:Int) (k:Nat) (c:Int) (hcl:clsI bs a=c) (hc:c=1∨c=2) (hak:a=8*k) (hk:k+8*c.toNat≤bs.length/8) (w:World) (h:LookB w B bs) (hcap:8*c.toNat≤B.wc-k):
  Calls Tryz.prog 210 #[.int .i64 c,.slice (some ⟨B.wb,k,none⟩) (8*c.toNat) (B.wc-k)] w fun e w'=>e= .returned (parseV c (blkN bs a))∧Below w.heap.size w w':=by
 have hbl:blkN bs a=((wordsN bs).drop k).take (8*c.toNat):=by unfold blkN;rw[hcl,show(a/8).toNat=k by omega]
 have hlen:(blkN bs a).length=8*c.toNat:=by rw[hbl,List.length_take,List.length_drop,wordsN_len];omega
 cases hb:blkN bs a with
 | nil=>rw[hb] at hlen;simp at hlen;omega
 | cons n ns=>
  rw[hb] at hlen
  refine Parse_z c hc n ns (by simpa using hlen) (fun x hx=> ?_) B.wb k _ _ rfl hcap w ?_
  ·rw[←hb,hbl] at hx
   obtain⟨j,hj⟩:=List.mem_iff_getElem?.1 (List.mem_of_mem_drop (List.mem_of_mem_take hx))
   have hjl:=(List.getElem?_eq_some_iff.1 hj).1
   rw[wordsN_len] at hjl
   obtain⟨y,hy,_,hy2⟩:=wordsN_at h.byte hjl
   rw[hj] at hy
   injection hy with hy
   rw[hy];exact hy2
  ·rw[←hb,hbl]
   have:=(h.words.drop k).take (8*c.toNat)
   rwa[Nat.zero_add] at this
def VlPost (N:Nat) (B:LkP) (bs:List Int) (root:Int) (lv:Value) (R:List Int) (leaves:List (Int×NodeA)) (w:World) (e:Ending) (w':World):Prop:=
 (∃ps pr,ValsAt bs R (allE leaves) ps∧e= .returned (.tuple #[])∧LookIs w' N B bs root lv pr (R++(allE leaves).map (·.2))∧PrsAt w' N B pr ps∧Only [B.mb,B.lb] w w')∨
 ((∀ps,¬ValsAt bs R (allE leaves) ps)∧e= .panicked errC∧Only [B.mb,B.lb] w w')
theorem LValues_z (N:Nat) (B:LkP) (bs:List Int) (root:Int) (lv:Value) (R:List Int) (leaves:List (Int×NodeA)) (la:Option Addr) (ln lc:Nat) (hln:ln=leaves.length) (hl6:ln≤100000) (w:World) (hL:LookIs w N B bs root lv (.slice none 0 0) R) (hrow:RowAt w N (.slice la ln lc) leaves) (hnd: ∀x∈leaves,nodeI bs x.1=some x.2) (hN:N≤w.heap.size):
  Calls Tryz.prog 154 #[.pointer (some ⟨B.lb,0,none⟩),.slice la ln lc] w (VlPost N B bs root lv R leaves w):=by
 have hmb: ∀cs fr,w.heap[B.mb]?≠some (.cells cs 196 fr):=fun cs fr e=>by
  obtain⟨es,cl,q1,_⟩:=hL.set
  rw[q1] at e;cases e
 have hlb: ∀cs fr,w.heap[B.lb]?≠some (.cells cs 196 fr):=fun cs fr e=>by
  have hb:w.heap[B.lb]?=_:=hL.cells
  rw[hb] at e;injection e with e;injection e with _ e;cases e
 have hkeepR: ∀W,Only [B.mb,B.lb] w W→RowAt W N (.slice la ln lc) leaves:=fun W ho=>hrow.only ho (fun k hk=>Or.inr (by
  simp at hk
  rcases hk with rfl | rfl
  ·exact hmb
  ·exact hlb))
 have HR:=hid hkeepR
 have HLN:=hid hln
 have HND:=hid hnd
 have HW:=hid (⟨hL.cells.lt,hL.fix.words.1,hL.fix.hlt,hL.set.lt,hL.ne,hL.ge⟩:_∧_∧_∧_∧_∧_)
 have HBY:=hid (⟨hL.fix.byte,hL.fix.some',hL.fix.nums,hL.fix.wc⟩:_∧_∧_∧_)
 have H0:=hid hL
 have MY:=hid Must_yes
 have MN:=hid Must_no
 obtain⟨rest,hrest⟩: ∃rest:Nat→List (Int×Int),rest=fun i=>((List.range leaves.length).drop i).flatMap (actI leaves):=⟨_,rfl⟩
 have hr0:rest 0=allE leaves:=by rw[hrest];rfl
 have hrS: ∀i,i<leaves.length→rest i=actI leaves i++rest (i+1):=fun i hi=>by
  rw[hrest]
  show((List.range leaves.length).drop i).flatMap _=_
  rw[List.drop_eq_getElem_cons (by simpa using hi),List.flatMap_cons];simp
 have hrE:rest leaves.length=[]:=by rw[hrest];show((List.range leaves.length).drop leaves.length).flatMap _=_;rw[List.drop_of_length_le (by simp)];rfl
 have HRS:=hid (⟨hr0,hrS,hrE⟩:_∧_∧_)
 clear hL hrow hnd hln hmb hlb hkeepR hrest hr0 hrS hrE
 go_enter Tryz.func154,Tryz.ntmps154
 go_wp2
 go_loopw [5,7,8,9,10,13,20] (fun s5 s7 s8 s9 s10 iv s20 wr=> ∃(i:Nat) (pr:Value) (ps:List (Int×ByteArray)) (done:List (Int×Int)),i≤ln∧iv= .int .i64 i∧Hid (VTo bs R (allE leaves) done ps (rest i)∧LookIs wr N B bs root lv pr (R++done.map (·.2))∧PrsAt wr N B pr ps∧Only [B.mb,B.lb] w wr∧(∀k,pr.ownBlock=some k→w.heap.size≤k)∧ps.length≤8*i)) (fun _ _ _ _ _ iv _ _=>ln- (intOf iv).toNat)
 case atStart=>exact⟨0,_,[],[],Nat.zero_le _,rfl,⟨by rw[HRS.out.1];exact VTo.start _ _ _,by simpa using H0.out,⟨World.ownsRow_nil _ _ _ _,fun k hk=>by simp[Value.ownBlock] at hk⟩,Only.refl _ _,fun k hk=>by simp[Value.ownBlock] at hk,Nat.le_refl _⟩⟩
 case round=>
  obtain⟨i,pr,ps,done,hi,rfl,hI⟩:=hrel
  obtain⟨wA,rfl⟩: ∃x,x=wr:=⟨_,rfl⟩
  have HI5:Hid (∀k,pr.ownBlock=some k→k<wA.heap.size):=fun k hk=>by
   obtain⟨_,cs,hc⟩:=own_typed hI.out.2.2.1.own k hk
   exact(Array.getElem?_eq_some_iff.1 hc).1
  have i0:(0:Int)≤(i:Int):=by omega
  by_cases hlt:i<ln
  ·have i1:(i:Int)< (ln:Int):=by omega
   obtain⟨x,hx⟩: ∃x,leaves[i]?=some x:=⟨_,List.getElem?_eq_getElem (by have:=HLN.out;omega)⟩
   have hxN:=HND.out x (List.mem_of_getElem? hx)
   obtain⟨g,rfl,ld1⟩:=(HR.out wA hI.out.2.2.2.1).ld (Below.refl _ _) hx
   obtain⟨W5,st5,k5,hb5⟩:=link_new wA x.2 x.1 (highI leaves i) (hasI leaves i)
   have ld5:=link_ld (i:=0) k5 (fun j v hv=>by rw[Nat.zero_add,List.getElem?_toArray];exact hv)
   have AC:=hid (LActive_z x.2 x.1 (highI leaves i) (hasI leaves i) W5)
   obtain⟨l,hl⟩: ∃l,l=activeN x.2 (highI leaves i) (hasI leaves i):=⟨_,rfl⟩
   have hla:actI leaves i=l:=by unfold actI;rw[hx,hl];rfl
   have hlU: ∀e∈l,0≤e.2∧e.2≤18446744073709551615:=fun e he=>act_U64 HBY.out.1 hxN (by rw[←hl];exact he)
   obtain⟨n,hn⟩: ∃n,n=l.length:=⟨_,rfl⟩
   have hn8:n≤8:=by rw[hn,hl];exact act_len8 _ _ _
   have HX:=hid (⟨hb5,hla,hlU,hn⟩:_∧_∧_∧_)
   have HLT:=hid hlt
   have AC':=AC.out
   rw[←hl] at AC'
   have AC:=hid AC'
   clear hx hxN hlt hi k5 hb5 hl hla hlU hn AC'
   go_wp2_with fail
   refine AC.out.mono ?_
   rintro e w7 ⟨v,rfl,hE⟩
   obtain⟨va,vc,he,hcl⟩:=hE.ents
   rw[←HX.out.2.2.2] at he
   subst he
   have HE:=hid (⟨bx HX.out.1 hE.bel,hcl,hE.new⟩:_∧_∧_)
   clear hE hcl AC ld5 ld1 st5
   go_wp2
   go_loopw [7,8,9,10,20] (fun s7 s8 s9 s10 qv wr=> ∃(q:Nat) (pr2:Value) (ps2:List (Int×ByteArray)) (done2:List (Int×Int)),q≤n∧qv= .int .i64 q∧Hid (VTo bs R (allE leaves) done2 ps2 (l.drop q++rest (i+1))∧LookIs wr N B bs root lv pr2 (R++done2.map (·.2))∧PrsAt wr N B pr2 ps2∧Only [B.mb,B.lb] w wr∧(∀k,pr2.ownBlock=some k→w.heap.size≤k)∧ps2.length≤8*i+q∧Only (B.mb::B.lb::pr.ownBlock.toList) w7 wr∧(pr2.ownBlock=pr.ownBlock∨ ∃k,pr2.ownBlock=some k∧w7.heap.size≤k))) (fun _ _ _ _ qv _=>n- (intOf qv).toNat)
   case atStart=>
    refine⟨0,pr,ps,done,Nat.zero_le _,rfl,?_⟩
    have hI':=hI.out
    have hb:=HE.out.1
    refine⟨?_,hI'.2.1.bel hb,⟨(Only.of_below hb []).own hI'.2.2.1.own (by simp),hI'.2.2.1.apart⟩,hI'.2.2.2.1.trans (Only.of_below hb []) (fun _ h=>by cases h),hI'.2.2.2.2.1,by have:=hI'.2.2.2.2.2;omega,Only.refl _ _,Or.inl rfl⟩
    rw[List.drop_zero,←HX.out.2.1,←HRS.out.2.1 i (by have:=HLT.out;have:=HLN.out;omega)]
    exact hI'.1
   case round=>
    obtain⟨q,pr2,ps2,done2,hq,rfl,hJ⟩:=hrel
    obtain⟨wB,rfl⟩: ∃x,x=wr:=⟨_,rfl⟩
    have q0:(0:Int)≤(q:Int):=by omega
    by_cases hqn:q<n
    ·have q1:(q:Int)< (n:Int):=by omega
     obtain⟨y,hy⟩: ∃y,l[q]?=some y:=⟨_,List.getElem?_eq_getElem (by have:=HX.out.2.2.2;omega)⟩
     have hyU:=HX.out.2.2.1 y (List.mem_of_getElem? hy)
     obtain⟨b,off,hva,hbl,hcl⟩:=HE.out.2.1.resolve_left (fun e=>by rw[e] at hy;simp at hy)
     subst hva
     have hbn:W5.heap.size≤b:=HE.out.2.2 b rfl
     have hb5s:=HX.out.1.size
     have hA5:=HI5.out
     have hbnot:b∉B.mb::B.lb::pr.ownBlock.toList:=by
      intro hm
      have h1:=HW.out
      have h2:=hI.out.2.2.2.1.size
      rcases List.mem_cons.1 hm with e | e
      ·omega
      ·rcases List.mem_cons.1 e with e | e
       ·omega
       ·have:=hA5 b (by simpa[Option.mem_toList] using e);omega
     have y1:wB.cell? ⟨b,off+q*2,none⟩=some (.int .u64 y.1):=(hJ.out.2.2.2.2.2.2.1.cell (p:=⟨b,off+q*2,none⟩) hbl hbnot).trans (hcl q y hy).1
     have y2:wB.cell? ⟨b,off+q*2+1,none⟩=some (.int .u64 y.2):=(hJ.out.2.2.2.2.2.2.1.cell (p:=⟨b,off+q*2+1,none⟩) hbl hbnot).trans (hcl q y hy).2
     have hdq:l.drop q++rest (i+1)=y::(l.drop (q+1)++rest (i+1)):=by
      have hql:=(List.getElem?_eq_some_iff.1 hy).1
      rw[List.drop_eq_getElem_cons hql,(List.getElem?_eq_some_iff.1 hy).2];rfl
     have hV:=hJ.out.1
     rw[hdq] at hV
     obtain⟨R2,hR2⟩: ∃R2,R2=R++done2.map (·.2):=⟨_,rfl⟩
     obtain⟨W1,hW1⟩: ∃W1,W1=wB.alloc (.cells #[.int .u64 y.1,.int .u64 y.2] 166):=⟨_,rfl⟩
     have hb1:Below wB.heap.size wB W1:=by rw[hW1];exact ba (Below.refl _ _) _
     have kb1:Blk W1 wB.heap.size 166 #[.int .u64 y.1,.int .u64 y.2]:=by rw[hW1];exact Blk.new _ _ _
     have hL1:=hJ.out.2.1.bel hb1
     rw[←hR2] at hL1
     have x0:W1.cell? ⟨wB.heap.size,0,none⟩=some (.int .u64 y.1):=kb1.cell 0
     have x1:W1.cell? ⟨wB.heap.size,1,none⟩=some (.int .u64 y.2):=kb1.cell 1
     have HV:=hid (⟨hV,hyU,hR2⟩:_∧_∧_)
     have HW1:=hid hW1
     have HB1:=hid (⟨hb1,kb1,hL1⟩:_∧_∧_)
     have HQN:=hid hqn
     clear hy hyU hbl hcl hbn hb5s hA5 hbnot hdq hV hqn hq hb1 kb1 hL1
     by_cases hin:y.2∈R2
     ·have TK:=hid (LTake_no N B bs root lv pr2 R2 y.2 hin W1 HB1.out.2.2)
      have HNO:=hid (HV.out.1.no (fun s h=>h.1 (by rw[←HV.out.2.2];exact hin)))
      clear hin
      go_wp2_with fail
      rw[←HW1.out]
      refine TK.out.mono ?_
      rintro e w2 ⟨rfl,hb2⟩
      exact⟨rfl,Or.inr ⟨HNO.out,rfl,hJ.out.2.2.2.1.trans (Only.of_below (bx HB1.out.1 hb2) []) (fun _ h=>by cases h)⟩⟩
     ·have TK:=hid (LTake_yes N B bs root lv pr2 R2 y.2 hin W1 HB1.out.2.2)
      have HIN:=hid hin
      clear hin
      go_wp2_with fail
      rw[←HW1.out]
      refine TK.out.mono ?_
      rintro e w2 ⟨rfl,hL2,ho2⟩
      have u1:w2.cell? ⟨wB.heap.size,1,none⟩=some (.int .u64 y.2):=(ho2.blk HB1.out.2.1 (by have:=HW.out;have:=hJ.out.2.2.2.1.size;simp;omega)).cell 1
      have CLS:=hid (LClass_z B bs root lv pr2 y.2 HV.out.2.1 w2 hL2.fix hL2.cells)
      have H2:=hid (⟨hL2,ho2⟩:_∧_)
      obtain⟨c,hc⟩: ∃c,c=clsI bs y.2:=⟨_,rfl⟩
      have CLS':=CLS.out
      rw[←hc] at CLS'
      have CLS:=hid CLS'
      have HC:=hid hc
      clear hL2 ho2 x0 x1 CLS' hc y1 y2
      by_cases h12:c=1∨c=2
      ·obtain⟨k,hak,hk,hk0⟩:=cls12_in HC.out.symm h12 HV.out.2.1.1 HBY.out.2.1
       have hnn:=HBY.out.2.2.1
       have hwc:=HBY.out.2.2.2
       have BL:=hid (fun W (hL':LookIs W N B bs root lv pr2 (R2++[y.2]))=>LBlock_z B.lb B.wb (bs.length/8) B.wc c (by omega) y.2 k hak hk (by omega) hwc W (hL'.cells.cell 0))
       obtain⟨s,ev,hse⟩:=parseV_two c (blkN bs y.2)
       have PA:=hid (fun W (hL':LookIs W N B bs root lv pr2 (R2++[y.2]))=>LParse_z (N:=N) y.2 k c HC.out.symm h12 hak hk W hL'.fix (by omega))
       have PA':=PA.out
       rw[hse] at PA'
       have PA:=hid PA'
       have HSE:=hid hse
       obtain⟨m8,hm8⟩: ∃m8,m8=8*c.toNat:=⟨_,rfl⟩
       have BL':=BL.out
       rw[←hm8] at BL' PA'
       have BL:=hid BL'
       have PA:=hid PA'
       have FI:=hid (Fine_z ev)
       have H12:=hid h12
       clear hak hk hk0 hnn hwc hse PA' BL' hm8
       have t12:((c==1)=true)∨((c==1)=false∧(c==2)=true):=by
        rcases h12 with h | h
        ·left;simp[h]
        ·right;constructor
         ·simp[h]
         ·simp[h]
       clear h12
       rcases t12 with t1 | ⟨t1,t2⟩
       ·go_wp2_with fail
        refine CLS.out.mono ?_
        rintro e w3 ⟨rfl,hb3⟩
        have hL3:=H2.out.1.bel hb3
        have v0:w3.cell? ⟨wB.heap.size,0,none⟩=some (.int .u64 y.1):=((H2.out.2.blk HB1.out.2.1 (by have:=HW.out;have:=hJ.out.2.2.2.1.size;simp;omega)).bel hb3).cell 0
        have v1:w3.cell? ⟨wB.heap.size,1,none⟩=some (.int .u64 y.2):=((H2.out.2.blk HB1.out.2.1 (by have:=HW.out;have:=hJ.out.2.2.2.1.size;simp;omega)).bel hb3).cell 1
        have HL3:=hid hL3
        have HB3:=hid hb3
        clear hL3 hb3
        go_wp2_with fail
        refine(MY.out w3).mono ?_
        rintro e w4 ⟨rfl,rfl⟩
        go_wp2_with fail
        refine(BL.out w3 HL3.out).mono ?_
        rintro e w4 ⟨rfl,hb4⟩
        have HL4:=hid (HL3.out.bel hb4)
        have HB4:=hid hb4
        clear hb4
        go_wp2_with fail
        refine(PA.out w4 HL4.out).mono ?_
        rintro e w5 ⟨rfl,hb5'⟩
        have HB5:=hid (bx HB4.out hb5')
        have HL5:=hid (HL4.out.bel hb5')
        clear hb5'
        go_wp2_with fail
        refine(FI.out w5).mono ?_
        rintro e w6 ⟨rfl,rfl⟩
        have hOw5:Only [B.mb,B.lb] w w5:=((hJ.out.2.2.2.1.trans (Only.of_below HB1.out.1 []) (fun _ h=>by cases h)).trans (H2.out.2.mono (by simp)) (fun _ h=>Or.inl h)).trans (Only.of_below (bx HB3.out HB5.out) []) (fun _ h=>by cases h)
        have HO5:=hid hOw5
        clear hOw5
        by_cases hev:ev=0
        ·rw[decide_eq_true hev]
         have HOK:=hid (HV.out.1.next (s:=s) ⟨by rw[←HV.out.2.2];exact HIN.out,by rw[←HC.out];exact H12.out,by rw[←HC.out,HSE.out,hev]⟩)
         have hOB:Only [B.mb] wB w5:=((Only.of_below HB1.out.1 [B.mb]).trans H2.out.2 (fun _ h=>Or.inl h)).trans (Only.of_below (bx HB3.out HB5.out) []) (fun _ h=>by cases h)
         have hP5:PrsAt w5 N B pr2 ps2:=⟨hOB.own hJ.out.2.2.1.own (fun k hk hm=>(hJ.out.2.2.1.apart k hk).2.2.2 (by simpa using hm)),hJ.out.2.2.1.apart⟩
         have hN5:N≤w5.heap.size:=Nat.le_trans hN HO5.out.size
         obtain⟨pa,pc,w9,hrun,z5,zf5,hL9,hP9,hO9,hob9⟩:=prs_push y.1 s HL5.out hP5 hN5 (by have:=hJ.out.2.2.2.2.2.1;have:=HLN.out;have:=HQN.out;omega)
         obtain⟨pn,hpn⟩: ∃pn,pn=ps2.length+1:=⟨_,rfl⟩
         rw[←hpn] at hrun hL9 hP9 hO9 hob9
         obtain⟨W9,hW9⟩: ∃W9,W9=w9.setCell ⟨B.lb,5,none⟩ (.slice pa pn pc):=⟨_,rfl⟩
         rw[←hW9] at hL9 hP9 hO9
         have g5:w5.cell? ⟨B.lb,5,none⟩=some pr2:=HL5.out.cells.cell 5
         have g5d:w5.drew.cell? ⟨B.lb,5,none⟩=some pr2:=g5
         have g5a:(w5.alloc (.cells #[.int .u64 y.1,.string s] 48)).drew.cell? ⟨B.lb,5,none⟩=some pr2:=(HL5.out.cells.alloc _).cell 5
         have kb5:=(H2.out.2.blk HB1.out.2.1 (by have:=HW.out;have:=hJ.out.2.2.2.1.size;simp;omega)).bel (bx HB3.out HB5.out)
         have k0:w5.cell? ⟨wB.heap.size,0,none⟩=some (.int .u64 y.1):=kb5.cell 0
         have k0d:w5.drew.cell? ⟨wB.heap.size,0,none⟩=some (.int .u64 y.1):=k0
         have HRUN:=hid hrun
         have hpl:=hJ.out.2.2.2.2.2.1
         have hsz9:wB.heap.size≤w5.heap.size:=hOB.size
         have hNEW: ∀k,(Value.slice pa pn pc).ownBlock=some k→w.heap.size≤k:=by
          intro k hk
          rcases hob9 with h | ⟨k',h1,h2⟩
          ·exact hJ.out.2.2.2.2.1 k (h▸hk)
          ·rw[h1] at hk;injection hk with hk;have:=HO5.out.size;omega
         have hO7:Only (B.mb::B.lb::pr.ownBlock.toList) w7 W9:=by
          refine(hJ.out.2.2.2.2.2.2.1.trans (hOB.mono (g:=B.mb::B.lb::pr.ownBlock.toList) (by simp)) (fun _ h=>Or.inl h)).trans hO9 (fun y hy=> ?_)
          rcases List.mem_cons.1 hy with e | e
          ·left;rw[e];simp
          ·have e':pr2.ownBlock=some y:=by simpa[Option.mem_toList] using e
           rcases hJ.out.2.2.2.2.2.2.2 with h | ⟨k',h1,h2⟩
           ·left;rw[h] at e';simp[e']
           ·right;rw[h1] at e';injection e' with e';omega
         have hOb:(Value.slice pa pn pc).ownBlock=pr.ownBlock∨ ∃k,(Value.slice pa pn pc).ownBlock=some k∧w7.heap.size≤k:=by
          rcases hob9 with h | ⟨k',h1,h2⟩
          ·rw[h];exact hJ.out.2.2.2.2.2.2.2
          ·exact Or.inr ⟨k',h1,by have:=hJ.out.2.2.2.2.2.2.1.size;omega⟩
         have hOw9:Only [B.mb,B.lb] w W9:=HO5.out.trans hO9 (fun y hy=>by
          rcases List.mem_cons.1 hy with e | e
          ·left;rw[e];simp
          ·right;exact hJ.out.2.2.2.2.1 y (by simpa[Option.mem_toList] using e))
         have hL9':LookIs W9 N B bs root lv (.slice pa pn pc) (R++(done2++[y]).map (·.2)):=by
          have e:R++(done2++[y]).map (·.2)=R2++[y.2]:=by rw[HV.out.2.2];simp
          rw[e];exact hL9
         have HNX:=hid (⟨HOK.out,hL9',hP9,hOw9,hNEW,by rw[List.length_append];simp;omega,hO7,hOb⟩:VTo bs R (allE leaves) (done2++[y]) (ps2++[(y.1,s)]) (l.drop (q+1)++rest (i+1))∧LookIs W9 N B bs root lv (.slice pa pn pc) (R++(done2++[y]).map (·.2))∧PrsAt W9 N B (.slice pa pn pc) (ps2++[(y.1,s)])∧Only [B.mb,B.lb] w W9∧(∀k,(Value.slice pa pn pc).ownBlock=some k→w.heap.size≤k)∧(ps2++[(y.1,s)]).length≤8*i+(q+1)∧Only (B.mb::B.lb::pr.ownBlock.toList) w7 W9∧((Value.slice pa pn pc).ownBlock=pr.ownBlock∨ ∃k,(Value.slice pa pn pc).ownBlock=some k∧w7.heap.size≤k))
         have HW9:=hid hW9
         clear hOB hP5 hN5 hrun hL9 hP9 hO9 hob9 hW9 kb5 hpl hsz9 hNEW hO7 hOb hOw9 hL9' hev hpn u1 v0 v1
         go_wp2_with fail
         refine(MY.out w5).mono ?_
         rintro e w6 ⟨rfl,rfl⟩
         go_wp2_with fail
         refine Code.wp_mono (Q:=CalmL _) CalmL.imp ?_
         refine share (X:= ?X) (fun key=> ?_) ?_
         rotate_left
         ·go_region_law (refine step_append_runI rfl (.tmp 56) (.tmp 61) 29 29 rfl _ _ (by simp[Act.eval,Act.put]) (by simp[Act.eval,Act.put]) HRUN.out ?_)
          all_goals
           try go_simp
           try simp only[Act.put,List.setIfInBounds_toArray,List.set_cons_zero,List.set_cons_succ]
           exact key.out
         refine CalmL.normal ?_
         rw[←HW9.out]
         go_wp2
         go_roundw
         case rel=>exact⟨q+1,_,_,_,HQN.out,by go_num,HNX⟩
         case measure=>simp[intOf];have:=HQN.out;omega
        ·rw[decide_eq_false hev]
         have HNO:=hid (HV.out.1.no (fun s' h=>hev (by
          have:=h.2.2
          rw[←HC.out,HSE.out] at this
          injection this with this
          have:=congrArg (fun a:Array Value=>a[1]?) this
          simpa using this)))
         clear hev
         go_wp2_with fail
         refine(MN.out w5).mono ?_
         rintro e w6 ⟨rfl,rfl⟩
         exact⟨rfl,Or.inr ⟨HNO.out,rfl,HO5.out⟩⟩
       ·go_wp2_with fail
        refine CLS.out.mono ?_
        rintro e w3 ⟨rfl,hb3⟩
        have hL3:=H2.out.1.bel hb3
        have v0:w3.cell? ⟨wB.heap.size,0,none⟩=some (.int .u64 y.1):=((H2.out.2.blk HB1.out.2.1 (by have:=HW.out;have:=hJ.out.2.2.2.1.size;simp;omega)).bel hb3).cell 0
        have v1:w3.cell? ⟨wB.heap.size,1,none⟩=some (.int .u64 y.2):=((H2.out.2.blk HB1.out.2.1 (by have:=HW.out;have:=hJ.out.2.2.2.1.size;simp;omega)).bel hb3).cell 1
        have HL3:=hid hL3
        have HB3:=hid hb3
        clear hL3 hb3
        go_wp2_with fail
        refine(MY.out w3).mono ?_
        rintro e w4 ⟨rfl,rfl⟩
        go_wp2_with fail
        refine(BL.out w3 HL3.out).mono ?_
        rintro e w4 ⟨rfl,hb4⟩
        have HL4:=hid (HL3.out.bel hb4)
        have HB4:=hid hb4
        clear hb4
        go_wp2_with fail
        refine(PA.out w4 HL4.out).mono ?_
        rintro e w5 ⟨rfl,hb5'⟩
        have HB5:=hid (bx HB4.out hb5')
        have HL5:=hid (HL4.out.bel hb5')
        clear hb5'
        go_wp2_with fail
        refine(FI.out w5).mono ?_
        rintro e w6 ⟨rfl,rfl⟩
        have hOw5:Only [B.mb,B.lb] w w5:=((hJ.out.2.2.2.1.trans (Only.of_below HB1.out.1 []) (fun _ h=>by cases h)).trans (H2.out.2.mono (by simp)) (fun _ h=>Or.inl h)).trans (Only.of_below (bx HB3.out HB5.out) []) (fun _ h=>by cases h)
        have HO5:=hid hOw5
        clear hOw5
        by_cases hev:ev=0
        ·rw[decide_eq_true hev]
         have HOK:=hid (HV.out.1.next (s:=s) ⟨by rw[←HV.out.2.2];exact HIN.out,by rw[←HC.out];exact H12.out,by rw[←HC.out,HSE.out,hev]⟩)
         have hOB:Only [B.mb] wB w5:=((Only.of_below HB1.out.1 [B.mb]).trans H2.out.2 (fun _ h=>Or.inl h)).trans (Only.of_below (bx HB3.out HB5.out) []) (fun _ h=>by cases h)
         have hP5:PrsAt w5 N B pr2 ps2:=⟨hOB.own hJ.out.2.2.1.own (fun k hk hm=>(hJ.out.2.2.1.apart k hk).2.2.2 (by simpa using hm)),hJ.out.2.2.1.apart⟩
         have hN5:N≤w5.heap.size:=Nat.le_trans hN HO5.out.size
         obtain⟨pa,pc,w9,hrun,z5,zf5,hL9,hP9,hO9,hob9⟩:=prs_push y.1 s HL5.out hP5 hN5 (by have:=hJ.out.2.2.2.2.2.1;have:=HLN.out;have:=HQN.out;omega)
         obtain⟨pn,hpn⟩: ∃pn,pn=ps2.length+1:=⟨_,rfl⟩
         rw[←hpn] at hrun hL9 hP9 hO9 hob9
         obtain⟨W9,hW9⟩: ∃W9,W9=w9.setCell ⟨B.lb,5,none⟩ (.slice pa pn pc):=⟨_,rfl⟩
         rw[←hW9] at hL9 hP9 hO9
         have g5:w5.cell? ⟨B.lb,5,none⟩=some pr2:=HL5.out.cells.cell 5
         have g5d:w5.drew.cell? ⟨B.lb,5,none⟩=some pr2:=g5
         have g5a:(w5.alloc (.cells #[.int .u64 y.1,.string s] 48)).drew.cell? ⟨B.lb,5,none⟩=some pr2:=(HL5.out.cells.alloc _).cell 5
         have kb5:=(H2.out.2.blk HB1.out.2.1 (by have:=HW.out;have:=hJ.out.2.2.2.1.size;simp;omega)).bel (bx HB3.out HB5.out)
         have k0:w5.cell? ⟨wB.heap.size,0,none⟩=some (.int .u64 y.1):=kb5.cell 0
         have k0d:w5.drew.cell? ⟨wB.heap.size,0,none⟩=some (.int .u64 y.1):=k0
         have HRUN:=hid hrun
         have hpl:=hJ.out.2.2.2.2.2.1
         have hsz9:wB.heap.size≤w5.heap.size:=hOB.size
         have hNEW: ∀k,(Value.slice pa pn pc).ownBlock=some k→w.heap.size≤k:=by
          intro k hk
          rcases hob9 with h | ⟨k',h1,h2⟩
          ·exact hJ.out.2.2.2.2.1 k (h▸hk)
          ·rw[h1] at hk;injection hk with hk;have:=HO5.out.size;omega
         have hO7:Only (B.mb::B.lb::pr.ownBlock.toList) w7 W9:=by
          refine(hJ.out.2.2.2.2.2.2.1.trans (hOB.mono (g:=B.mb::B.lb::pr.ownBlock.toList) (by simp)) (fun _ h=>Or.inl h)).trans hO9 (fun y hy=> ?_)
          rcases List.mem_cons.1 hy with e | e
          ·left;rw[e];simp
          ·have e':pr2.ownBlock=some y:=by simpa[Option.mem_toList] using e
           rcases hJ.out.2.2.2.2.2.2.2 with h | ⟨k',h1,h2⟩
           ·left;rw[h] at e';simp[e']
           ·right;rw[h1] at e';injection e' with e';omega
         have hOb:(Value.slice pa pn pc).ownBlock=pr.ownBlock∨ ∃k,(Value.slice pa pn pc).ownBlock=some k∧w7.heap.size≤k:=by
          rcases hob9 with h | ⟨k',h1,h2⟩
          ·rw[h];exact hJ.out.2.2.2.2.2.2.2
          ·exact Or.inr ⟨k',h1,by have:=hJ.out.2.2.2.2.2.2.1.size;omega⟩
         have hOw9:Only [B.mb,B.lb] w W9:=HO5.out.trans hO9 (fun y hy=>by
          rcases List.mem_cons.1 hy with e | e
          ·left;rw[e];simp
          ·right;exact hJ.out.2.2.2.2.1 y (by simpa[Option.mem_toList] using e))
         have hL9':LookIs W9 N B bs root lv (.slice pa pn pc) (R++(done2++[y]).map (·.2)):=by
          have e:R++(done2++[y]).map (·.2)=R2++[y.2]:=by rw[HV.out.2.2];simp
          rw[e];exact hL9
         have HNX:=hid (⟨HOK.out,hL9',hP9,hOw9,hNEW,by rw[List.length_append];simp;omega,hO7,hOb⟩:VTo bs R (allE leaves) (done2++[y]) (ps2++[(y.1,s)]) (l.drop (q+1)++rest (i+1))∧LookIs W9 N B bs root lv (.slice pa pn pc) (R++(done2++[y]).map (·.2))∧PrsAt W9 N B (.slice pa pn pc) (ps2++[(y.1,s)])∧Only [B.mb,B.lb] w W9∧(∀k,(Value.slice pa pn pc).ownBlock=some k→w.heap.size≤k)∧(ps2++[(y.1,s)]).length≤8*i+(q+1)∧Only (B.mb::B.lb::pr.ownBlock.toList) w7 W9∧((Value.slice pa pn pc).ownBlock=pr.ownBlock∨ ∃k,(Value.slice pa pn pc).ownBlock=some k∧w7.heap.size≤k))
         have HW9:=hid hW9
         clear hOB hP5 hN5 hrun hL9 hP9 hO9 hob9 hW9 kb5 hpl hsz9 hNEW hO7 hOb hOw9 hL9' hev hpn u1 v0 v1
         go_wp2_with fail
         refine(MY.out w5).mono ?_
         rintro e w6 ⟨rfl,rfl⟩
         go_wp2_with fail
         refine Code.wp_mono (Q:=CalmL _) CalmL.imp ?_
         refine share (X:= ?X2) (fun key=> ?_) ?_
         rotate_left
         ·go_region_law (refine step_append_runI rfl (.tmp 56) (.tmp 61) 29 29 rfl _ _ (by simp[Act.eval,Act.put]) (by simp[Act.eval,Act.put]) HRUN.out ?_)
          all_goals
           try go_simp
           try simp only[Act.put,List.setIfInBounds_toArray,List.set_cons_zero,List.set_cons_succ]
           exact key.out
         refine CalmL.normal ?_
         rw[←HW9.out]
         go_wp2
         go_roundw
         case rel=>exact⟨q+1,_,_,_,HQN.out,by go_num,HNX⟩
         case measure=>simp[intOf];have:=HQN.out;omega
        ·rw[decide_eq_false hev]
         have HNO:=hid (HV.out.1.no (fun s' h=>hev (by
          have:=h.2.2
          rw[←HC.out,HSE.out] at this
          injection this with this
          have:=congrArg (fun a:Array Value=>a[1]?) this
          simpa using this)))
         clear hev
         go_wp2_with fail
         refine(MN.out w5).mono ?_
         rintro e w6 ⟨rfl,rfl⟩
         exact⟨rfl,Or.inr ⟨HNO.out,rfl,HO5.out⟩⟩
      ·have t1:(c==1)=false:=by simp;exact fun h=>h12 (Or.inl h)
       have t2:(c==2)=false:=by simp;exact fun h=>h12 (Or.inr h)
       have HNO:=hid (HV.out.1.no (fun s h=>h12 (by have:=h.2.1;rw[←HC.out] at this;exact this)))
       clear h12
       go_wp2_with fail
       refine CLS.out.mono ?_
       rintro e w3 ⟨rfl,hb3⟩
       have HB3:=hid hb3
       clear hb3
       go_wp2_with fail
       refine(MN.out w3).mono ?_
       rintro e w4 ⟨rfl,rfl⟩
       refine⟨rfl,Or.inr ⟨HNO.out,rfl,?_⟩⟩
       exact((hJ.out.2.2.2.1.trans (Only.of_below HB1.out.1 []) (fun _ h=>by cases h)).trans (H2.out.2.mono (by simp)) (fun _ h=>Or.inl h)).trans (Only.of_below HB3.out []) (fun _ h=>by cases h)
    ·obtain rfl:q=n:=by omega
     have q1: ¬(q:Int)< (q:Int):=by omega
     have hV:=hJ.out.1
     rw[List.drop_of_length_le (by have:=HX.out.2.2.2;omega),List.nil_append] at hV
     have HV:=hid (⟨hV,hJ.out.2.1,hJ.out.2.2.1,hJ.out.2.2.2.1,hJ.out.2.2.2.2.1,by have:=hJ.out.2.2.2.2.2.1;omega⟩:VTo bs R (allE leaves) done2 ps2 (rest (i+1))∧LookIs wB N B bs root lv pr2 (R++done2.map (·.2))∧PrsAt wB N B pr2 ps2∧Only [B.mb,B.lb] w wB∧(∀k,pr2.ownBlock=some k→w.heap.size≤k)∧ps2.length≤8*(i+1))
     clear hV hqn hq hJ
     go_wp2
     go_roundw
     case rel=>exact⟨i+1,pr2,ps2,done2,HLT.out,by go_num,HV⟩
     case measure=>simp[intOf];have:=HLT.out;omega
  ·obtain rfl:i=ln:=by omega
   have i1: ¬(i:Int)< (i:Int):=by omega
   have hV:=hI.out.1
   rw[HLN.out,HRS.out.2.2] at hV
   have hdn:=hV.done
   have hL2:=hI.out.2.1
   rw[hdn.2] at hL2
   have HF:=hid (⟨hdn.1,hL2,hI.out.2.2.1,hI.out.2.2.2.1⟩:_∧_∧_∧_)
   clear hV hdn hL2 hlt hi hI
   go_wp2
   refine bodyPost_end (v:= .tuple #[]) (by simp[results,Tryz.results154,go_sem]) rfl ?_
   exact Or.inl ⟨ps,pr,HF.out.1,rfl,HF.out.2.1,HF.out.2.2.1,HF.out.2.2.2⟩
end
theorem nodeI_lv {bs:List Int} {a:Int} {n:NodeA} (h:nodeI bs a=some n):0≤n.lv∧n.lv≤15:=by
 unfold nodeI at h
 split at h
 ·rename_i hh
  injection h with h
  rw[←h]
  unfold nodeOf nodeF
  simp only
  have e:a+8*((0:Nat):Int)=a:=by simp
  rw[e]
  omega
 ·cases h
theorem node_U {bs:List Int} (hb: ∀x∈bs,0≤x∧x<256) {a:Int} {n:NodeA} (h:nodeI bs a=some n):(0≤n.fi∧n.fi≤18446744073709551615):=by
 rw[(node_in h).2]
 exact nodeF_U64 hb a 4
theorem node_zero (bs:List Int):nodeI bs 0=none:=by
 unfold nodeI clsI slabZ
 simp
structure RTo (nd:Int→Option NodeA) (L root:Int) (rows:List (List (Int×NodeA))) (lev a0:Int):Prop where
 iff: ∀tot,RowsAt nd L root none tot↔ ∃rest,tot=rows++rest∧RowsAt nd lev a0 rows.getLast? rest
 each: ∀row∈rows,∀x∈row,nd x.1=some x.2∧lev<x.2.lv
 full: ∀row∈rows,row≠[]
theorem RTo.start (nd:Int→Option NodeA) (L root:Int):RTo nd L root [] L root:=⟨fun tot=>by simp,fun _ h=>by simp at h,fun _ h=>by simp at h⟩
theorem RTo.no {nd:Int→Option NodeA} {L root lev a0:Int} {rows:List (List (Int×NodeA))} (h:RTo nd L root rows lev a0) (hn: ∀row,¬(ChainAt nd lev none a0 row∧mayRow row∧ ∀u,rows.getLast?=some u→leadsI u row)): ∀tot,¬RowsAt nd L root none tot:=by
 intro tot ht
 obtain⟨rest,_,h2⟩:=(h.iff tot).1 ht
 cases rest with
 | nil=>exact h2
 | cons row rest=>exact hn row ⟨h2.1,h2.2.1,h2.2.2.1⟩
theorem RTo.next {nd:Int→Option NodeA} {L root lev a0:Int} {rows:List (List (Int×NodeA))} {row:List (Int×NodeA)} {x:Int×NodeA} {r:List (Int×NodeA)} (h:RTo nd L root rows lev a0) (hc:ChainAt nd lev none a0 row) (hm:mayRow row) (hl: ∀u,rows.getLast?=some u→leadsI u row) (h0:lev≠0) (hx:row=x::r):RTo nd L root (rows++[row]) (lev-1) x.2.fi:=by
 obtain⟨p,hw⟩:=hc.whole
 refine⟨fun tot=> ?_,fun row' hr y hy=> ?_,fun row' hr=> ?_⟩
 ·rw[h.iff]
  constructor
  ·rintro⟨rest,rfl,h2⟩
   cases rest with
   | nil=>exact h2.elim
   | cons row' rest=>
    obtain⟨q1,q2,q3,q4⟩:=h2
    have e:=q1.det hc
    subst e
    rw[if_neg h0] at q4
    obtain⟨x',r',e1,e2⟩:=q4
    rw[hx] at e1
    injection e1 with e1 e3
    subst e1
    refine⟨rest,by simp,?_⟩
    rw[List.getLast?_append]
    simpa using e2
  ·rintro⟨rest,rfl,h2⟩
   refine⟨row::rest,by simp,hc,hm,hl,?_⟩
   rw[if_neg h0]
   refine⟨x,r,hx,?_⟩
   rw[List.getLast?_append] at h2
   simpa using h2
 ·rcases List.mem_append.1 hr with e | e
  ·have:=h.each row' e y hy
   exact⟨this.1,by omega⟩
  ·rw[List.mem_singleton.1 e] at hy
   have:=hw.at' y hy
   exact⟨this.2.1,by rw[this.2.2];omega⟩
 ·rcases List.mem_append.1 hr with e | e
  ·exact h.full row' e
  ·rw[List.mem_singleton.1 e,hx];simp
theorem RTo.done {nd:Int→Option NodeA} {L root a0:Int} {rows:List (List (Int×NodeA))} {row:List (Int×NodeA)} (h:RTo nd L root rows 0 a0) (hc:ChainAt nd 0 none a0 row) (hm:mayRow row) (hl: ∀u,rows.getLast?=some u→leadsI u row):RowsAt nd L root none (rows++[row]):=
 (h.iff _).2 ⟨[row],rfl,hc,hm,hl,by rw[if_pos rfl]⟩
theorem leads_full {up down:List (Int×NodeA)} (h:leadsI up down) (hu:up≠[]):down≠[]:=by
 intro hd
 subst hd
 cases up with
 | nil=>exact hu rfl
 | cons x up=>
  have:=h 0 (by simp) (x.2.low,x.2.fi) (by rw[ptrsI_eq (x:=x) rfl];exact List.mem_cons_self ..)
  obtain⟨y,hy,_⟩:=this
  cases hy
theorem chain_full {nd:Int→Option NodeA} {lev a0:Int} {row:List (Int×NodeA)} (h:ChainAt nd lev none a0 row) (h0:a0≠0):row≠[]:=by
 intro e
 subst e
 exact h0 h
theorem chain_lows {nd:Int→Option NodeA} {lev a0:Int} {row:List (Int×NodeA)} (h:ChainAt nd lev none a0 row):(row.map fun y=>y.2.low).Nodup:=by
 obtain⟨p,hw⟩:=h.whole
 unfold List.Nodup
 rw[List.pairwise_map]
 exact hw.rise.imp (fun hxy e=>by omega)
def allA (rows:List (List (Int×NodeA))):List Int:=rows.flatMap fun row=>row.map (·.1)
theorem allA_snoc (rows:List (List (Int×NodeA))) (row:List (Int×NodeA)):allA (rows++[row])=allA rows++row.map (·.1):=by unfold allA;simp
theorem RTo.ne {bs:List Int} {L root lev a0:Int} {rows:List (List (Int×NodeA))} (h:RTo (nodeI bs) L root rows lev a0): ∀a∈allA rows,∀nd,nodeI bs a=some nd→nd.lv≠lev:=by
 intro a ha nd hnd
 unfold allA at ha
 obtain⟨row,hr,hx0⟩:=List.mem_flatMap.1 ha
 obtain⟨x,hx,rfl⟩:=List.mem_map.1 hx0
 have:=h.each row hr x hx
 rw[this.1] at hnd
 injection hnd with hnd
 rw[←hnd]
 omega
structure WholeOK (bs:List Int) (rs:List (List (Int×NodeA))) (ps:List (Int×ByteArray)):Prop where
 slabs:slabsOK bs
 sup:supOK bs
 rows: ∃n,nodeI bs (wAt bs 2)=some n∧RowsAt (nodeI bs) n.lv (wAt bs 2) none rs
 vals: ∃leaves,rs.getLast?=some leaves∧ValsAt bs (allA rs) (allE leaves) ps
theorem LvlsAt.ld {W:World} {N:Nat} {B:LkP} {lv:Value} {rows:List (List (Int×NodeA))} (h:LvlsAt W N B lv rows) (h0:rows≠[]): ∃g cap,lv= .slice (some ⟨g,0,none⟩) rows.length cap∧rows.length≤cap∧g<W.heap.size∧ ∀(i:Nat) (row:List (Int×NodeA)),rows[i]?=some row→ ∃ra rc,W.cell? ⟨g,i,none⟩=some (.slice ra row.length rc)∧RowAt W N (.slice ra row.length rc) row:=by
 obtain⟨vs,h1,h2,h3⟩:=h.own
 obtain⟨g,cap,rfl,_,hn,hg,hc⟩:=own_some h2 (List.length_pos_iff.2 h0)
 refine⟨g,cap,rfl,hn,hg,fun i row hi=> ?_⟩
 obtain⟨v,e1,e2⟩:=h3 i row hi
 have e3:=e2
 unfold RowAt at e3
 obtain⟨ra,rc,rfl⟩:=row_form1 e3
 refine⟨ra,rc,?_,e2⟩
 have:=hc i _ e1
 rwa[Nat.zero_add] at this
end Go.Proofs.YtibiekfjbibpbaaGreat
