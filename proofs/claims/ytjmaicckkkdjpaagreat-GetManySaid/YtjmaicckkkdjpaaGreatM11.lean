import Derived.Test.YtjmaicckkkdjpaaGreatM37
set_option maxRecDepth 100000
set_option maxHeartbeats 4000000
set_option linter.unusedVariables false
set_option linter.unusedSimpArgs false
/- A law's get over its world: the world's memory as bytes; the surroundings that a get wants; what stands behind it. -/
namespace Go.Proofs.YtjmaicckkkdjpaaGreat
open Go.RowKit
theorem leW_get: ∀{bs:List Int},(∀x∈bs,0≤x∧x<256)→ ∀{j:Nat} {c:Int},bs[j]?=some c→leW bs/256^j % 256=c
 | [],_,j,c,h=>by simp at h
 | x::bs,hb,0,c,h=>by
  have h1:=hb x (by simp)
  simp only[List.getElem?_cons_zero,Option.some.injEq] at h
  subst h
  rw[show leW (x::bs)=x+256*leW bs from rfl,Int.pow_zero,Int.ediv_one]
  omega
 | x::bs,hb,j+1,c,h=>by
  have h1:=hb x (by simp)
  have h2:=leW_get (bs:=bs) (fun y hy=>hb y (List.mem_cons_of_mem _ hy)) (j:=j) (c:=c) (by simpa using h)
  rw[show leW (x::bs)=x+256*leW bs from rfl,Int.pow_succ',←Int.ediv_ediv_of_nonneg (by omega),show(x+256*leW bs)/256=leW bs by omega]
  exact h2
theorem wB_leW {cs:List Int} (hb: ∀x∈cs,0≤x∧x<256) (h8:cs.length=8):wB (leW cs)=cs:=by
 apply List.ext_getElem?
 intro j
 by_cases hj:j<8
 ·obtain⟨c,hc⟩: ∃c,cs[j]?=some c:=⟨_,List.getElem?_eq_getElem (by omega)⟩
  rw[hc]
  unfold wB
  rw[List.getElem?_map,List.getElem?_range hj,Option.map_some,leW_get hb hc]
 ·rw[List.getElem?_eq_none (by rw[wB_len];omega),List.getElem?_eq_none (by omega)]
theorem bytes_words: ∀(q:Nat) {bs:List Int},(∀x∈bs,0≤x∧x<256)→bs.length=8*q→bytesW (wordsOf bs)=bs
 | 0,bs,_,h=>by
  have:bs=[]:=List.eq_nil_of_length_eq_zero (by omega)
  subst this;rfl
 | q+1,bs,hb,h=>by
  have hd:(bs.drop 8).length=8*q:=by rw[List.length_drop];omega
  have ih:=bytes_words q (bs:=bs.drop 8) (fun x hx=>hb x (List.mem_of_mem_drop hx)) hd
  have e:wordsOf bs=leW (bs.take 8)::wordsOf (bs.drop 8):=by
   unfold wordsOf
   rw[show bs.length/8=q+1 by omega,show(bs.drop 8).length/8=q by omega,List.range_succ_eq_map,List.map_cons,List.map_map]
   have h2:List.map (wAt bs∘Nat.succ) (List.range q)=List.map (wAt (bs.drop 8)) (List.range q):=List.map_congr_left fun i _=>by
    show leW ((bs.drop (8*(i+1))).take 8)=leW (((bs.drop 8).drop (8*i)).take 8)
    rw[List.drop_drop,show 8+8*i=8*(i+1) by omega]
   rw[h2]
   rfl
  rw[e]
  show wB (leW (bs.take 8))++bytesW (wordsOf (bs.drop 8))=bs
  rw[ih,wB_leW (fun x hx=>hb x (List.mem_of_mem_take hx)) (by rw[List.length_take];omega),List.take_append_drop]
theorem words_rng {bs:List Int} (hb: ∀x∈bs,0≤x∧x<256): ∀x∈wordsOf bs,0≤x∧x<18446744073709551616:=by
 intro x hx
 obtain⟨i,_,rfl⟩:=List.mem_map.1 hx
 have h1:=leW_bounds (bs:=(bs.drop (8*i)).take 8) (fun y hy=>hb y (List.mem_of_mem_drop (List.mem_of_mem_take hy)))
 have h2:(2:Int)^ (8*((bs.drop (8*i)).take 8).length)≤2^64:=by
  have h3:8*((bs.drop (8*i)).take 8).length≤64:=by rw[List.length_take];omega
  exact_mod_cast Nat.pow_le_pow_right (by omega) h3
 refine⟨h1.1,?_⟩
 show leW ((bs.drop (8*i)).take 8)<_
 omega
theorem arg_of_in {w:World} {p:Option Addr} {c:Nat} {bs:List Int} (h:BytesIn w p c bs) (hc:c≤maxLen) (h0:0<bs.length):ByArg w (.slice p bs.length c) bs:=by
 obtain⟨b,off,rfl,h1,h2⟩:=h.2.2 h0
 exact⟨h.2.1,Or.inr ⟨_,c,rfl,h.1,hc,Or.inr ⟨b,off,rfl,h1,h2⟩⟩⟩
theorem WorIs.inn {N0:Nat} {W X:World} {x:La} {xs:List Int} {wb g b nb:Nat} {R:AR} {lv:Value} {rows:List (List (Nat×NodeA))} {K si m:Nat} {MB:MB} (h:WorIs N0 W x xs wb g b nb R lv rows K si m MB) (hb:Below W.heap.size W X) {gp:Nat} {f:List Nat} (hg:W.heap.size≤gp) (hf: ∀z∈f,W.heap.size≤z):WkIn X si m gp MB (freshM (wordsOf R.bs)) 0 f:=by
 obtain⟨wc,N1,S,size,gs,sp,hO,_,_,_,_⟩:=h.ov
 have hm:=hO.mem.foot_lt
 have hl:=hO.sil
 refine⟨⟨hO.mem.only (Only.of_below hb []) (by simp),(fun L hL=>by cases hL),?_⟩,(by show St64 ⟨0,0,0,0⟩;unfold St64;simp),by omega,cell_bel hb hO.site,Nat.lt_of_lt_of_le hl hb.size,by omega,(fun hc=>by have:=hf _ hc;omega),fun hc=> ?_,fun hc=> ?_,fun y hy hc=> ?_⟩
 ·show 2≤(wordsOf R.bs).length
  unfold wordsOf
  rw[List.length_map,List.length_range,h.built.len]
  omega
 ·have:=(hO.low _ hc).2;have:=hO.lo.2.1;omega
 ·have:=hm _ hc;omega
 ·have:=hm _ hc;have:=hf _ hy;omega
theorem WorIs.after {N0:Nat} {W X Y:World} {x:La} {xs:List Int} {wb g b nb:Nat} {R:AR} {lv:Value} {rows:List (List (Nat×NodeA))} {K si m:Nat} {MB:MB} (h:WorIs N0 W x xs wb g b nb R lv rows K si m MB) (hb:Below W.heap.size W X) {ks:List Nat} (hk: ∀k∈ks,W.heap.size≤k∨k∈footM m MB (freshM (wordsOf R.bs))) (ho:Only ks X Y):
  (∃sp,Blk Y wb 36 #[ptrV g,ptrV si,ptrV m,sp])∧ArIs Y g b nb R lv∧Below N0 W Y:=by
 obtain⟨wc,N1,S,size,gs,sp,hO,_,hgw,hbw,hN⟩:=h.ov
 have hgl:=h.ar.blk.lt
 have hbl:=h.ar.by'.lt
 have hwl:=hO.blk.lt
 have hcs:=hO.bel.size
 have e1:wb∉ks:=fun hc=>by
  rcases hk _ hc with h1 | h1
  ·omega
  ·have:=(hO.low _ h1).2;have:=hO.lo.2.2;omega
 have e2: ∀y,y<wc.heap.size→y∉ks:=fun y hy hc=>by
  rcases hk _ hc with h1 | h1
  ·omega
  ·have:=(hO.low _ h1).1;omega
 refine⟨⟨sp,ho.blk (hO.blk.bel hb) e1⟩,⟨ho.blk (h.ar.blk.bel hb) (e2 _ hgw),ho.blk (h.ar.by'.bel hb) (e2 _ hbw),h.ar.ln,h.ar.big,h.ar.byt⟩,?_⟩
 have h1:Below N0 W X:=hb.mono (by omega)
 refine h1.trans (ho.below (fun y hy=> ?_) (Nat.le_trans (by omega) hb.size))
 rcases hk _ hy with h1 | h1
 ·omega
 ·have:=(hO.low _ h1).1;omega
theorem GtAll.other {Fin:GtP→Prop} {V:List Int} {si m g g2:Nat} {B:MB} {K:Nat} {M0 M:MemS} {f0 f f2:List Nat} {w w':World} {x x2:GtP} (h:GtAll Fin V si m g B K M0 f0 w x M f w') (hi:WkIn w si m g2 B M0 K f2) (hs:GtIs w si m g2 x2 f2) (ha: ∀z∈g2::f2,z∉g::f0):WkIn w' si m g2 B M K f2∧GtIs w' si m g2 x2 f2:=by
 have hlt:=hs.lt
 have far: ∀z∈g2::f2,z∉footM m B M0:=fun z hz=>by
  rcases List.mem_cons.1 hz with rfl | hz
  ·exact hi.gm
  ·exact hi.fm z hz
 have zl: ∀z∈g2::f2,z<w.heap.size:=fun z hz=>by
  rcases List.mem_cons.1 hz with rfl | hz
  ·exact hlt.1
  ·exact hlt.2 z hz
 have far2: ∀z∈g2::f2,z∉footM m B M:=fun z hz hc=>by
  rcases h.foot z hc with h1 | h1
  ·exact far z hz h1
  ·have:=zl z hz;omega
 have no: ∀z∈g2::f2,z∉g::f0++footM m B M0:=fun z hz hc=>by
  rcases List.mem_append.1 hc with h1 | h1
  ·exact ha z hz h1
  ·exact far z hz h1
 refine⟨⟨h.inn.mem,h.inn.st,h.inn.few,h.inn.sc,h.inn.sil,hi.sig,hi.sif,h.inn.sim,far2 _ (List.mem_cons_self ..),fun y hy=>far2 y (List.mem_cons_of_mem _ hy)⟩,hs.only h.only (no _ (List.mem_cons_self ..)) (fun z hz=>no z (List.mem_cons_of_mem _ hz))⟩
theorem WorIs.few {N0:Nat} {W:World} {x:La} {xs:List Int} {wb g b nb:Nat} {R:AR} {lv:Value} {rows:List (List (Nat×NodeA))} {K si m:Nat} {MB:MB} (h:WorIs N0 W x xs wb g b nb R lv rows K si m MB):
  nodesN rows rows.length=tK (risKeys xs) x.per.toNat x.lag.toNat (K+1)∧tK (risKeys xs) x.per.toNat x.lag.toNat (K+1)≤80∧rows.length≤1000∧ ∀row∈rows,row.length≤100000:=by
 have ht:=h.built.tin
 have hs:=h.ok
 unfold LaOK at hs
 have h80:tK (risKeys xs) x.per.toNat x.lag.toNat (K+1)≤80:=by omega
 have hk:=h.built.k15
 rw[h.rws]
 refine⟨nodes_tK _ _ _ _,h80,by rw[List.length_map,List.length_range];omega,fun row hr=> ?_⟩
 obtain⟨j,hj,rfl⟩:=List.mem_map.1 hr
 have hj:=List.mem_range.1 hj
 have h1:=stk_le (risKeys xs) x.per.toNat x.lag.toNat (show j+1≤K+1 by omega)
 rw[tK_succ] at h1
 unfold rowK
 rw[rowS_len]
 have h2:nRounds x.per.toNat (stk (uN (risKeys xs)) x.per.toNat x.lag.toNat (ents0 (risKeys xs)) j).2=nK (risKeys xs) x.per.toNat x.lag.toNat j:=rfl
 omega
theorem small_K {N0:Nat} {W:World} {wb g b nb:Nat} {R:AR} {lv:Value} {rows:List (List (Nat×NodeA))} {K si m:Nat} {MB:MB} (h:WorIs N0 W ⟨2,4,0⟩ [5] wb g b nb R lv rows K si m MB):K=0:=by
 have hb:BuildOK 2 [5] 4 0 R rows:=by
  have:=h.bld
  rw[ris5] at this
  exact this
 obtain⟨z1,K',z2,z3,z4,z5,z6⟩:=hb
 have h0:K'=0:=by
  cases K' with
  | zero=>rfl
  | succ k=>exact absurd bld_stop (z3 0 (by omega))
 subst h0
 have e1:=congrArg List.length h.rws
 have e2:=congrArg List.length z5
 rw[lvls_len] at e2
 rw[List.length_map,List.length_range] at e1
 omega
theorem small_tK:1+45*tK (risKeys [5]) (4:Int).toNat (0:Int).toNat (0+1)+15≤200:=by
 have h:(Nat.ble (1+45*tK (risKeys [5]) (4:Int).toNat (0:Int).toNat (0+1)+15) 200)=true:=by kernel_rfl
 exact Nat.le_of_ble_eq_true h
theorem laLoadAt15 (v:Value):Instr.loadAt 24 v=ldM 24 v:=rfl
theorem la_ld15 {w:World} {b:Nat} {x:La} {kv:Value} (h:Blk w b 24 (laC x kv)):ldR Tryz.prog 24 (.pointer (some ⟨b,0,none⟩)) w= .ok (.agg (laC x kv)) w:=h.ld Tryz.underlying24 rfl (by simp only[laC];kernel_rfl)
end Go.Proofs.YtjmaicckkkdjpaaGreat
/- The chapter's row of gets. -/
namespace Go.Proofs.YtjmaicckkkdjpaaGreat
open Go.RowKit
structure TwoG (W V:World) (si m ga gb:Nat) (xa xb:GtP) (fa fb:List Nat):Prop where
 a:GtIs V si m ga xa fa
 b:GtIs V si m gb xb fb
 la: ∀z∈ga::fa,W.heap.size≤z
 lb: ∀z∈gb::fb,W.heap.size≤z
 ap: ∀z∈gb::fb,z∉ga::fa
 bel:Below W.heap.size W V
theorem TwoG.of {W X V Y Z:World} {si m ga gb:Nat} {xa xb:GtP} {fa fb:List Nat} (hX:Below W.heap.size W X) (ha:GtIs V si m ga xa fa) (h1:X.heap.size≤ga) (h2: ∀z∈fa,X.heap.size≤z) (h3:Below X.heap.size X V) (hY:Below V.heap.size V Y) (hb:GtIs Z si m gb xb fb) (h4:Y.heap.size≤gb) (h5: ∀z∈fb,Y.heap.size≤z) (h6:Below Y.heap.size Y Z):TwoG W Z si m ga gb xa xb fa fb:=by
 have s1:=hX.size
 have s2:=h3.size
 have s3:=hY.size
 have hl:=ha.lt
 refine⟨ha.bel (bx hY h6),hb,fun z hz=> ?_,fun z hz=> ?_,fun z hz hc=> ?_,bx (bx (bx hX h3) hY) h6⟩
 ·rcases List.mem_cons.1 hz with rfl | hz
  ·omega
  ·have:=h2 z hz;omega
 ·rcases List.mem_cons.1 hz with rfl | hz
  ·omega
  ·have:=h5 z hz;omega
 ·have h7:Y.heap.size≤z:=by
   rcases List.mem_cons.1 hz with rfl | hz
   ·exact h4
   ·exact h5 z hz
  have h8:z<V.heap.size:=by
   rcases List.mem_cons.1 hc with rfl | hc
   ·exact hl.1
   ·exact hl.2 z hc
  omega
theorem str5:strE (strOfNums (numL (5:Int).toNat)) { data:= #[53] }=true:=by kernel_rfl
theorem Known15_z (w:World):Calls Tryz.prog 10 #[] w fun e w'=>e= .returned (.bool true)∧Below w.heap.size w w':=by
 have SZ:=hid (Small_z w)
 go_enter Tryz.func10,Tryz.ntmps10
 go_wp2_with fail
 refine SZ.out.mono ?_
 rintro e w2 ⟨hb2,wb,g,b,nb,R,lv,rows,K,si,m,MB,rfl,hW⟩
 obtain rfl:=small_K hW
 obtain⟨wc,N1,S,size,gs,sp,hO,_,_,_,_⟩:=hW.ov
 have c1:w2.cell? ⟨wb,1,none⟩=some (ptrV si):=hO.blk.cell 1
 have H2:=hid (⟨hW,hb2⟩:_∧_)
 have NN:=hid (fun q W=>GtNew_z si m 0 q W)
 clear hb2 hW hO SZ
 go_upto_region 4 with fail
 go_cut [2,3] from 4 to 16 (fun va vb wd=> ∃ga gb:Nat,va=ptrV ga∧vb=ptrV gb∧Hid (∃fa fb,TwoG w2 wd si m ga gb (gtNew 0 5) (gtNew 0 6) fa fb))
 case first=>
  go_region_held3 (fun X=>X.cell? ⟨wb,1,none⟩=some (ptrV si)) (go_keep) (first
   | (have HX:=HA;go_at_call 11;refine(NN.out _ _).mono ?_;rintro e v2 ⟨gb,fb,rfl,p1,p2,p3,p4⟩;have d2:v2.cell? ⟨wb,1,none⟩=some (ptrV si):=cell_bel p4 d1;have HB:=hid (⟨p1,p2,p3,p4⟩:_∧_∧_∧_);clear p1 p2 p3 p4 HX)
   | (go_at_call 11;refine(NN.out _ _).mono ?_;rintro e v1 ⟨ga,fa,rfl,p1,p2,p3,p4⟩;have d1:v1.cell? ⟨wb,1,none⟩=some (ptrV si):=cell_bel p4 c1;have HA:=hid (⟨p1,p2,p3,p4⟩:_∧_∧_∧_);clear p1 p2 p3 p4))
  go_wp2
  go_meet
  refine⟨ga,gb,rfl,rfl,hid ⟨fa,fb,TwoG.of ?_ HA.out.2.1 HA.out.1 HA.out.2.2.1 HA.out.2.2.2 ?_ HB.out.2.1 HB.out.1 HB.out.2.2.1 HB.out.2.2.2⟩⟩
  ·first | exact Below.refl _ _ | exact(Below.refl _ _).drew
  ·first | exact Below.refl _ _ | exact(Below.refl _ _).drew
 case rest=>
  obtain⟨ga,gb,rfl,rfl,hT⟩:=hcut
  obtain⟨fa,fb,hT⟩:=hT.out
  obtain⟨hW,hb2⟩:=H2.out
  have fr: ∀{f:List Nat} {y:Nat},(∀z∈y::f,w2.heap.size≤z)→w2.heap.size≤y∧ ∀z∈f,w2.heap.size≤z:=fun h=>⟨h _ (List.mem_cons_self ..),fun z hz=>h z (List.mem_cons_of_mem _ hz)⟩
  have ia:=hW.inn hT.bel (fr hT.la).1 (fr hT.la).2
  have ib:=hW.inn hT.bel (fr hT.lb).1 (fr hT.lb).2
  have hlen:(wordsOf R.bs)=(freshM (wordsOf R.bs)).view:=rfl
  have A1:=hid (GtWhole_z hW.built ⟨by omega,by omega⟩ (by unfold U64;omega) 200 (by omega) small_tK si m ga MB (freshM (wordsOf R.bs)) 0 fa rfl wc ia hT.a)
  have hb3:=hb2
  have c2:wc.cell? ⟨wb,2,none⟩=some (ptrV m):=cell_bel hT.bel (by obtain⟨_,_,_,_,_,_,hO,_⟩:=hW.ov;exact hO.blk.cell 2)
  have H3:=hid (⟨hW,hT,ib,hb3⟩:_∧_∧_∧_)
  clear hW hb2 hb3 hT ia ib hlen H2 c1 NN
  go_wp2_with fail
  refine A1.out.mono ?_
  rintro e w4 ⟨r1,xa,M1,fa1,rfl,hr1,hA⟩
  obtain⟨hW,hT,ib,hb3⟩:=H3.out
  have gr1:r1>0:=by omega
  obtain⟨ib4,hB4⟩:=hA.other ib hT.b hT.ap
  have hk4: ∀k∈ga::fa++footM m MB (freshM (wordsOf R.bs)),w2.heap.size≤k∨k∈footM m MB (freshM (wordsOf R.bs)):=fun k hk=>(List.mem_append.1 hk).imp (fun h=>hT.la k h) id
  obtain⟨⟨sp4,k4⟩,ar4,bl4⟩:=hW.after hT.bel hk4 hA.only
  have c2b:w4.cell? ⟨wb,2,none⟩=some (ptrV m):=k4.cell 2
  have B1:=hid (GtWhole_z hW.built ⟨by omega,by omega⟩ (by unfold U64;omega) 200 (by omega) small_tK si m gb MB M1 0 fb hA.view w4 ib4 hB4)
  have H4:=hid (⟨hA,hW,hT,ib,hb3⟩:_∧_∧_∧_∧_)
  have wa:=hA.fin.res.want (xs:=[5]) (fun y hy=>by simp at hy;subst hy;unfold U64;omega)
  rw[if_pos (by simp)] at wa
  have SA:Hid (∀W,Calls Tryz.prog 12 #[.agg (respC xa.rc xa.rv),.agg #[.int .i64 0,.string { data:= #[53] },.slice none 0 0]] W fun e w'=>e= .returned (.bool true)∧Below W.heap.size W w'):=by
   rw[wa.1,wa.2]
   refine hid fun W=>(SameR_z 0 0 _ { data:= #[53] } W).mono ?_
   rintro e w' ⟨rfl,h⟩
   rw[str5]
   exact⟨rfl,h⟩
  clear hA hW hT ib hb3 ib4 hB4 hk4 k4 ar4 bl4 A1 H3 wa
  go_wp2_with fail
  refine B1.out.mono ?_
  rintro e w5 ⟨r2,xb,M2,fb1,rfl,hr2,hB⟩
  obtain⟨hA,hW,hT,ib,hb3⟩:=H4.out
  have gr2:r2>0:=by omega
  have hA5:GtIs w5 si m ga xa fa1:=by
   have hlt:=hA.is.lt
   have hbl:=hT.b.lt
   have no: ∀z∈ga::fa1,z∉gb::fb++footM m MB M1:=fun z hz hc=>by
    rcases List.mem_append.1 hc with h1 | h1
    ·have h2:=hT.ap z h1
     rcases List.mem_cons.1 hz with rfl | hz
     ·exact h2 (List.mem_cons_self ..)
     ·rcases hA.fresh z hz with h3 | h3
      ·exact h2 (List.mem_cons_of_mem _ h3)
      ·have:z<wc.heap.size:=by
        rcases List.mem_cons.1 h1 with rfl | h1
        ·exact hbl.1
        ·exact hbl.2 z h1
       omega
    ·rcases List.mem_cons.1 hz with rfl | hz
     ·exact hA.inn.gm h1
     ·exact hA.inn.fm z hz h1
   exact hA.is.only hB.only (no _ (List.mem_cons_self ..)) (fun z hz=>no z (List.mem_cons_of_mem _ hz))
  have wb2:=hB.fin.res.want (xs:=[5]) (fun y hy=>by simp at hy;subst hy;unfold U64;omega)
  rw[if_neg (by simp)] at wb2
  have SB:Hid (∀W,Calls Tryz.prog 12 #[.agg (respC xb.rc xb.rv),.agg #[.int .i64 5,.string { data:= #[] },.slice none 0 0]] W fun e w'=>e= .returned (.bool true)∧Below W.heap.size W w'):=by
   rw[wb2.1,wb2.2]
   refine hid fun W=>(SameR_z 5 5 _ { data:= #[] } W).mono ?_
   rintro e w' ⟨rfl,h⟩
   rw[strE_refl]
   exact⟨rfl,h⟩
  have hk5: ∀k∈gb::fb++footM m MB M1,w2.heap.size≤k∨k∈footM m MB (freshM (wordsOf R.bs)):=fun k hk=>by
   rcases List.mem_append.1 hk with h1 | h1
   ·exact Or.inl (hT.lb k h1)
   ·rcases hA.foot k h1 with h2 | h2
    ·exact Or.inr h2
    ·exact Or.inl (Nat.le_trans hT.bel.size h2)
  have hk4: ∀k∈ga::fa++footM m MB (freshM (wordsOf R.bs)),w2.heap.size≤k∨k∈footM m MB (freshM (wordsOf R.bs)):=fun k hk=>(List.mem_append.1 hk).imp (fun h=>hT.la k h) id
  have hoAll:Only (ga::fa++footM m MB (freshM (wordsOf R.bs))++(gb::fb++footM m MB M1)) wc w5:=(Only.mono hA.only (fun y hy=>List.mem_append_left _ hy)).trans hB.only (fun y hy=>Or.inl (List.mem_append_right _ hy))
  obtain⟨_,_,bl5⟩:=hW.after hT.bel (fun k hk=>(List.mem_append.1 hk).elim (hk4 k) (hk5 k)) hoAll
  have RA:=hid (GtResp_z si m ga xa fa1 w5 hA5)
  have HB5:=hid (hb3.trans bl5)
  have H5:=hid (fun W (hb:Below w5.heap.size w5 W)=>GtResp_z si m gb xb fb1 W (hB.is.bel hb))
  clear hA hW hT ib hb3 hB hA5 wb2 hk5 hk4 hoAll bl5 H4 B1
  go_wp2_with fail
  refine RA.out.mono ?_
  rintro e w6 ⟨rfl,hb6⟩
  have HB6:=hid hb6
  clear hb6 RA
  go_wp2_with fail
  refine(SA.out _).mono ?_
  rintro e w7 ⟨rfl,hb7⟩
  have HB7:=hid (bx HB6.out hb7)
  clear hb7 SA
  go_wp2_with fail
  refine(H5.out _ HB7.out).mono ?_
  rintro e w8 ⟨rfl,hb8⟩
  have HB8:=hid (bx HB7.out hb8)
  clear hb8 H5
  go_wp2_with fail
  refine(SB.out _).mono ?_
  rintro e w9 ⟨rfl,hb9⟩
  have HB9:=hid (HB5.out.trans ((bx HB8.out hb9).mono HB5.out.size))
  clear hb9 SB
  go_wp2
  go_ret
  exact⟨rfl,HB9.out⟩
end Go.Proofs.YtjmaicckkkdjpaaGreat
