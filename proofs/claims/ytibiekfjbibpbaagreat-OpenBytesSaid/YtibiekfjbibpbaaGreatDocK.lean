/- The document's Look, walked. -/
import Derived.Test.YtibiekfjbibpbaaGreatDocJ
set_option maxRecDepth 100000
set_option maxHeartbeats 8000000
set_option linter.unusedVariables false
set_option linter.unusedSimpArgs false
namespace Go.Proofs.YtibiekfjbibpbaaGreat
open Go.RowKit
theorem drepBuild (ps:Array (Nat×Value)):Instr.build 32 ps=bldM 32 ps:=rfl
attribute [local go_sem ↓ high] nodeLoadAt nodeLoadVar nodeStoreAt nodeBuild nodeBuildS drowLoadAt drowLoadVar drowStoreAt append_shut2 repStoreAt2 repLoadAt repLoadVar drepBuild
attribute [local go_sem] ldM_run lvM_run stM_run bldM_run bslM_run Oper.semAt_some appM2_run
def rep0:Array Value:= #[.slice none 0 0,.slice none 0 0,.slice none 0 0,.slice none 0 0,.int .i64 0,.int .i64 0]
theorem rbld_zero (W:World):bldR Tryz.prog 32 #[] W= .ok (.agg rep0) W:=by kernel_rfl
theorem rbld_h (h:Int) (W:World):bldR Tryz.prog 32 #[(4,.int .i64 h)] W= .ok (.agg #[.slice none 0 0,.slice none 0 0,.slice none 0 0,.slice none 0 0,.int .i64 h,.int .i64 0]) W:=by kernel_rfl
theorem rep_new (W:World) (h:Int): ∃W',stR Tryz.prog 32 (.pointer (some ⟨W.heap.size,0,none⟩)) (.agg #[.slice none 0 0,.slice none 0 0,.slice none 0 0,.slice none 0 0,.int .i64 h,.int .i64 0]) (W.alloc (.cells #[.slice none 0 0,.slice none 0 0,.slice none 0 0,.slice none 0 0,.int .i64 0,.int .i64 0] 32))= .ok () W'∧Blk W' W.heap.size 32 #[.slice none 0 0,.slice none 0 0,.slice none 0 0,.slice none 0 0,.int .i64 h,.int .i64 0]∧Below W.heap.size W W':=by
 obtain⟨W',h1,h2,h3⟩:=rep_st (Blk.new W 32 #[.slice none 0 0,.slice none 0 0,.slice none 0 0,.slice none 0 0,.int .i64 0,.int .i64 0]) rfl none none none none 0 0 0 0 0 0 0 0 h 0
 have hb:Below W.heap.size W (W.alloc (.cells #[.slice none 0 0,.slice none 0 0,.slice none 0 0,.slice none 0 0,.int .i64 0,.int .i64 0] 32)):=ba (Below.refl _ _) _
 exact⟨W',h1,h2,hb.trans (h3.below (fun x hx=>by simp at hx;omega) hb.size)⟩
def DLkPost (bs:List Int) (w:World) (e:Ending) (w':World):Prop:=
 Below w.heap.size w w'∧((∃rs ps leaves pv xv fv kv,WholeOK bs rs ps∧rs.getLast?=some leaves∧
   e= .returned (.tuple #[.agg #[pv,xv,fv,kv,.int .i64 (rs.length-1:Int),.int .i64 (nodesI rs)],.int .i64 0])∧
   w'.ownsRow w.heap.size 48 2 pv ps.length (ps.flatMap pairC)∧rowU w' w.heap.size xv (reachI rs leaves)∧rowU w' w.heap.size fv ((reachI rs leaves).filter fun a=>decide (a∉refA bs (nsI bs)))∧rowU w' w.heap.size kv ((refA bs (nsI bs)).filter fun a=>decide (a∉reachI rs leaves)))∨
  ((∀rs ps,¬WholeOK bs rs ps)∧e= .returned (.tuple #[.agg rep0,.int .i64 6])))
theorem fold_len (l:List Int): ∀xs:List Int,(l.foldl insA xs).length≤xs.length+l.length:=by
 induction l with
 | nil=>intro xs;simp
 | cons a l ih=>
  intro xs
  have h1:=ih (insA xs a)
  have h2:=insA_len xs a
  rw[List.foldl_cons,List.length_cons]
  omega
theorem rows_few {bs:List Int} (hb: ∀x∈bs,0≤x∧x<256) {rs:List (List (Int×NodeA))} (h:RowsOK bs rs):rs.length≤16∧0<rs.length∧(∀row∈rs,row.length≤8320)∧ ∀row∈rs,∀x∈row,nodeI bs x.1=some x.2∧x.1≠0:=by
 obtain⟨hs,_,n,hn,hr⟩:=h
 have hlv:=nodeI_lv hn
 have hsl:=slabs_len hs.1
 have hp:=slabsZ_pos hs.1
 obtain⟨h1,h2⟩:=hr.chains hb hlv.1 (wAt_in hb (show 2<bs.length/8 by omega)).1
 refine⟨by omega,by omega,fun row hrow=> ?_,fun row hrow x hx=> ?_⟩
 ·obtain⟨l,a,q1,q2⟩:=h2 row hrow
  obtain⟨p,hw⟩:=q2.whole
  have:=chain_few8 hw hs.1 (chain_pos hb q2 q1)
  omega
 ·obtain⟨l,a,q1,q2⟩:=h2 row hrow
  obtain⟨p,hw⟩:=q2.whole
  exact⟨(hw.at' x hx).2.1,(hw.at' x hx).1⟩
theorem RowsD.typ1 {W W':World} {N b:Nat} {v:Value} {rows:List (List (Int×NodeA))} {cs:Array Value} {t:TypeId} (h:RowsD W N v rows) (hb:Blk W b t cs) (ho:Only [b] W W') (n1:t≠79) (n2:t≠51) (n3:t≠55):RowsD W' N v rows:=
 h.typ ho (fun q hq=>⟨cs,t,by have e:=List.mem_singleton.1 hq;subst e;exact hb,n1,n2,n3⟩)
theorem RowsD.ldg {W:World} {N g n c:Nat} {rows:List (List (Int×NodeA))} (h:RowsD W N (.slice (some ⟨g,0,none⟩) n c) rows) (hn:n=rows.length) {i:Nat} {row:List (Int×NodeA)} (hi:rows[i]?=some row):
  ∃a1 c1 a2 c2,n≤c∧ ∀X,Below W.heap.size W X→RowD X N (.slice a1 row.length c1) (.slice a2 row.length c2) row∧X.cell? ⟨g,i*2,none⟩=some (.slice a1 row.length c1)∧X.cell? ⟨g,i*2+1,none⟩=some (.slice a2 row.length c2)∧
   ldR Tryz.prog 79 (.pointer (some ⟨g,i*2,none⟩)) X= .ok (.agg #[.slice a1 row.length c1,.slice a2 row.length c2]) X:=by
 obtain⟨g',a1,c1,a2,c2,e,h1,h2⟩:=h.ld hn hi
 injection e with e
 injection e with e
 subst e
 exact⟨a1,c1,a2,c2,h1,h2⟩
theorem allA_take {rs:List (List (Int×NodeA))} {i:Nat} {row:List (Int×NodeA)} (h:rs[i]?=some row):allA (rs.take (i+1))=allA (rs.take i)++row.map (·.1):=by
 rw[List.take_add_one,h]
 exact allA_snoc _ _
theorem take_few {rs:List (List (Int×NodeA))} {m:Nat} (h: ∀row∈rs,row.length≤m) (i:Nat):(allA (rs.take i)).length≤rs.length*m:=by
 have:=allA_len (rows:=rs.take i) (fun row hr=>h row (List.mem_of_mem_take hr))
 have h2:(rs.take i).length≤rs.length:=by rw[List.length_take];omega
 exact Nat.le_trans this (Nat.mul_le_mul_right _ h2)
def TypF (f:List Nat) (W:World):Prop:= ∀k∈f,∃cs t,W.heap[k]?=some (.cells cs t (0,0))∧t≠79∧t≠51∧t≠55∧t≠166
theorem TypF.own {f:List Nat} {W W':World} (hf:TypF f W) (ho:Only f W W') {base size n:Nat} {e:TypeId} {v:Value} {xs:List Value} (h:W.ownsRow base e size v n xs) (he:e=79∨e=51∨e=55∨e=166):W'.ownsRow base e size v n xs:=
 ho.own h (fun k hk hm=>by
  obtain⟨_,cs,hc⟩:=own_typed h k hk
  obtain⟨cs',t,hc',n1,n2,n3,n4⟩:=hf k hm
  rcases he with rfl | rfl | rfl | rfl
  ·exact typ_ne hc' hc n1
  ·exact typ_ne hc' hc n2
  ·exact typ_ne hc' hc n3
  ·exact typ_ne hc' hc n4)
theorem TypF.row {f:List Nat} {W W':World} (hf:TypF f W) (ho:Only f W W') {N:Nat} {v1 v2:Value} {row:List (Int×NodeA)} (h:RowD W N v1 v2 row):RowD W' N v1 v2 row:=
 ⟨hf.own ho h.at' (Or.inr (Or.inl rfl)),hf.own ho h.nd (Or.inr (Or.inr (Or.inl rfl)))⟩
theorem TypF.blk {f:List Nat} {W W':World} (hf:TypF f W) (ho:Only f W W') {b:Nat} {cs:Array Value} (h:Blk W b 79 cs):Blk W' b 79 cs:=
 ho.blk h (fun hm=>by
  obtain⟨cs',t,hc',n1,_⟩:=hf b hm
  exact typ_ne hc' h n1)
theorem DkA.tput {w:World} {b6 b7:Nat} {h nn:Int} {pr:Value} {ps:List (Int×ByteArray)} {v:Value} {xs:List Int} {W:World} (H:DkA w b6 b7 h nn pr ps v xs W):TypF [b7] W:=fun k hk=>by
 have e:=List.mem_singleton.1 hk
 subst e
 exact⟨_,_,H.set.blk,by decide,by decide,by decide,by decide⟩
theorem DkA.tpair {w:World} {b6 b7:Nat} {h nn:Int} {pr:Value} {ps:List (Int×ByteArray)} {v:Value} {xs:List Int} {W:World} (H:DkA w b6 b7 h nn pr ps v xs W):TypF (b6::pr.ownBlock.toList) W:=fun k hk=>by
 rcases List.mem_cons.1 hk with e | e
 ·subst e
  exact⟨_,_,H.k6,by decide,by decide,by decide,by decide⟩
 ·obtain⟨_,cs,hc⟩:=own_typed H.prow k (by simpa[Option.mem_toList] using e)
  exact⟨cs,_,hc,by decide,by decide,by decide,by decide⟩
def restE (leaves:List (Int×NodeA)) (i:Nat):List (Int×Int):=((List.range leaves.length).drop i).flatMap (actI leaves)
theorem restE_zero (leaves:List (Int×NodeA)):restE leaves 0=allE leaves:=by unfold restE allE;rw[List.drop_zero]
theorem restE_end (leaves:List (Int×NodeA)):restE leaves leaves.length=[]:=by
 unfold restE
 rw[List.drop_eq_nil_of_le (by simp)];rfl
theorem restE_next {leaves:List (Int×NodeA)} {i:Nat} (hi:i<leaves.length):restE leaves i=actI leaves i++restE leaves (i+1):=by
 unfold restE
 rw[List.drop_eq_getElem_cons (by simpa using hi),List.flatMap_cons]
 simp
structure DkB (bs:List Int) (w:World) (N1 b6 b7 b10:Nat) (rs:List (List (Int×NodeA))) (leaves:List (Int×NodeA)) (a1 a2:Option Addr) (ml c1 c2:Nat) (pr:Value) (ps:List (Int×ByteArray)) (v:Value) (done rest:List (Int×Int)) (W:World):Prop where
 a:DkA w b6 b7 (rs.length-1:Int) (nodesI rs) pr ps v ((allA rs++done.map (·.2)).foldl insA []) W
 k10:Blk W b10 79 #[.slice a1 ml c1,.slice a2 ml c2]
 row:RowD W N1 (.slice a1 ml c1) (.slice a2 ml c2) leaves
 vt:VTo bs (allA rs) (allE leaves) done ps rest
section
variable {bs:List Int} {w:World} {N1 b6 b7 b10:Nat} {rs:List (List (Int×NodeA))} {leaves:List (Int×NodeA)} {a1 a2:Option Addr} {ml c1 c2:Nat} {pr:Value} {ps:List (Int×ByteArray)} {v:Value} {done rest:List (Int×Int)} {W W':World}
theorem DkB.bel2 (H:DkB bs w N1 b6 b7 b10 rs leaves a1 a2 ml c1 c2 pr ps v done rest W) (hb:Below W.heap.size W W'):DkB bs w N1 b6 b7 b10 rs leaves a1 a2 ml c1 c2 pr ps v done rest W':=
 ⟨H.a.bel2 hb,H.k10.bel hb,H.row.bel hb,H.vt⟩
end
theorem DLook_r (p:Option Addr) (cap:Nat) (bs:List Int) (n:Nat) (hn:n=bs.length) (hl:n≤1000000) (w:World) (h:BytesIn w p cap bs):
  Calls Tryz.prog 16 #[.slice p n cap] w (DLkPost bs w):=by
 obtain⟨W1,hW1⟩: ∃W1,W1=w.alloc (.cells #[.slice none 0 0,.slice none 0 0,.slice none 0 0,.slice none 0 0,.int .i64 0,.int .i64 0] 32):=⟨_,rfl⟩
 have hb1:Below w.heap.size w W1:=by rw[hW1];exact ba (Below.refl _ _) _
 have k2:Blk W1 w.heap.size 32 #[.slice none 0 0,.slice none 0 0,.slice none 0 0,.slice none 0 0,.int .i64 0,.int .i64 0]:=by rw[hW1];exact Blk.new _ _ _
 have RW:Hid (Calls Tryz.prog 24 #[.slice p n cap] W1 (DRwPost bs W1)):=by
  by_cases hs:0<slabsZ bs.length
  ·exact hid (DRows_r p cap bs n hn hs W1 (bytesBel h hb1))
  ·exact hid (DRows_no p cap bs n hn hs W1)
 have HN:=hid hn
 have H:=hid h
 have HB1:=hid (⟨hb1,k2⟩:_∧_)
 have HW:=hid hW1
 clear hn h hb1 k2 hW1
 go_enter Tryz.func16,Tryz.ntmps16
 go_upto_region 1 with fail
 rw[←HW.out]
 clear HW
 go_wp2_with fail
 refine RW.out.mono ?_
 rintro e w2 ⟨hb2,(⟨rs,oa,oc,hok,rfl,hrd⟩ | ⟨hno,rfl⟩)⟩
 ·obtain⟨K,hK⟩: ∃K,K=rs.length:=⟨_,rfl⟩
  rw[←hK] at hrd
  rw[←hK]
  have HFW:=hid (rows_few H.out.2.1 hok)
  have HK:=hid (⟨hK,by rw[hK];exact HFW.out.1,by rw[hK];exact HFW.out.2.1⟩:K=rs.length∧K≤16∧0<K)
  have HOK:=hid hok
  have hkw:IntKind.i64.wrap ((K:Int)-1)=(K:Int)-1:=by rw[IntWalk.i64_in _ (by have:=HK.out.2.1;constructor<;>omega)]
  have hbz:=rbld_h ((K:Int)-1) w2
  obtain⟨W3,hst3,k6,hb3⟩:=rep_new w2 ((K:Int)-1)
  obtain⟨W4,hW4⟩: ∃W4,W4=W3.alloc (.cells #[.slice none 0 0] 159):=⟨_,rfl⟩
  have hb4:Below W3.heap.size W3 W4:=by rw[hW4];exact ba (Below.refl _ _) _
  have k7:Blk W4 W3.heap.size 159 #[.slice none 0 0]:=by rw[hW4];exact Blk.new _ _ _
  obtain⟨b6,hb6⟩: ∃b6,b6=w2.heap.size:=⟨_,rfl⟩
  obtain⟨b7,hb7⟩: ∃b7,b7=W3.heap.size:=⟨_,rfl⟩
  have HI0:Hid (DkA w b6 b7 ((K:Int)-1) 0 (.slice none 0 0) [] (.slice none 0 0) [] W4∧RowsD W4 W1.heap.size (.slice oa K oc) rs):=by
   have z1:=HB1.out.2.lt
   have z2:=hb2.size
   have z3:=hb3.size
   have z6:=k6.lt
   refine hid ⟨⟨((HB1.out.2.bel hb2).bel hb3).bel hb4,by rw[hb6];exact k6.bel hb4,⟨by rw[hb7];exact k7,World.ownsRow_nil _ _ _ _,by have:=HB1.out.1.size;omega,by simp[Value.ownBlock]⟩,World.ownsRow_nil _ _ _ _,bx (bx (bx HB1.out.1 hb2) hb3) hb4,by omega,by omega⟩,(hrd.bel hb3).bel hb4⟩
  have HW4:=hid hW4
  have HBB:=hid (⟨hb6,hb7⟩:_∧_)
  clear hrd hb2 hb3 hb4 k6 k7 hK hok hW4 hb6 hb7
  go_upto_region 6 with fail
  rw[←HBB.out.2,←HW4.out,←HBB.out.1]
  clear HBB HW4 hst3 hbz
  obtain⟨go,e0⟩: ∃go,oa=some ⟨go,0,none⟩:=by
   obtain⟨g,_,_,_,_,e,_⟩:=HI0.out.2.ld HK.out.1 (i:=0) (row:=rs[0]'(by have:=HK.out;omega)) (List.getElem?_eq_getElem (by have:=HK.out;omega))
   exact⟨g,e⟩
  subst e0
  go_wp2
  go_loopw [8] (fun iv wr=> ∃(i:Nat) (v:Value),i≤K∧iv= .int .i64 (i:Int)∧Hid (DkA w b6 b7 ((K:Int)-1) (sumTo rs i) (.slice none 0 0) [] v ((allA (rs.take i)).foldl insA []) wr∧RowsD wr W1.heap.size (.slice (some ⟨go,0,none⟩) K oc) rs)) (fun iv _=>K- (intOf iv).toNat)
  case atStart=>exact⟨0,_,Nat.zero_le _,rfl,HI0⟩
  case round=>
   obtain⟨i,v,hi,rfl,hI⟩:=hrel
   obtain⟨wA,rfl⟩: ∃x,x=wr:=⟨_,rfl⟩
   by_cases hik:i<K
   ·obtain⟨row,hrow⟩: ∃row,rs[i]?=some row:=⟨_,List.getElem?_eq_getElem (by have:=HK.out.1;omega)⟩
    have i1:(i:Int)< (K:Int):=by omega
    have i0:(0:Int)≤(i:Int):=by omega
    obtain⟨m,hm⟩: ∃m,m=row.length:=⟨_,rfl⟩
    have HR:=hid (⟨hrow,hm,by rw[hm];exact HFW.out.2.2.1 row (List.mem_of_getElem? hrow)⟩:rs[i]?=some row∧m=row.length∧m≤8320)
    have HIK:=hid hik
    have hi16:i<16:=by have:=HK.out.2.1;omega
    have HI1:Hid (DkA w b6 b7 ((K:Int)-1) (sumTo rs i+((0:Nat):Int)) (.slice none 0 0) [] v ((allA (rs.take i)++(row.take 0).map (·.1)).foldl insA []) wA∧RowsD wA W1.heap.size (.slice (some ⟨go,0,none⟩) K oc) rs):=by
     have:=hI.out
     rw[List.take_zero,List.map_nil,List.append_nil,Int.natCast_zero,Int.add_zero]
     exact hid this
    clear hrow hm hik hi hI
    go_wp2
    go_loopw [9] (fun kv wr=> ∃(k:Nat) (v:Value),k≤m∧kv= .int .i64 (k:Int)∧Hid (DkA w b6 b7 ((K:Int)-1) (sumTo rs i+(k:Int)) (.slice none 0 0) [] v ((allA (rs.take i)++(row.take k).map (·.1)).foldl insA []) wr∧RowsD wr W1.heap.size (.slice (some ⟨go,0,none⟩) K oc) rs)) (fun kv _=>m- (intOf kv).toNat)
    case atStart=>exact⟨0,v,Nat.zero_le _,rfl,HI1⟩
    case round=>
     obtain⟨k,v,hk,rfl,hJ⟩:=hrel
     obtain⟨wB,rfl⟩: ∃x,x=wr:=⟨_,rfl⟩
     obtain⟨a1,c1,a2,c2,hoc,hld⟩:=hJ.out.2.ldg HK.out.1 HR.out.1
     obtain⟨hrd,y1,_,_⟩:=hld wB (Below.refl _ _)
     rw[←HR.out.2.1] at y1 hrd
     by_cases hkm:k<m
     ·obtain⟨x,hx⟩: ∃x,row[k]?=some x:=⟨_,List.getElem?_eq_getElem (by have:=HR.out.2.1;omega)⟩
      have k1:(k:Int)< (m:Int):=by omega
      have k0:(0:Int)≤(k:Int):=by omega
      obtain⟨ga,e1,hac,y2⟩:=hrd.addr HR.out.2.1 hx
      subst e1
      have hfew:((allA (rs.take i)++(row.take k).map (·.1)).foldl insA []).length≤1000000:=by
       have q1:=fold_len (allA (rs.take i)++(row.take k).map (·.1)) []
       have q2:=take_few HFW.out.2.2.1 i
       have q3:rs.length*8320≤16*8320:=Nat.mul_le_mul_right _ HFW.out.1
       have q4:(row.take k).length≤m:=by rw[List.length_take];have:=HR.out.2.1;omega
       rw[List.length_append,List.length_map,List.length_nil] at q1
       have:=HR.out.2.2
       omega
      have hx0:=HFW.out.2.2.2 row (List.mem_of_getElem? HR.out.1) x (List.mem_of_getElem? hx)
      have PT:=hid (APut_r w.heap.size b7 v _ x.1 wB hJ.out.1.set hJ.out.1.bel.size hfew hx0.2)
      have HX:=hid (⟨hx,by rw[List.take_add_one,hx,List.map_append];rfl⟩:row[k]?=some x∧(row.take (k+1)).map (·.1)=(row.take k).map (·.1)++[x.1])
      have HKM:=hid hkm
      have hk8:k<8320:=by have:=HR.out.2.2;omega
      clear hx hkm hk hfew hx0 hrd hld
      go_wp2_with fail
      refine PT.out.mono ?_
      rintro e w5 ⟨⟨r,rfl⟩,⟨v',hset,_⟩,ho⟩
      have hA5:=hJ.out.1.put hset ho
      have hR5:=hJ.out.2.typ1 hJ.out.1.set.blk ho (by decide) (by decide) (by decide)
      obtain⟨hA6,ho6⟩:=hA5.node (sumTo rs i+(k:Int)+1)
      have hR6:=hR5.typ1 hA5.k6 ho6 (by decide) (by decide) (by decide)
      have z5:w5.cell? ⟨b6,5,none⟩=some (.int .i64 (sumTo rs i+(k:Int))):=hA5.k6.cell 5
      have zf:=hA5.k6.frozen 5
      have HN6:Hid (DkA w b6 b7 ((K:Int)-1) (sumTo rs i+((k+1:Nat):Int)) (.slice none 0 0) [] v' ((allA (rs.take i)++(row.take (k+1)).map (·.1)).foldl insA []) (w5.setCell ⟨b6,5,none⟩ (.int .i64 (sumTo rs i+(k:Int)+1)))∧RowsD (w5.setCell ⟨b6,5,none⟩ (.int .i64 (sumTo rs i+(k:Int)+1))) W1.heap.size (.slice (some ⟨go,0,none⟩) K oc) rs):=by
       rw[HX.out.2,←List.append_assoc,List.foldl_append,show sumTo rs i+((k+1:Nat):Int)=sumTo rs i+(k:Int)+1 by omega]
       exact hid ⟨hA6,hR6⟩
      have hsm:=sumTo_le HFW.out.2.2.1 i (by have:=HK.out.1;have:=HIK.out;omega)
      have hsm2:0≤sumTo rs i∧sumTo rs i≤133120:=by
       have q3:(i:Int)*((8320:Nat):Int)≤16*8320:=by omega
       omega
      have wsm:IntKind.i64.wrap (sumTo rs i+(k:Int)+1)=sumTo rs i+(k:Int)+1:=by rw[IntWalk.i64_in _ (by constructor<;>omega)]
      clear hset ho hA5 hR5 hA6 ho6 hR6 hsm hJ
      go_wp2
      go_roundw
      case rel=>exact⟨k+1,v',HKM.out,by go_num,HN6⟩
      case measure=>simp[intOf];have:=HKM.out;omega
     ·obtain rfl:k=m:=by omega
      have k1: ¬(k:Int)< (k:Int):=by omega
      have HN:Hid (DkA w b6 b7 ((K:Int)-1) (sumTo rs (i+1)) (.slice none 0 0) [] v ((allA (rs.take (i+1))).foldl insA []) wB∧RowsD wB W1.heap.size (.slice (some ⟨go,0,none⟩) K oc) rs):=by
       have:=hJ.out
       have e:=HR.out.2.1
       rw[sumTo_succ HR.out.1,allA_take HR.out.1,←e]
       rw[e,List.take_length,←e] at this
       exact hid this
      clear hk hkm hJ
      go_wp2
      go_roundw
      case rel=>exact⟨i+1,v,HIK.out,by go_num,HN⟩
      case measure=>simp[intOf];have:=HIK.out;omega
   ·obtain rfl:K=i:=by omega
    have i1: ¬(K:Int)< (K:Int):=by omega
    obtain⟨q,hq⟩: ∃q,K-1=q:=⟨_,rfl⟩
    obtain⟨leaves,hlv⟩: ∃leaves,rs[q]?=some leaves:=⟨_,List.getElem?_eq_getElem (by have:=HK.out;omega)⟩
    have HGL:=hid (show rs.getLast?=some leaves by rw[List.getLast?_eq_getElem?,←HK.out.1,hq];exact hlv)
    have hkw2:IntKind.i64.wrap ((K:Int)-1)=(q:Int):=by rw[hkw];have:=HK.out.2.2;omega
    have q0:(0:Int)≤(q:Int):=by omega
    have q1:(q:Int)< (K:Int):=by have:=HK.out.2.2;omega
    obtain⟨a1,c1,a2,c2,hoc,hld⟩:=hI.out.2.ldg HK.out.1 hlv
    obtain⟨hrd,_,_,hl1⟩:=hld wA (Below.refl _ _)
    obtain⟨ml,hml⟩: ∃ml,ml=leaves.length:=⟨_,rfl⟩
    rw[←hml] at hrd hl1
    obtain⟨W5,hst5,k10,hb5⟩:=drow_new wA a1 a2 ml c1 ml c2
    have HML:=hid (⟨hml,by rw[hml];exact HFW.out.2.2.1 leaves (List.mem_of_getElem? hlv)⟩:ml=leaves.length∧ml≤8320)
    have HI5:Hid (DkB bs w W1.heap.size b6 b7 wA.heap.size rs leaves a1 a2 ml c1 c2 (.slice none 0 0) [] v [] (restE leaves 0) W5):=by
     have h1:=hI.out.1
     rw[HK.out.1,sumTo_all,List.take_length] at h1
     refine hid ⟨?_,k10,hrd.bel hb5,by rw[restE_zero];exact VTo.start _ _ _⟩
     rw[List.map_nil,List.append_nil]
     exact h1.bel2 hb5
    have HNV:=hid (show(∀qs,¬ValsAt bs (allA rs) (allE leaves) qs)→ ∀rs' ps',¬WholeOK bs rs' ps' from fun hn rs' ps' hw=>by
     obtain⟨n1,hn1,hr1⟩:=hw.rows
     obtain⟨n2,hn2,hr2⟩:=HOK.out.2.2
     rw[hn1] at hn2
     injection hn2 with hn2
     subst hn2
     have e:=hr1.det hr2
     subst e
     obtain⟨lv,h1,h2⟩:=hw.vals
     rw[HGL.out] at h1
     injection h1 with h1
     subst h1
     exact hn _ h2)
    obtain⟨b10,hb10⟩: ∃b10,b10=wA.heap.size:=⟨_,rfl⟩
    rw[←hb10] at HI5
    have HB10:=hid hb10
    clear hkw hq hlv hld hrd hml k10 hb5 hI hi hik hoc hb10
    go_upto_region 15 with fail
    rw[←HB10.out]
    clear HB10 hst5 hl1
    go_wp2
    go_loopw [11] (fun iv wr=> ∃(i:Nat) (pr:Value) (ps:List (Int×ByteArray)) (v:Value) (done:List (Int×Int)),i≤ml∧iv= .int .i64 (i:Int)∧Hid (DkB bs w W1.heap.size b6 b7 b10 rs leaves a1 a2 ml c1 c2 pr ps v done (restE leaves i) wr)) (fun iv _=>ml- (intOf iv).toNat)
    case atStart=>exact⟨0,_,_,_,_,Nat.zero_le _,rfl,HI5⟩
    case round=>
     obtain⟨i,pr,ps,v,done,hi,rfl,hI⟩:=hrel
     obtain⟨wA,rfl⟩: ∃x,x=wr:=⟨_,rfl⟩
     have y10:wA.cell? ⟨b10,1,none⟩=some (.slice a2 ml c2):=hI.out.k10.cell 1
     by_cases him:i<ml
     ·obtain⟨x,hx⟩: ∃x,leaves[i]?=some x:=⟨_,List.getElem?_eq_getElem (by have:=HML.out.1;omega)⟩
      have i1:(i:Int)< (ml:Int):=by omega
      have i0:(0:Int)≤(i:Int):=by omega
      have hld:=drow_ld hI.out.k10
      have HG:=hid (DHigh_r _ ml c1 c2 a1 a2 leaves i wA hI.out.row HML.out.1 (by have:=HML.out.2;omega) him)
      have HX:=hid (⟨hx,him⟩:leaves[i]?=some x∧i<ml)
      have hi83:i<8320:=by have:=HML.out.2;omega
      clear hx him hi
      go_wp2_with fail
      refine HG.out.mono ?_
      rintro e w4 ⟨rfl,hb4⟩
      obtain⟨hh,hhe⟩: ∃hh,hh=highI leaves i:=⟨_,rfl⟩
      obtain⟨hs,hse⟩: ∃hs,hs=hasI leaves i:=⟨_,rfl⟩
      rw[←hhe,←hse]
      have HAC:=hid (show actI leaves i=activeN x.2 hh hs by
       unfold actI
       rw[HX.out.1,hhe,hse];rfl)
      have HI4:=hid (hI.out.bel2 hb4)
      have y10':w4.cell? ⟨b10,1,none⟩=some (.slice a2 ml c2):=HI4.out.k10.cell 1
      obtain⟨g2,e2,hc2,hcell⟩:=HI4.out.row.nodeL HML.out.1 HX.out.1
      subst e2
      have hln:=(hcell w4 (Below.refl _ _)).2
      have ACT:=hid (RNActive_r x.2 hh hs w4)
      clear hcell hc2 hb4 hhe hse y10 hld hI
      go_wp2_with fail
      refine ACT.out.mono ?_
      rintro e w5 ⟨lv,rfl,hlown,hb5⟩
      obtain⟨la,lc,rfl⟩:=row_form1 hlown
      obtain⟨l,hle⟩: ∃l,l=activeN x.2 hh hs:=⟨_,rfl⟩
      rw[←hle] at hlown HAC
      rw[←hle]
      obtain⟨m,hm⟩: ∃m,m=l.length:=⟨_,rfl⟩
      rw[←hm] at hlown
      rw[←hm]
      have HL:=hid (⟨hm,by rw[hm,hle];exact act_len8 _ _ _⟩:m=l.length∧m≤8)
      have HI5:Hid (DkB bs w W1.heap.size b6 b7 b10 rs leaves a1 (some ⟨g2,0,none⟩) ml c1 c2 pr ps v done (l.drop 0++restE leaves (i+1)) w5∧w5.ownsRow w4.heap.size 166 2 (.slice la m lc) m (l.flatMap entC)):=by
       have h1:=HI4.out.bel2 hb5
       rw[restE_next (by have:=HX.out.2;have:=HML.out.1;omega),HAC.out] at h1
       rw[List.drop_zero]
       exact hid ⟨h1,hlown⟩
      have HU:=hid (fun(y:Int×Int) (hy:y∈l)=>act_U64 H.out.2.1 (HFW.out.2.2.2 leaves (List.mem_of_getLast? HGL.out) x (List.mem_of_getElem? HX.out.1)).1 (by rw[←hle];exact hy))
      clear hlown hb5 hle hm hln y10' HI4
      go_wp2
      go_loopw [15] (fun qv wr=> ∃(q:Nat) (pr:Value) (ps:List (Int×ByteArray)) (v:Value) (done:List (Int×Int)),q≤m∧qv= .int .i64 (q:Int)∧Hid (DkB bs w W1.heap.size b6 b7 b10 rs leaves a1 (some ⟨g2,0,none⟩) ml c1 c2 pr ps v done (l.drop q++restE leaves (i+1)) wr∧wr.ownsRow w4.heap.size 166 2 (.slice la m lc) m (l.flatMap entC))) (fun qv _=>m- (intOf qv).toNat)
      case atStart=>exact⟨0,pr,ps,v,done,Nat.zero_le _,rfl,HI5⟩
      case round=>
       obtain⟨q,pr,ps,v,done,hq,rfl,hJ⟩:=hrel
       obtain⟨wB,rfl⟩: ∃x,x=wr:=⟨_,rfl⟩
       by_cases hqm:q<m
       ·obtain⟨y,hy⟩: ∃y,l[q]?=some y:=⟨_,List.getElem?_eq_getElem (by have:=HL.out.1;omega)⟩
        have q1:(q:Int)< (m:Int):=by omega
        have q0:(0:Int)≤(q:Int):=by omega
        obtain⟨g,cg,e3,_,hmc,hgl,hgc⟩:=own_someN hJ.out.2 (by omega)
        injection e3 with e3 _ e4
        subst e3 e4
        have hE:=EntsAt.of_own (by have:=hJ.out.2;rw[HL.out.1] at this;exact this)
        have y1:wB.cell? ⟨g,q*2,none⟩=some (.int .u64 y.1):=by have:=hgc (q*2) _ (entL_at l q y hy).1;rwa[Nat.zero_add] at this
        have y2:wB.cell? ⟨g,q*2+1,none⟩=some (.int .u64 y.2):=by have:=hgc (q*2+1) _ (entL_at l q y hy).2;rwa[Nat.zero_add] at this
        have hyU:=HU.out y (List.mem_of_getElem? hy)
        have hdq:l.drop q++restE leaves (i+1)=y::(l.drop (q+1)++restE leaves (i+1)):=by
         have hql:=(List.getElem?_eq_some_iff.1 hy).1
         rw[List.drop_eq_getElem_cons hql,(List.getElem?_eq_some_iff.1 hy).2];rfl
        have hV:=hJ.out.1.vt
        rw[hdq] at hV
        obtain⟨R,hR⟩: ∃R,R=allA rs++done.map (·.2):=⟨_,rfl⟩
        obtain⟨X,hX⟩: ∃X,X=R.foldl insA []:=⟨_,rfl⟩
        have hXm: ∀a,a∈X↔a∈R:=fun a=>by rw[hX,(dset_fold R [] List.Pairwise.nil).2];simp
        have hA:=hJ.out.1.a
        rw[←hR,←hX] at hA
        have hXl:X.length≤1000000∧ps.length≤1000000:=by
         have q1:=fold_len R []
         have q2:=take_few HFW.out.2.2.1 rs.length
         have q3:rs.length*8320≤16*8320:=Nat.mul_le_mul_right _ HFW.out.1
         have q4:=allE_len leaves
         have q5:=HML.out
         have q6:done.length≤(allE leaves).length:=by rw[hV.all];simp
         have q7:=hV.len
         rw[List.take_length] at q2
         rw[←hX,List.length_nil,hR,List.length_append,List.length_map] at q1
         omega
        have CLS:=RClass_r p cap bs n HN.out hl y.2 hyU wB (bytesBel H.out hA.bel)
        obtain⟨c,hc⟩: ∃c,c=clsI bs y.2:=⟨_,rfl⟩
        rw[←hc] at CLS
        have CLS:=hid CLS
        have HAS:=hid (AHas_r w.heap.size b7 v X y.2 wB hA.set (by have:=hXl.1;omega))
        have HV:=hid (⟨hV,hyU,hR,hX,hXm,hXl,hc⟩:_∧_∧_∧_∧_∧_∧_)
        have HAA:=hid hA
        have HQM:=hid hqm
        have HYL:=hid hy
        have HNO2:=hid (fun(hno: ∀s,¬ValOK bs R y s)=>HNV.out (hV.no (by rw[←hR];exact hno)))
        have hq8:q<8:=by have:=HL.out.2;omega
        clear hy hE hyU hdq hV hR hX hXm hA hXl hc hqm hq hgc hgl
        go_wp2_with fail
        refine CLS.out.mono ?_
        rintro e w5 ⟨rfl,rfl⟩
        go_upto_region 24 with fail
        go_cut [122] from 108 to 122 (fun s wc=>s= .bool (decide (¬(c=1∨c=2)∨y.2∈X))∧Hid (wc=wB))
        case first=>
         by_cases h1:c=1
         ·have b1:(c !=1)=false:=by simp[h1]
          have HD:=hid (show decide (¬(c=1∨c=2)∨y.2∈X)=decide (y.2∈X) by simp[h1])
          clear h1
          go_wp2_with fail
          refine HAS.out.mono ?_
          rintro e w1 ⟨rfl,rfl⟩
          go_wp2_with fail
          go_meet
          exact⟨by rw[HD.out],rfl⟩
         ·by_cases h2:c=2
          ·have b1:(c !=1)=true:=by simp[h2]
           have b2:(c !=2)=false:=by simp[h2]
           have HD:=hid (show decide (¬(c=1∨c=2)∨y.2∈X)=decide (y.2∈X) by simp[h2])
           clear h1 h2
           go_wp2_with fail
           refine HAS.out.mono ?_
           rintro e w1 ⟨rfl,rfl⟩
           go_wp2_with fail
           go_meet
           exact⟨by rw[HD.out],rfl⟩
          ·have b1:(c !=1)=true:=by simpa using h1
           have b2:(c !=2)=true:=by simpa using h2
           have HD:=hid (show decide (¬(c=1∨c=2)∨y.2∈X)=true by simp[h1,h2])
           clear h1 h2
           go_wp2_with fail
           go_meet
           exact⟨by rw[HD.out],rfl⟩
        case rest=>
         obtain⟨rfl,hwc⟩:=hcut
         obtain rfl:=hwc.out
         clear hwc
         have HEX:Hid (∀(W:World),Blk W w.heap.size 32 rep0→Below w.heap.size w W→(∀rs' ps',¬WholeOK bs rs' ps')→(stR Tryz.prog 32 (.pointer (some ⟨w.heap.size,0,none⟩)) (.agg rep0) W= .ok () W∧lvR Tryz.prog 32 ⟨w.heap.size,0,none⟩ W= .ok (.agg rep0) W∧DLkPost bs w (.returned (.tuple #[.agg rep0,.int .i64 6])) W)):=hid fun W hk hb hno=>⟨hk.st_same (P:=Tryz.prog) (ty:=32) (by kernel_rfl) (by kernel_rfl),hk.lv (P:=Tryz.prog) (ty:=32) Tryz.underlying32 rfl (by kernel_rfl),hb,Or.inr ⟨hno,rfl⟩⟩
         by_cases hbad: ¬(c=1∨c=2)∨y.2∈X
         ·rw[decide_eq_true hbad]
          have hbz:=rbld_zero wc
          obtain⟨hst,hlv,hF⟩:=HEX.out wc HAA.out.k2 HAA.out.bel (HNO2.out (fun s hs=>by
           rcases hbad with h | h
           ·exact h (by rw[HV.out.2.2.2.2.2.2];exact hs.2.1)
           ·exact hs.1 ((HV.out.2.2.2.2.1 y.2).1 h)))
          have HF:=hid hF
          clear hbad hF y1 y2
          go_wp2
          refine bodyPost_ret (v:= .tuple #[.agg rep0,.int .i64 6]) (results_cellv_tmp rfl _ _ _ _ _ rfl rfl hlv) rfl ?_
          exact HF.out
         ·rw[decide_eq_false hbad]
          have h12:c=1∨c=2:=Classical.byContradiction fun h=>hbad (Or.inl h)
          have hin:y.2∉X:=fun h=>hbad (Or.inr h)
          obtain⟨k,hak,hk,hk0⟩:=cls12_in HV.out.2.2.2.2.2.2.symm h12 HV.out.2.1.1 HOK.out.1.1
          obtain⟨m8,hm8⟩: ∃m8,m8=8*c.toNat:=⟨_,rfl⟩
          have w8:IntKind.i64.wrap (8*c)=(m8:Int):=by rw[IntWalk.i64_in _ (by rcases h12 with h | h<;>rw[h]<;>decide)];rcases h12 with h | h<;>rw[hm8,h]<;>decide
          have WD:=RWords_b p cap bs n HN.out hl (8*k) m8 (by have:=HN.out;omega) wc (bytesBel H.out HAA.out.bel)
          have ea:((8*k:Nat):Int)=y.2:=by omega
          rw[ea] at WD
          obtain⟨s,ev,hse⟩:=parseV_two c (blkN bs y.2)
          have PA:=hid (fun(N:Nat) (v:Value) (W:World) (h:rowW W N v (wordsFr bs y.2 m8))=>(show Calls Tryz.prog 77 #[.int .i64 c,v] W fun e w'=>e= .returned (.tuple #[.string s,.int .i64 ev])∧Below W.heap.size W w' from by
           have:=DParse_z H.out.2.1 y.2 k c HV.out.2.2.2.2.2.2.symm h12 hak hk W (by rw[←hm8];exact h)
           rw[hse] at this
           exact this))
          have WD:=hid WD
          have H12:=hid (⟨h12,hin,hse,by omega⟩:(c=1∨c=2)∧y.2∉X∧parseV c (blkN bs y.2)= .tuple #[.string s,.int .i64 ev]∧y.2≠0)
          clear h12 hin hak hk hk0 hm8 ea hse hbad
          go_wp2_with fail
          refine WD.out.mono ?_
          rintro e w6 ⟨hb6,u,rfl,hu⟩
          have PA6:=hid (PA.out _ _ _ hu)
          clear hu
          go_wp2_with fail
          refine PA6.out.mono ?_
          rintro e w7 ⟨rfl,hb7⟩
          have HA7:=hid ((HAA.out.bel2 hb6).bel2 hb7)
          have HB7:=hid (bx hb6 hb7)
          have y1':w7.cell? ⟨g,q*2,none⟩=some (.int .u64 y.1):=(HB7.out.cell (p:=⟨g,q*2,none⟩) (World.block_lt_of_cell? wc _ y1)).trans y1
          have y2':w7.cell? ⟨g,q*2+1,none⟩=some (.int .u64 y.2):=(HB7.out.cell (p:=⟨g,q*2+1,none⟩) (World.block_lt_of_cell? wc _ y2)).trans y2
          clear hb6 hb7 y1 y2
          by_cases hev:ev=0
          ·have be:(ev !=0)=false:=by simp[hev]
           have PT:=hid (APut_r w.heap.size b7 v X y.2 w7 HA7.out.set HA7.out.bel.size HV.out.2.2.2.2.2.1.1 H12.out.2.2.2)
           have HEV:=hid hev
           clear hev
           go_wp2_with fail
           refine PT.out.mono ?_
           rintro e w8b ⟨⟨r,rfl⟩,⟨v',hset,_⟩,ho⟩
           have hA8:=HA7.out.put hset ho
           obtain⟨va,vc,w9,hrun,z0,zf,hA9,ho9⟩:=hA8.pair (y.1,s) HV.out.2.2.2.2.2.1.2
           have t7:=HA7.out.tput
           have t8:=hA8.tpair
           have k10':=t8.blk ho9 (t7.blk ho (hJ.out.1.k10.bel HB7.out))
           have row':=t8.row ho9 (t7.row ho (hJ.out.1.row.bel HB7.out))
           have own8:=t7.own ho ((Only.of_below HB7.out []).own hJ.out.2 (by simp)) (Or.inr (Or.inr (Or.inr rfl)))
           have own9:=t8.own ho9 own8 (Or.inr (Or.inr (Or.inr rfl)))
           have ee:(allA rs++(done++[y]).map (·.2)).foldl insA []=insA X y.2:=by
            rw[List.map_append,←List.append_assoc,List.foldl_append,←HV.out.2.2.1,←HV.out.2.2.2.1];rfl
           have vt':=HV.out.1.next (s:=s) ⟨by rw[←HV.out.2.2.1];exact fun h=>H12.out.2.1 ((HV.out.2.2.2.2.1 y.2).2 h),by rw[←HV.out.2.2.2.2.2.2];exact H12.out.1,by rw[←HV.out.2.2.2.2.2.2,H12.out.2.2.1,HEV.out]⟩
           obtain⟨W9,hW9⟩: ∃W9,W9=w9.setCell ⟨b6,0,none⟩ (.slice va (ps.length+1) vc):=⟨_,rfl⟩
           rw[←hW9] at hA9 k10' row' own9
           have HN9:Hid (DkB bs w W1.heap.size b6 b7 b10 rs leaves a1 (some ⟨g2,0,none⟩) ml c1 c2 (.slice va (ps.length+1) vc) (ps++[(y.1,s)]) v' (done++[y]) (l.drop (q+1)++restE leaves (i+1)) W9∧W9.ownsRow w4.heap.size 166 2 (.slice (some ⟨g,0,none⟩) m lc) m (l.flatMap entC)):=hid ⟨⟨by rw[ee];exact hA9,k10',row',vt'⟩,own9⟩
           have y18:w8b.cell? ⟨g,q*2,none⟩=some (.int .u64 y.1):=by
            obtain⟨g',cg',e3,_,_,_,hgc⟩:=own_someN own8 (by have:=HQM.out;omega)
            injection e3 with e3
            injection e3 with e3
            injection e3 with e3
            have:=hgc (q*2) _ (entL_at l q y HYL.out).1
            rw[Nat.zero_add,←e3] at this
            exact this
           have y18d:w8b.drew.cell? ⟨g,q*2,none⟩=some (.int .u64 y.1):=y18
           have g0:w8b.cell? ⟨b6,0,none⟩=some pr:=hA8.k6.cell 0
           have g0d:w8b.drew.cell? ⟨b6,0,none⟩=some pr:=g0
           have g0a:(w8b.alloc (.cells #[.int .u64 y.1,.string s] 48)).drew.cell? ⟨b6,0,none⟩=some pr:=(hA8.k6.alloc _).cell 0
           have HRUN:=hid hrun
           have HW9:=hid hW9
           clear hset ho hA8 hrun hA9 ho9 t7 t8 k10' row' own8 own9 ee vt' hW9 y1' y2' y18d
           go_wp2_with fail
           refine Code.wp_mono (Q:=CalmL _) CalmL.imp ?_
           refine share (X:= ?X) (fun key=> ?_) ?_
           rotate_left
           ·go_region_law (refine step_append_runI rfl (.tmp 149) (.tmp 157) 29 29 rfl _ _ (by simp[Act.eval,Act.put]) (by simp[Act.eval,Act.put]) HRUN.out ?_)
            all_goals
             try go_simp
             try simp only[Act.put,List.setIfInBounds_toArray,List.set_cons_zero,List.set_cons_succ]
             exact key.out
           refine CalmL.normal ?_
           rw[←HW9.out]
           go_wp2
           go_roundw
           case rel=>exact⟨q+1,_,_,_,_,HQM.out,by go_num,HN9⟩
           case measure=>simp[intOf];have:=HQM.out;omega
          ·have be:(ev !=0)=true:=by simpa using hev
           have hbz:=rbld_zero w7
           obtain⟨hst,hlv,hF⟩:=HEX.out w7 HA7.out.k2 HA7.out.bel (HNO2.out (fun s' hs=>hev (by
            have:=hs.2.2
            rw[←HV.out.2.2.2.2.2.2,H12.out.2.2.1] at this
            injection this with this
            have:=congrArg (fun a:Array Value=>a[1]?) this
            simpa using this)))
           have HF:=hid hF
           clear hev hF y1' y2'
           go_wp2
           refine bodyPost_ret (v:= .tuple #[.agg rep0,.int .i64 6]) (results_cellv_tmp rfl _ _ _ _ _ rfl rfl hlv) rfl ?_
           exact HF.out
       ·obtain rfl:q=m:=by omega
        have q1: ¬(q:Int)< (q:Int):=by omega
        have HN2:Hid (DkB bs w W1.heap.size b6 b7 b10 rs leaves a1 (some ⟨g2,0,none⟩) ml c1 c2 pr ps v done (restE leaves (i+1)) wB):=by
         have h1:=hJ.out.1
         rw[HL.out.1,List.drop_length,List.nil_append] at h1
         exact hid h1
        clear hq hqm hJ
        go_wp2
        go_roundw
        case rel=>exact⟨i+1,pr,ps,v,done,HX.out.2,by go_num,HN2⟩
        case measure=>simp[intOf];have:=HX.out.2;omega
     ·obtain rfl:ml=i:=by omega
      have i1: ¬(ml:Int)< (ml:Int):=by omega
      have hvd:=hI.out.vt
      rw[HML.out.1,restE_end] at hvd
      obtain⟨hvals,hde⟩:=hvd.done
      subst hde
      have HWK:=hid (show WholeOK bs rs ps from⟨HOK.out.1,HOK.out.2.1,HOK.out.2.2,leaves,HGL.out,hvals⟩)
      obtain⟨X,hX⟩: ∃X,X=reachI rs leaves:=⟨_,rfl⟩
      have hA:=hI.out.a
      have hX':(allA rs++(allE leaves).map (·.2)).foldl insA []=X:=hX.symm
      rw[hX'] at hA
      obtain⟨va,vc,rfl⟩:=row_form1 hA.set.row
      obtain⟨pa,pc,rfl⟩:=row_form1 hA.prow
      obtain⟨xn,hxn⟩: ∃xn,xn=X.length:=⟨_,rfl⟩
      obtain⟨pn,hpn⟩: ∃pn,pn=ps.length:=⟨_,rfl⟩
      rw[←hxn,←hpn] at hA
      have hxl:X.length≤1000000:=by
       have q1:=fold_len (allA rs++(allE leaves).map (·.2)) []
       have q2:=take_few HFW.out.2.2.1 rs.length
       have q3:rs.length*8320≤16*8320:=Nat.mul_le_mul_right _ HFW.out.1
       have q4:=allE_len leaves
       have q5:=HML.out
       rw[List.take_length] at q2
       rw[hX',List.length_nil,List.length_append,List.length_map] at q1
       omega
      have y6:wA.cell? ⟨b7,0,none⟩=some (.slice va xn vc):=hA.set.blk.cell 0
      have x61:wA.cell? ⟨b6,1,none⟩=some (.slice none 0 0):=hA.k6.cell 1
      have x6f:=hA.k6.frozen 1
      obtain⟨W10,hW10⟩: ∃W10,W10=wA.setCell ⟨b6,1,none⟩ (.slice va xn vc):=⟨_,rfl⟩
      have o10:Only [b6] wA W10:=by rw[hW10];exact(Only.refl _ _).setCell (Or.inl (by simp)) _
      have k10:Blk W10 b6 32 #[.slice pa pn pc,.slice va xn vc,.slice none 0 0,.slice none 0 0,.int .i64 (rs.length-1:Int),.int .i64 (nodesI rs)]:=by rw[hW10];exact hA.k6.set_ 1 _
      have hlt:=hA.lt
      have set10:AddrsIs W10 w.heap.size b7 (.slice va xn vc) X:=hA.set.only o10 (by simp;omega) (fun k hk hm=>by
       obtain⟨_,cs,hc⟩:=own_typed hA.set.row k hk
       rw[List.mem_singleton.1 hm] at hc
       exact typ_ne hA.k6 hc (by decide))
      have prow10:=o10.own hA.prow (fun k hk hm=>by
       obtain⟨_,cs,hc⟩:=own_typed hA.prow k hk
       rw[List.mem_singleton.1 hm] at hc
       exact typ_ne hA.k6 hc (by decide))
      have k210:=o10.blk hA.k2 (by simp;omega)
      have bel10:=hA.bel.trans (o10.below (B:=w.heap.size) (fun x hx=>by simp at hx;omega) hA.bel.size)
      have hsl:=slabs_len HOK.out.1.1
      obtain⟨ns,hns⟩: ∃ns:Nat,slabsZ bs.length=ns:=⟨(slabsZ bs.length).toNat,by omega⟩
      have hnsI:nsI bs=ns:=by unfold nsI;omega
      have OF:=ROf_r p cap bs ns (by omega) (by omega) W10 (bytesBel H.out bel10)
      rw[←HN.out] at OF
      have OF:=hid OF
      have HP:=hid (⟨k10,set10,prow10,k210,bel10,hlt⟩:_∧_∧_∧_∧_∧_)
      have HNS:=hid (⟨hnsI,fun i h1 h2=>HOK.out.1.2 i h1 (by omega),by omega⟩:nsI bs=ns∧(∀i,1≤i→i≤ns→headOK bs i=true)∧1≤ns∧ns≤64)
      have HXN:=hid (⟨hX,hxn,hpn,hxl⟩:_∧_∧_∧_)
      have HW10:=hid hW10
      clear hvd hvals hX hX' hA hxn hpn hxl o10 k10 set10 prow10 k210 bel10 hsl hns hnsI hW10 him hi hlt HI0 HI5
      go_wp2_with fail
      rw[←HW10.out]
      refine OF.out.mono ?_
      intro e w11 hp
      obtain⟨gw,vC,vL,rfl,hwd⟩:=hp.yes HNS.out.2.1
      have HB11:=hid hp.bel
      have US:=WUsed_r _ gw _ _ _ vC vL w11 hwd (by have:=refL_len bs ns;have:=HNS.out.2.2;omega) (fun x hx=>by
       have h1:x.1∈refA bs ns:=by rw[←refA_eq];exact List.mem_map.2 ⟨x,hx,rfl⟩
       have:=refA_in HNS.out.2.2.2 HNS.out.2.1 x.1 h1
       omega)
      rw[usedI_ref HNS.out.2.2.2 HNS.out.2.1] at US
      have US:=hid US
      clear hwd hp
      go_wp2_with fail
      refine US.out.mono ?_
      rintro e w12 ⟨⟨uv,rfl,huv⟩,hb12⟩
      obtain⟨U,hU⟩: ∃U,U=refA bs ns:=⟨_,rfl⟩
      rw[←hU] at huv
      obtain⟨ua,uc,rfl⟩:=row_form1 huv
      obtain⟨un,hun⟩: ∃un,un=U.length:=⟨_,rfl⟩
      rw[←hun] at huv
      obtain⟨W13,hW13⟩: ∃W13,W13=w12.alloc (.cells #[.slice ua un uc] 159):=⟨_,rfl⟩
      have hb13:Below w12.heap.size w12 W13:=by rw[hW13];exact ba (Below.refl _ _) _
      have HB13:=hid (bx (bx HB11.out hb12) hb13)
      obtain⟨b21,hb21⟩: ∃b21,b21=w12.heap.size:=⟨_,rfl⟩
      have HZ:Hid (w.heap.size≤W10.heap.size∧W10.heap.size≤w11.heap.size∧w11.heap.size≤b21∧b6<W10.heap.size):=hid ⟨HP.out.2.2.2.2.1.size,HB11.out.size,by rw[hb21];exact hb12.size,HP.out.1.lt⟩
      have HS:Hid (AddrsIs W13 w.heap.size b7 (.slice va xn vc) X∧AddrsIs W13 w11.heap.size b21 (.slice ua un uc) U∧W13.ownsRow w.heap.size 48 2 (.slice pa pn pc) ps.length (ps.flatMap pairC)∧Blk W13 w.heap.size 32 #[.slice none 0 0,.slice none 0 0,.slice none 0 0,.slice none 0 0,.int .i64 0,.int .i64 0]∧Below w.heap.size w W13):=by
       have z:=HZ.out
       refine hid ⟨HP.out.2.1.bel HB13.out,⟨?_,?_,by omega,?_⟩,(Only.of_below HB13.out []).own HP.out.2.2.1 (by simp),HP.out.2.2.2.1.bel HB13.out,bx HP.out.2.2.2.2.1 HB13.out⟩
       ·rw[hW13,hb21];exact Blk.new _ _ _
       ·have:=(Only.of_below hb13 []).own huv (by simp)
        rw[hun] at this ⊢
        exact this
       ·intro e
        have:=(huv.lt b21 e).2
        omega
      have HD0:Hid (DkF W13 b6 (.slice pa pn pc) (.slice va xn vc) (.slice none 0 0) (.slice none 0 0) (rs.length-1:Int) (nodesI rs) ((X.take 0).filter fun a=>decide (a∉U)) [] W13):=by
       have z:=HZ.out
       have k6:=HP.out.1.bel HB13.out
       exact hid ⟨Only.refl _ _,k6.lt,k6,World.ownsRow_nil _ _ _ _,World.ownsRow_nil _ _ _ _,fun k hk=>by simp[Value.ownBlock] at hk⟩
      have HUN:=hid (⟨hU,hun,by have h1:=refL_len bs ns;have h2:=congrArg List.length (refA_eq bs ns);rw[List.length_map,←hU] at h2;have:=HNS.out.2.2;omega⟩:U=refA bs ns∧un=U.length∧U.length≤4096)
      have HW13:=hid hW13
      have HB21:=hid hb21
      clear huv hU hun hb12 hb13 hW13 hb21
      go_upto_region 34 with fail
      rw[←HUN.out.2.1,←HB21.out,←HW13.out]
      clear HB21 HW13 HW10
      have HK:=hid (fun(fv kv:Value) (fs ks:List Int) (W:World) (hD:DkF W13 b6 (.slice pa pn pc) (.slice va xn vc) fv kv (rs.length-1:Int) (nodesI rs) fs ks W)=>(⟨HS.out.1.only hD.only (by have:=HP.out.2.2.2.2.2;simp;omega) (fun k hk hm=>by
        obtain⟨_,cs,hc⟩:=own_typed HS.out.1.row k hk
        rw[List.mem_singleton.1 hm] at hc
        exact typ_ne (HP.out.1.bel HB13.out) hc (by decide)),HS.out.2.1.only hD.only (by have:=HZ.out;simp;omega) (fun k hk hm=>by have:=(HS.out.2.1.row.lt k hk).1;have:=HZ.out;simp at hm;omega)⟩:AddrsIs W w.heap.size b7 (.slice va xn vc) X∧AddrsIs W w11.heap.size b21 (.slice ua un uc) U))
      go_wp2
      go_loopw [22] (fun iv wr=> ∃(i fn fc:Nat) (fa:Option Addr),i≤xn∧iv= .int .i64 (i:Int)∧Hid (fn=((X.take i).filter fun a=>decide (a∉U)).length∧DkF W13 b6 (.slice pa pn pc) (.slice va xn vc) (.slice fa fn fc) (.slice none 0 0) (rs.length-1:Int) (nodesI rs) ((X.take i).filter fun a=>decide (a∉U)) [] wr)) (fun iv _=>xn- (intOf iv).toNat)
      case atStart=>exact⟨0,0,0,none,Nat.zero_le _,rfl,hid ⟨by simp,HD0.out⟩⟩
      case round=>
       obtain⟨i,fn,fc,fa,hi,rfl,hI5⟩:=hrel
       obtain⟨wB,rfl⟩: ∃x,x=wr:=⟨_,rfl⟩
       obtain⟨hs7,hs21⟩:=HK.out _ _ _ _ _ hI5.out.2
       have y7:wB.cell? ⟨b7,0,none⟩=some (.slice va xn vc):=hs7.blk.cell 0
       by_cases hix:i<xn
       ·obtain⟨x,hx⟩: ∃x,X[i]?=some x:=⟨_,List.getElem?_eq_getElem (by have:=HXN.out.2.1;omega)⟩
        have i1:(i:Int)< (xn:Int):=by omega
        have i0:(0:Int)≤(i:Int):=by omega
        have hxr:=hs7.row
        rw[←HXN.out.2.1] at hxr
        obtain⟨gx,cx,e5,_,hxc,_,hxg⟩:=own_some hxr (by omega)
        injection e5 with e5 _ e6
        subst e5 e6
        have yx:wB.cell? ⟨gx,i,none⟩=some (.int .u64 x):=by have:=hxg i (.int .u64 x) (by rw[List.getElem?_map,hx];rfl);rwa[Nat.zero_add] at this
        have HH:=hid (AHas_r w11.heap.size b21 _ U x wB hs21 (by have:=HUN.out.2.2;omega))
        have HX2:=hid (⟨hx,hix⟩:X[i]?=some x∧i<xn)
        have hi6:i<1000000:=by have:=HXN.out;omega
        by_cases hxu:x∈U
        ·have HH2:=HH.out
         rw[decide_eq_true hxu] at HH2
         have HH:=hid HH2
         have HN2:Hid (fn=((X.take (i+1)).filter fun a=>decide (a∉U)).length∧DkF W13 b6 (.slice pa pn pc) (.slice (some ⟨gx,0,none⟩) xn vc) (.slice fa fn fc) (.slice none 0 0) (rs.length-1:Int) (nodesI rs) ((X.take (i+1)).filter fun a=>decide (a∉U)) [] wB):=by
          have e:(X.take (i+1)).filter (fun a=>decide (a∉U))=(X.take i).filter fun a=>decide (a∉U):=by
           rw[List.take_add_one,hx,List.filter_append]
           simp[hxu]
          rw[e]
          exact hI5
         clear hxu hx hix hi hxr hxc hxg hs7 hs21 HH2
         go_wp2_with fail
         refine HH.out.mono ?_
         rintro e w9 ⟨rfl,rfl⟩
         go_wp2
         go_roundw
         case rel=>exact⟨i+1,fn,fc,fa,HX2.out.2,by go_num,HN2⟩
         case measure=>simp[intOf];have:=HX2.out.2;omega
        ·have HH2:=HH.out
         rw[decide_eq_false hxu] at HH2
         have HH:=hid HH2
         have hbd:Below wB.heap.size wB wB.drew:=⟨rfl,rfl,rfl,Nat.le_refl _,fun _ _=>rfl⟩
         obtain⟨va',vc',w9,hrun,z2,zf2,hD9⟩:=(hI5.out.2.bel2 hbd).fault x (by have h1:=List.length_filter_le (fun a=>decide (a∉U)) (X.take i);rw[List.length_take] at h1;have:=HXN.out;omega)
         rw[←hI5.out.1] at hrun hD9
         have hrun2:appRun2 Tryz.prog #[30,30] 30 #[.slice fa fn fc,.slice (some ⟨wB.heap.size,0,none⟩) 1 1] ((wB.alloc (.cells #[.int .u64 x] 51)).drew)= .ok (.slice va' (fn+1) vc') w9:=hrun
         obtain⟨W9,hW9⟩: ∃W9,W9=w9.setCell ⟨b6,2,none⟩ (.slice va' (fn+1) vc'):=⟨_,rfl⟩
         have e:(X.take (i+1)).filter (fun a=>decide (a∉U))=((X.take i).filter fun a=>decide (a∉U))++[x]:=by
          rw[List.take_add_one,hx,List.filter_append]
          simp[hxu]
         have HN2:Hid (fn+1=((X.take (i+1)).filter fun a=>decide (a∉U)).length∧DkF W13 b6 (.slice pa pn pc) (.slice (some ⟨gx,0,none⟩) xn vc) (.slice va' (fn+1) vc') (.slice none 0 0) (rs.length-1:Int) (nodesI rs) ((X.take (i+1)).filter fun a=>decide (a∉U)) [] W9):=by
          rw[e,hW9]
          exact hid ⟨by rw[List.length_append,←hI5.out.1];rfl,hD9⟩
         have g2b:wB.cell? ⟨b6,2,none⟩=some (.slice fa fn fc):=hI5.out.2.rep.cell 2
         have g2d:wB.drew.cell? ⟨b6,2,none⟩=some (.slice fa fn fc):=g2b
         have g2a:(wB.alloc (.cells #[.int .u64 x] 51)).drew.cell? ⟨b6,2,none⟩=some (.slice fa fn fc):=(hI5.out.2.rep.alloc _).cell 2
         have y7d:wB.drew.cell? ⟨b7,0,none⟩=some (.slice (some ⟨gx,0,none⟩) xn vc):=y7
         have y7a:(wB.alloc (.cells #[.int .u64 x] 51)).drew.cell? ⟨b7,0,none⟩=some (.slice (some ⟨gx,0,none⟩) xn vc):=(hs7.blk.alloc _).cell 0
         have yxd:wB.drew.cell? ⟨gx,i,none⟩=some (.int .u64 x):=yx
         have HRUN:=hid hrun2
         have HW9:=hid hW9
         clear hxu hx hix hi hxr hxc hxg hs7 hs21 HH2 hrun hrun2 hD9 hW9 e hbd
         go_wp2_with fail
         refine HH.out.mono ?_
         rintro e w9 ⟨rfl,rfl⟩
         go_wp2_with fail
         refine Code.wp_mono (Q:=CalmL _) CalmL.imp ?_
         refine share (X:= ?X2) (fun key=> ?_) ?_
         rotate_left
         ·go_region_law (refine step_append_runI rfl (.tmp 194) (.tmp 202) 30 30 rfl _ _ (by simp[Act.eval,Act.put]) (by simp[Act.eval,Act.put]) HRUN.out ?_)
          all_goals
           try go_simp
           try simp only[Act.put,List.setIfInBounds_toArray,List.set_cons_zero,List.set_cons_succ]
           exact key.out
         refine CalmL.normal ?_
         rw[←HW9.out]
         go_wp2
         go_roundw
         case rel=>exact⟨i+1,_,_,_,HX2.out.2,by go_num,HN2⟩
         case measure=>simp[intOf];have:=HX2.out.2;omega
       ·obtain rfl:xn=i:=by omega
        have i1: ¬(xn:Int)< (xn:Int):=by omega
        obtain⟨F,hF⟩: ∃F,F=X.filter fun a=>decide (a∉U):=⟨_,rfl⟩
        have hIF:Hid (fn=F.length∧DkF W13 b6 (.slice pa pn pc) (.slice va xn vc) (.slice fa fn fc) (.slice none 0 0) (rs.length-1:Int) (nodesI rs) F ((U.take 0).filter fun a=>decide (a∉X)) wB):=by
         have:=hI5.out
         rw[HXN.out.2.1,List.take_length,←hF,←HXN.out.2.1] at this
         exact hid this
        have HF:=hid hF
        clear hI5 hi hix hF hs7 hs21
        go_wp2
        go_loopw [23] (fun iv wr=> ∃(i kn kc:Nat) (ka:Option Addr),i≤un∧iv= .int .i64 (i:Int)∧Hid (kn=((U.take i).filter fun a=>decide (a∉X)).length∧DkF W13 b6 (.slice pa pn pc) (.slice va xn vc) (.slice fa fn fc) (.slice ka kn kc) (rs.length-1:Int) (nodesI rs) F ((U.take i).filter fun a=>decide (a∉X)) wr)) (fun iv _=>un- (intOf iv).toNat)
        case atStart=>exact⟨0,0,0,none,Nat.zero_le _,rfl,hid ⟨by simp,hIF.out.2⟩⟩
        case round=>
         obtain⟨i,kn,kc,ka,hi,rfl,hI6⟩:=hrel
         obtain⟨wC,rfl⟩: ∃x,x=wr:=⟨_,rfl⟩
         obtain⟨hs7,hs21⟩:=HK.out _ _ _ _ _ hI6.out.2
         have y21:wC.cell? ⟨b21,0,none⟩=some (.slice ua un uc):=hs21.blk.cell 0
         by_cases hix:i<un
         ·obtain⟨x,hx⟩: ∃x,U[i]?=some x:=⟨_,List.getElem?_eq_getElem (by have:=HUN.out.2.1;omega)⟩
          have i1:(i:Int)< (un:Int):=by omega
          have i0:(0:Int)≤(i:Int):=by omega
          have hxr:=hs21.row
          rw[←HUN.out.2.1] at hxr
          obtain⟨gx,cx,e5,_,hxc,_,hxg⟩:=own_some hxr (by omega)
          injection e5 with e5 _ e6
          subst e5 e6
          have yx:wC.cell? ⟨gx,i,none⟩=some (.int .u64 x):=by have:=hxg i (.int .u64 x) (by rw[List.getElem?_map,hx];rfl);rwa[Nat.zero_add] at this
          have HH:=hid (AHas_r w.heap.size b7 _ X x wC hs7 (by have:=HXN.out.2.2.2;omega))
          have HX2:=hid (⟨hx,hix⟩:U[i]?=some x∧i<un)
          have hi6:i<1000000:=by have:=HUN.out;omega
          by_cases hxu:x∈X
          ·have HH2:=HH.out
           rw[decide_eq_true hxu] at HH2
           have HH:=hid HH2
           have HN2:Hid (kn=((U.take (i+1)).filter fun a=>decide (a∉X)).length∧DkF W13 b6 (.slice pa pn pc) (.slice va xn vc) (.slice fa fn fc) (.slice ka kn kc) (rs.length-1:Int) (nodesI rs) F ((U.take (i+1)).filter fun a=>decide (a∉X)) wC):=by
            have e:(U.take (i+1)).filter (fun a=>decide (a∉X))=(U.take i).filter fun a=>decide (a∉X):=by
             rw[List.take_add_one,hx,List.filter_append]
             simp[hxu]
            rw[e]
            exact hI6
           clear hxu hx hix hi hxr hxc hxg hs7 hs21 HH2
           go_wp2_with fail
           refine HH.out.mono ?_
           rintro e w9 ⟨rfl,rfl⟩
           go_wp2
           go_roundw
           case rel=>exact⟨i+1,kn,kc,ka,HX2.out.2,by go_num,HN2⟩
           case measure=>simp[intOf];have:=HX2.out.2;omega
          ·have HH2:=HH.out
           rw[decide_eq_false hxu] at HH2
           have HH:=hid HH2
           have hbd:Below wC.heap.size wC wC.drew:=⟨rfl,rfl,rfl,Nat.le_refl _,fun _ _=>rfl⟩
           obtain⟨va',vc',w9,hrun,z2,zf2,hD9⟩:=(hI6.out.2.bel2 hbd).leak x (by have h1:=List.length_filter_le (fun a=>decide (a∉X)) (U.take i);rw[List.length_take] at h1;have:=HUN.out;omega)
           rw[←hI6.out.1] at hrun hD9
           have hrun2:appRun2 Tryz.prog #[30,30] 30 #[.slice ka kn kc,.slice (some ⟨wC.heap.size,0,none⟩) 1 1] ((wC.alloc (.cells #[.int .u64 x] 51)).drew)= .ok (.slice va' (kn+1) vc') w9:=hrun
           obtain⟨W9,hW9⟩: ∃W9,W9=w9.setCell ⟨b6,3,none⟩ (.slice va' (kn+1) vc'):=⟨_,rfl⟩
           have e:(U.take (i+1)).filter (fun a=>decide (a∉X))=((U.take i).filter fun a=>decide (a∉X))++[x]:=by
            rw[List.take_add_one,hx,List.filter_append]
            simp[hxu]
           have HN2:Hid (kn+1=((U.take (i+1)).filter fun a=>decide (a∉X)).length∧DkF W13 b6 (.slice pa pn pc) (.slice va xn vc) (.slice fa fn fc) (.slice va' (kn+1) vc') (rs.length-1:Int) (nodesI rs) F ((U.take (i+1)).filter fun a=>decide (a∉X)) W9):=by
            rw[e,hW9]
            exact hid ⟨by rw[List.length_append,←hI6.out.1];rfl,hD9⟩
           have g3b:wC.cell? ⟨b6,3,none⟩=some (.slice ka kn kc):=hI6.out.2.rep.cell 3
           have g3d:wC.drew.cell? ⟨b6,3,none⟩=some (.slice ka kn kc):=g3b
           have g3a:(wC.alloc (.cells #[.int .u64 x] 51)).drew.cell? ⟨b6,3,none⟩=some (.slice ka kn kc):=(hI6.out.2.rep.alloc _).cell 3
           have y21d:wC.drew.cell? ⟨b21,0,none⟩=some (.slice (some ⟨gx,0,none⟩) un uc):=y21
           have y21a:(wC.alloc (.cells #[.int .u64 x] 51)).drew.cell? ⟨b21,0,none⟩=some (.slice (some ⟨gx,0,none⟩) un uc):=(hs21.blk.alloc _).cell 0
           have yxd:wC.drew.cell? ⟨gx,i,none⟩=some (.int .u64 x):=yx
           have HRUN:=hid hrun2
           have HW9:=hid hW9
           clear hxu hx hix hi hxr hxc hxg hs7 hs21 HH2 hrun hrun2 hD9 hW9 e hbd
           go_wp2_with fail
           refine HH.out.mono ?_
           rintro e w9 ⟨rfl,rfl⟩
           go_wp2_with fail
           refine Code.wp_mono (Q:=CalmL _) CalmL.imp ?_
           refine share (X:= ?X3) (fun key=> ?_) ?_
           rotate_left
           ·go_region_law (refine step_append_runI rfl (.tmp 225) (.tmp 233) 30 30 rfl _ _ (by simp[Act.eval,Act.put]) (by simp[Act.eval,Act.put]) HRUN.out ?_)
            all_goals
             try go_simp
             try simp only[Act.put,List.setIfInBounds_toArray,List.set_cons_zero,List.set_cons_succ]
             exact key.out
           refine CalmL.normal ?_
           rw[←HW9.out]
           go_wp2
           go_roundw
           case rel=>exact⟨i+1,_,_,_,HX2.out.2,by go_num,HN2⟩
           case measure=>simp[intOf];have:=HX2.out.2;omega
         ·obtain rfl:un=i:=by omega
          have i1: ¬(un:Int)< (un:Int):=by omega
          have hk6:=hI6.out.2.rep
          have hld:=hk6.ld (P:=Tryz.prog) (ty:=32) Tryz.underlying32 rfl (by kernel_rfl)
          have hlt:=HP.out.2.2.2.2.2
          have hk2:=hI6.out.2.only.blk HS.out.2.2.2.1 (by simp;omega)
          obtain⟨W9,hst,hk9,ho9⟩:=rep_st hk2 rfl pa va fa ka pn pc xn vc fn fc kn kc (rs.length-1:Int) (nodesI rs)
          have hlv:=hk9.lv (P:=Tryz.prog) (ty:=32) Tryz.underlying32 rfl (by kernel_rfl)
          have HF9:Hid (DLkPost bs w (.returned (.tuple #[.agg #[.slice pa pn pc,.slice va xn vc,.slice fa fn fc,.slice ka kn kc,.int .i64 (rs.length-1:Int),.int .i64 (nodesI rs)],.int .i64 0])) W9):=by
           have hU:=HUN.out.1
           rw[←HNS.out.1] at hU
           have hI:=hI6.out
           rw[HUN.out.2.1,List.take_length] at hI
           have z13:=HS.out.2.2.2.2.size
           have b6lt:=hI.2.rlt
           have bel:=(HS.out.2.2.2.2.trans (hI.2.only.below (B:=w.heap.size) (fun x hx=>by simp at hx;omega) z13)).trans (ho9.below (B:=w.heap.size) (fun x hx=>by simp at hx;omega) (Nat.le_trans z13 hI.2.only.size))
           have keep: ∀{N:Nat} {e:TypeId} {sz nn:Nat} {v:Value} {xs:List Value},e≠32→wC.ownsRow N e sz v nn xs→W9.ownsRow N e sz v nn xs:=fun{N e sz nn v xs} hne hr=>ho9.own hr (fun k hk hm=>by
            obtain⟨_,cs,hc⟩:=own_typed hr k hk
            rw[List.mem_singleton.1 hm] at hc
            exact hne (by
             have:=hk2
             unfold Blk at this
             rw[this] at hc
             injection hc with hc
             injection hc with _ hc _
             exact hc.symm))
           have pr:=HS.out.2.2.1
           have prow:=hI.2.only.own pr (fun k hk hm=>by
            obtain⟨_,cs,hc⟩:=own_typed pr k hk
            rw[List.mem_singleton.1 hm] at hc
            exact typ_ne (HP.out.1.bel HB13.out) hc (by decide))
           refine hid ⟨bel,Or.inl ⟨rs,ps,leaves,.slice pa pn pc,.slice va xn vc,.slice fa fn fc,.slice ka kn kc,HWK.out,HGL.out,rfl,keep (by decide) prow,?_,?_,?_⟩⟩
           ·have:=keep (by decide) hs7.row
            rw[HXN.out.1] at this
            exact this
           ·have:=(keep (by decide) hI.2.frow).mono z13
            rw[HF.out,hU,HXN.out.1] at this
            exact this
           ·have:=(keep (by decide) hI.2.krow).mono z13
            rw[hU,HXN.out.1] at this
            exact this
          clear hk6 hlt hk2 hk9 ho9 hix hi hs7 hs21 hI6
          go_wp2
          refine bodyPost_ret (v:= .tuple #[_,.int .i64 0]) (results_cellv_tmp rfl _ _ _ _ _ rfl rfl hlv) rfl ?_
          exact HF9.out
 ·have hbz:=rbld_zero w2
  have k2:=HB1.out.2.bel hb2
  have hst:=k2.st_same (P:=Tryz.prog) (ty:=32) (by kernel_rfl) (by kernel_rfl)
  have hst':stR Tryz.prog 32 (.pointer (some ⟨w.heap.size,0,none⟩)) (.agg rep0) w2= .ok () w2:=hst
  have hlv:lvR Tryz.prog 32 ⟨w.heap.size,0,none⟩ w2= .ok (.agg rep0) w2:=k2.lv (P:=Tryz.prog) (ty:=32) Tryz.underlying32 rfl (by kernel_rfl)
  have HF:Hid (DLkPost bs w (.returned (.tuple #[.agg rep0,.int .i64 6])) w2):=hid ⟨bx HB1.out.1 hb2,Or.inr ⟨fun rs ps hw=>hno rs ⟨hw.slabs,hw.sup,hw.rows⟩,rfl⟩⟩
  clear k2 hst hb2 hno
  go_wp2
  refine bodyPost_ret (v:= .tuple #[.agg rep0,.int .i64 6]) (results_cellv_tmp rfl _ _ _ _ _ rfl rfl hlv) rfl ?_
  exact HF.out
end Go.Proofs.YtibiekfjbibpbaaGreat
