import Derived.Test.YtjmaicckkkdjpaaGreatF01
/- Arenas that are laid by hand: Build, walked. -/
set_option maxRecDepth 100000
set_option maxHeartbeats 4000000
set_option linter.unusedVariables false
set_option linter.unusedSimpArgs false
namespace Go.Proofs.YtjmaicckkkdjpaaGreat
open Go.RowKit
attribute [local go_sem ↓ high] append_shut2
attribute [local go_sem] appM2_run Oper.semAt_some
def BldPs (w:World) (slabs:Nat) (keys:List Nat) (per lag:Nat) (e:Ending) (w':World):Prop:=
 Below w.heap.size w w'∧(e= .returned (.pointer none)∨ ∃g b n R lv rows,e= .returned (.pointer (some ⟨g,0,none⟩))∧w.heap.size≤g∧w.heap.size≤b∧ArIs w' g b n R lv∧LvsA w' w.heap.size lv rows∧BuildOK slabs keys per lag R rows)
def BldNo (slabs:Nat) (keys:List Nat) (per lag:Nat):Prop:=
 ¬(AR.new slabs).valsRoomy keys keys.length∨ ∃k,(∀j,j<k→ ¬((AR.new slabs).vals keys keys.length).1.lvStop per lag ((AR.new slabs).vals keys keys.length).2 j)∧ ¬((AR.new slabs).vals keys keys.length).1.lvRoom per lag ((AR.new slabs).vals keys keys.length).2 k
def BldPt (w:World) (slabs:Nat) (keys:List Nat) (per lag:Nat) (e:Ending) (w':World):Prop:=
 BldPs w slabs keys per lag e w'∧(e= .returned (.pointer none)→BldNo slabs keys per lag)
structure VlI (w:World) (g b n:Nat) (keys:List Nat) (ev:Value) (Q:AR) (l:List (Int×Int)) (W:World):Prop where
 ar:ArIs W g b n Q (.slice none 0 0)
 en:W.ownsRow w.heap.size 130 2 ev l.length (l.flatMap entC)
 bel:Below w.heap.size w W
theorem VlI.arena {w:World} {g b n:Nat} {keys:List Nat} {ev:Value} {Q Q':AR} {l:List (Int×Int)} {W W':World} (h:VlI w g b n keys ev Q l W) (hg:w.heap.size≤g) (hb:w.heap.size≤b) (hA:ArIs W' g b n Q' (.slice none 0 0)) (ho:Only [g,b] W W'):VlI w g b n keys ev Q' l W':=by
 refine⟨hA,ho.own h.en (fun k hk hm=> ?_),h.bel.trans (ho.below (fun y hy=> ?_) h.bel.size)⟩
 ·simp at hm
  rcases hm with rfl | rfl
  ·exact own_ne h.en h.ar.blk (by decide) _ hk rfl
  ·exact own_ne h.en h.ar.by' (by decide) _ hk rfl
 ·simp at hy
  rcases hy with rfl | rfl<;>assumption
def CalmA (Q:Exit→Act→World→Prop):Exit→Act→World→Prop
 | .panic _,_,_=>False
 | e,a,w=>Q e a w
theorem CalmA.imp {Q:Exit→Act→World→Prop}: ∀(e:Exit) (a:Act) (w:World),CalmA Q e a w→Q e a w:=fun e a w h=>by
 cases e<;>first | exact h | exact(h:False).elim
theorem CalmA.normal {Q:Exit→Act→World→Prop} {a:Act} {w:World} (h:Q .normal a w):CalmA Q .normal a w:=h
structure LmI (w:World) (g b n:Nat) (ev:Value) (Q:AR) (rows:List (List (Nat×NodeA))) (i:Nat) (l:List (Int×Int)) (lv:Value) (W:World):Prop where
 ar:ArIs W g b n Q lv
 lvs:LvsA W w.heap.size lv rows
 en:W.ownsRow w.heap.size 130 2 ev i (l.flatMap entC)
 bel:Below w.heap.size w W
theorem LmI.bel' {w:World} {g b n:Nat} {ev:Value} {Q:AR} {rows:List (List (Nat×NodeA))} {i:Nat} {l:List (Int×Int)} {lv:Value} {W W':World} (h:LmI w g b n ev Q rows i l lv W) (hb:Below W.heap.size W W'):LmI w g b n ev Q rows i l lv W':=
 ⟨h.ar.bel hb,h.lvs.only (Only.of_below hb []) (fun k hk=>by cases hk),(Only.of_below hb []).own h.en (by simp),h.bel.trans (hb.mono h.bel.size)⟩
abbrev LlI (w:World) (g b n:Nat) (ev:Value) (Q:AR) (rows:List (List (Nat×NodeA))) (l:List (Int×Int)) (lv:Value) (W:World):Prop:=LmI w g b n ev Q rows l.length l lv W
theorem ABuild_t (slabs per lag:Nat) (keys:List Nat) (kv:Value) (h1:1≤slabs) (hs:slabs≤64) (hk:keys.length≤1000) (hkk: ∀x∈keys,x<18446744073709551616) (hp:2≤per) (hp8:per≤8) (hlag:lag≤1000) (w:World) (hK:NumsAt .u64 w kv (keys.map (fun x:Nat=>(x:Int)))):
  Calls Tryz.prog 39 #[.int .i64 (slabs:Int),kv,.int .i64 (per:Int),.int .i64 (lag:Int)] w fun e w'=>BldPt w slabs keys per lag e w':=by
 obtain⟨ao,cap,hkv,hkc⟩:=hK
 rw[List.length_map] at hkv
 obtain⟨m,hm⟩: ∃m,m=keys.length:=⟨_,rfl⟩
 rw[←hm] at hkv
 subst hkv
 obtain⟨n,hn⟩: ∃n,n=1024*(slabs+1):=⟨_,rfl⟩
 have hn1:n≤66560:=by omega
 have w1:IntKind.i64.wrap ((slabs:Int)+1)=((slabs+1:Nat):Int):=by rw[IntWalk.i64_in _ (by constructor<;>omega)];omega
 have w2:IntKind.i64.wrap (1024*((slabs:Int)+1))=(n:Int):=by rw[IntWalk.i64_in _ (by constructor<;>omega)];omega
 have w3:IntKind.u64.wrap (n:Int)=(n:Int):=IntWalk.u64_in _ (by constructor<;>omega)
 obtain⟨c,hc⟩: ∃c,c=18446744073709551615-n:=⟨_,rfl⟩
 have w4:IntKind.u64.wrap (18446744073709551615- (n:Int))=(c:Int):=by rw[IntWalk.u64_in _ (by constructor<;>omega)];omega
 have hmk:=make_by2 n (by omega) w
 obtain⟨Z,hZ⟩: ∃Z:List Int,Z=List.replicate n 0:=⟨_,rfl⟩
 rw[←hZ] at hmk
 obtain⟨g,hg⟩: ∃g,g=w.heap.size+1:=⟨_,rfl⟩
 obtain⟨b,hb⟩: ∃b,b=w.heap.size:=⟨_,rfl⟩
 have HH:=hid (⟨h1,hs,hk,hkk,hp,hp8,hlag,hm,hn,hc,hZ⟩:1≤slabs∧slabs≤64∧keys.length≤1000∧(∀x∈keys,x<18446744073709551616)∧2≤per∧per≤8∧lag≤1000∧m=keys.length∧n=1024*(slabs+1)∧c=18446744073709551615-n∧Z=List.replicate n 0)
 have HKC:=hid hkc
 have HGB:=hid (⟨hg,hb⟩:_∧_)
 clear h1 hs hk hkk hp hp8 hlag hm hn hc hZ hkc hn1 hg hb
 go_enter Tryz.func39,Tryz.ntmps39
 go_upto_region 2 with fail
 obtain⟨W0,hW0⟩: ∃W0,W0=(w.alloc (.cells (byC Z) 5)).alloc (.cells #[.slice (some ⟨w.heap.size,0,none⟩) n n,.int .i64 (slabs:Int),.int .i64 0,.int .i64 0,.int .i64 0,.int .i64 0,.int .i64 0,.slice none 0 0] 51):=⟨_,rfl⟩
 rw[←hW0,←HGB.out.1,←HGB.out.2]
 obtain⟨R0,hR0⟩: ∃R0:AR,R0={ bs:=Z,slabs:=slabs,used:=0,value:=0,values:=0,node:=0,nodes:=0 }:=⟨_,rfl⟩
 have hA0:ArIs W0 g b n R0 (.slice none 0 0):=by
  have hh:=HH.out
  have hlZ:Z.length=n:=by rw[hh.2.2.2.2.2.2.2.2.2.2];exact List.length_replicate
  rw[hR0,HGB.out.1,HGB.out.2,hW0]
  refine⟨?_,(Blk.new _ _ _).alloc _,hlZ.symm,by omega,fun x hx=> ?_⟩
  ·have:=Blk.new (w.alloc (.cells (byC Z) 5)) 51 (arC w.heap.size n { bs:=Z,slabs:=slabs,used:=0,value:=0,values:=0,node:=0,nodes:=0 } (.slice none 0 0))
   rw[World.size_alloc] at this
   exact this
  ·have hx':x∈Z:=hx
   rw[hh.2.2.2.2.2.2.2.2.2.2] at hx'
   rw[List.eq_of_mem_replicate hx'];exact⟨by decide,by decide⟩
 have hb0:Below w.heap.size w W0:=by rw[hW0];exact ba (ba (Below.refl _ _) _) _
 have hnew:((R0.put 0 5929342154728227142).put 8 n).put 24 c=AR.new slabs:=by
  have hh:=HH.out
  rw[hR0,hh.2.2.2.2.2.2.2.2.2.2,hh.2.2.2.2.2.2.2.2.2.1,hh.2.2.2.2.2.2.2.2.1];rfl
 have HNEW:=hid hnew
 have HB0:=hid hb0
 have P1:=hid (APut_z g b n R0 (.slice none 0 0) 0 5929342154728227142 (by omega) (by have:=HH.out;omega) W0 hA0)
 have P2:=hid (fun W hW=>APut_z g b n (R0.put 0 5929342154728227142) (.slice none 0 0) 8 n (by have:=HH.out;omega) (by have:=HH.out;omega) W hW)
 have P3:=hid (fun W hW=>APut_z g b n ((R0.put 0 5929342154728227142).put 8 n) (.slice none 0 0) 24 c (by have:=HH.out;omega) (by have:=HH.out;omega) W hW)
 clear hW0 hR0 hA0 hb0 hnew hmk w1 w2
 go_wp2_with fail
 refine P1.out.mono ?_
 rintro e W1 ⟨rfl,hA1,ho1⟩
 have c0:W1.cell? ⟨g,0,none⟩=some (.slice (some ⟨b,0,none⟩) n n):=hA1.blk.cell 0
 have P2:=hid (P2.out W1 hA1)
 have HB1:Hid (Below w.heap.size w W1):=hid (HB0.out.trans (ho1.below (fun y hy=>by have:=HGB.out.2;simp at hy;omega) HB0.out.size))
 clear hA1 ho1
 go_wp2_with fail
 refine P2.out.mono ?_
 rintro e W2 ⟨rfl,hA2,ho2⟩
 clear c0
 have c0:W2.cell? ⟨g,0,none⟩=some (.slice (some ⟨b,0,none⟩) n n):=hA2.blk.cell 0
 have P3:=hid (P3.out W2 hA2)
 have HB2:Hid (Below w.heap.size w W2):=hid (HB1.out.trans (ho2.below (fun y hy=>by have:=HGB.out.2;simp at hy;omega) HB1.out.size))
 clear hA2 ho2
 go_wp2_with fail
 refine P3.out.mono ?_
 rintro e W3 ⟨rfl,hA3,ho3⟩
 clear c0
 have HB3:Hid (Below w.heap.size w W3):=hid (HB2.out.trans (ho3.below (fun y hy=>by have:=HGB.out.2;simp at hy;omega) HB2.out.size))
 rw[HNEW.out] at hA3
 have HI0:Hid (VlI w g b n keys (.slice none 0 0) ((AR.new slabs).vals keys 0).1 ((AR.new slabs).vals keys 0).2 W3):=hid ⟨hA3,World.ownsRow_nil _ _ _ _,HB3.out⟩
 have HV0:Hid ((AR.new slabs).valsRoomy keys 0):=hid (fun k hk=>absurd hk (Nat.not_lt_zero _))
 have HGE:Hid (w.heap.size≤g∧w.heap.size≤b):=hid (by have:=HGB.out;omega)
 clear hA3 ho3 P1 P2 P3 w3 w4
 go_wp2
 go_loopw [10,11] (fun rv iv wr=> ∃(i:Nat) (ea:Option Addr) (ec:Nat),i≤m∧iv= .int .i64 (i:Int)∧rv= .slice ea i ec∧Hid (VlI w g b n keys (.slice ea i ec) ((AR.new slabs).vals keys i).1 ((AR.new slabs).vals keys i).2 wr)∧Hid ((AR.new slabs).valsRoomy keys i)) (fun _ iv _=>m- (intOf iv).toNat)
 case atStart=>exact⟨0,none,0,Nat.zero_le _,rfl,rfl,HI0,HV0⟩
 case round=>
  obtain⟨i,ea,ec,him,rfl,rfl,hI,hV⟩:=hrel
  obtain⟨wA,rfl⟩: ∃y,y=wr:=⟨_,rfl⟩
  clear HI0 HV0
  obtain⟨hok,hlen,hvl⟩:=vals_ok (new_ok HH.out.1 HH.out.2.1).1 HH.out.2.2.2.1 i hV.out
  by_cases hlt:i<m
  ·have i1:(i:Int)< (m:Int):=by omega
   have i0:(0:Int)≤(i:Int):=by omega
   obtain⟨key,hkey⟩: ∃key,key=keys.getD i 0:=⟨_,rfl⟩
   have hki:keys[i]?=some key:=by
    rw[hkey,List.getD_eq_getElem?_getD,List.getElem?_eq_getElem (by have:=HH.out;omega)];rfl
   have hk64:key<18446744073709551616:=HH.out.2.2.2.1 _ (List.mem_of_getElem? hki)
   obtain⟨Q,hQ⟩: ∃Q,Q=((AR.new slabs).vals keys i).1:=⟨_,rfl⟩
   rw[←hQ] at hok hlen
   obtain⟨at',hat⟩: ∃a,a=Q.newValue.2:=⟨_,rfl⟩
   have NV:=ANewValue_z g b n Q (.slice none 0 0) wA (by rw[hQ];exact hI.out.ar) hok
   rw[←hat] at NV
   have NV:=hid NV
   have HK:=hid (⟨hlt,hkey,hki,hk64,hQ,hok,hlen,hat,hvl⟩:i<m∧key=keys.getD i 0∧keys[i]?=some key∧key<18446744073709551616∧Q=((AR.new slabs).vals keys i).1∧AROk Q∧Q.bs.length=(AR.new slabs).bs.length∧at'=Q.newValue.2∧((AR.new slabs).vals keys i).2.length=i)
   have hI2:=hI.out
   rw[←hQ] at hI2
   have HI:=hid hI2
   clear hlt him hkey hki hk64 hQ hok hlen hat hvl hI2
   go_wp2_with fail
   refine NV.out.mono ?_
   rintro e w4 ⟨rfl,hA4,ho4⟩
   have HI4:=hid (HI.out.arena HGE.out.1 HGE.out.2 hA4 ho4)
   clear hA4 ho4
   by_cases qa:at'=0
   ·have b0:((at':Int)==0)=true:=by simp[qa]
    clear qa
    go_wp2
    go_ret
    refine⟨⟨HI4.out.bel,Or.inl rfl⟩,fun _=>Or.inl fun hr=> ?_⟩
    have h1:=hr i (by have:=HH.out.2.2.2.2.2.2.2.1;have:=HK.out.1;omega)
    rw[←HK.out.2.2.2.2.1,←HK.out.2.2.2.2.2.2.2.1] at h1
    exact h1 (by simpa using b0)
   ·have b0:((at':Int)==0)=false:=by simp;omega
    have HQA:=hid qa
    obtain⟨kb,off,rfl,hkb,hkc⟩: ∃kb off,ao=some ⟨kb,off,none⟩∧kb<w.heap.size∧w.cell? ⟨kb,off+i,none⟩=some (.int .u64 (key:Int)):=by
     rcases HKC.out with h | ⟨kb,off,q1,q2,q3⟩
     ·have h2:=HK.out
      have h3:=HH.out
      have:keys=[]:=by simpa using h
      rw[this] at h3;simp at h3;omega
     ·refine⟨kb,off,q1,q2,?_⟩
      have:=q3 i (key:Int) (by rw[List.getElem?_map,HK.out.2.2.1];rfl)
      exact this
    have HKB:=hid (⟨hkb,hkc⟩:_∧_)
    have ck:w4.cell? ⟨kb,off+i,none⟩=some (.int .u64 (key:Int)):=(HI4.out.bel.cell (p:=⟨kb,off+i,none⟩) hkb).trans hkc
    obtain⟨T,hT⟩: ∃T,T=strOfNums (numL key):=⟨_,rfl⟩
    have VZ:=AValue_z key HK.out.2.2.2.1 w4
    rw[←hT] at VZ
    have VZ:=hid VZ
    have hts:T.size=(numL key).length:=by rw[hT,strOfNums_size]
    have ht20:T.size≤20:=by rw[hts];exact numL_20 HK.out.2.2.2.1
    have hslot:at'+64≤n:=by
     obtain⟨q1,q2,q3⟩:=oneVal_ok HK.out.2.2.2.2.2.1 HK.out.2.2.2.1 (by rw[←HK.out.2.2.2.2.2.2.2.1];exact qa)
     have h4:=HK.out.2.2.2.2.2.2.1
     have h5:=(new_ok HH.out.1 HH.out.2.1).2
     have h6:=HH.out.2.2.2.2.2.2.2.2.1
     rw[←HK.out.2.2.2.2.2.2.2.1] at q3
     omega
    have hn6:n≤66560:=by have:=HH.out;omega
    have wt:IntKind.u64.wrap (T.size:Int)=(T.size:Int):=IntWalk.u64_in _ (by constructor<;>omega)
    have hTB:strB T=numL key:=by rw[hT];exact strB_of (numL_in key)
    have HT:=hid (⟨hts,ht20,hslot,hn6,hTB⟩:_∧_∧_∧_∧_)
    clear qa hkb hkc hT hts ht20 hslot hn6 hTB
    go_wp2_with fail
    refine VZ.out.mono ?_
    rintro e w5 ⟨rfl,hb5⟩
    have hI5:VlI w g b n keys (.slice ea i ec) Q.newValue.1 ((AR.new slabs).vals keys i).2 w5:=HI4.out.arena HGE.out.1 HGE.out.2 (HI4.out.ar.bel hb5) (Only.of_below hb5 _)
    have PT:=hid (APut_z g b n Q.newValue.1 (.slice none 0 0) at' T.size (by have:=HT.out;omega) (by have:=HT.out;omega) w5 hI5.ar)
    have HI5:=hid hI5
    clear hb5 hI5 ck
    go_wp2_with fail
    refine PT.out.mono ?_
    rintro e w6 ⟨rfl,hA6,ho6⟩
    have HI6:Hid (VlI w g b n keys (.slice ea i ec) ((Q.newValue.1.put at' T.size).bytesTo (at'+8) (numL key) 0) ((AR.new slabs).vals keys i).2 w6):=hid (HI5.out.arena HGE.out.1 HGE.out.2 hA6 (ho6.mono (by simp)))
    clear hA6 ho6 wt
    go_wp2
    go_loopw [14] (fun iv wr=> ∃j:Nat,j≤T.size∧iv= .int .i64 (j:Int)∧Hid (VlI w g b n keys (.slice ea i ec) ((Q.newValue.1.put at' T.size).bytesTo (at'+8) (numL key) j) ((AR.new slabs).vals keys i).2 wr)) (fun iv _=>T.size- (intOf iv).toNat)
    case atStart=>exact⟨0,Nat.zero_le _,rfl,HI6⟩
    case round=>
     obtain⟨j,hj,rfl,hJ⟩:=hrel
     obtain⟨wB,rfl⟩: ∃y,y=wr:=⟨_,rfl⟩
     clear HI6
     by_cases hjt:j<T.size
     ·have j1:(j:Int)< (T.size:Int):=by omega
      have j0:(0:Int)≤(j:Int):=by omega
      obtain⟨c',hc'⟩: ∃c',(strB T)[j]?=some c':=⟨_,List.getElem?_eq_getElem (by rw[strB_len];exact hjt)⟩
      have hcs:((T[j]'hjt).toNat:Int)=c':=by
       have hc:=hc'
       unfold strB at hc
       rw[List.getElem?_map,Array.getElem?_toList] at hc
       have hjd:j<T.data.size:=hjt
       rw[Array.getElem?_eq_getElem hjd] at hc
       exact Option.some.inj hc
      obtain⟨a8,ha8⟩: ∃a8,a8=at'+8:=⟨_,rfl⟩
      obtain⟨q,hq⟩: ∃q,q=a8+j:=⟨_,rfl⟩
      have wa:IntKind.i64.wrap ((at':Int)+8)=(a8:Int):=by have:=HT.out;rw[IntWalk.i64_in _ (by constructor<;>omega)];omega
      have wq:IntKind.i64.wrap ((a8:Int)+(j:Int))=(q:Int):=by have:=HT.out;rw[IntWalk.i64_in _ (by constructor<;>omega)];omega
      have q0:(0:Int)≤(q:Int):=by omega
      have q1:(q:Int)< (n:Int):=by have:=HT.out;omega
      have c0:wB.cell? ⟨g,0,none⟩=some (.slice (some ⟨b,0,none⟩) n n):=hJ.out.ar.blk.cell 0
      have hbl:=hJ.out.ar.ln
      have cb: ∃y,wB.cell? ⟨b,q,none⟩=some y:=by
       refine⟨_,(hJ.out.ar.by'.cell q).trans (byC_get (List.getElem?_eq_getElem (by rw[←hbl];have:=HT.out;omega)))⟩
      obtain⟨y,cb⟩:=cb
      have fb:=hJ.out.ar.by'.frozen q
      have HN:Hid (VlI w g b n keys (.slice ea i ec) ((Q.newValue.1.put at' T.size).bytesTo (at'+8) (numL key) (j+1)) ((AR.new slabs).vals keys i).2 (wB.setCell ⟨b,q,none⟩ (.int .u8 c')).drew):=by
       have o:Only [b] wB (wB.setCell ⟨b,q,none⟩ (.int .u8 c')).drew:=((Only.refl _ _).setCell (Or.inl (by simp)) _).drew
       have hgd:(numL key).getD j 0=c':=by rw[List.getD_eq_getElem?_getD,←HT.out.2.2.2.2,hc'];rfl
       have hc2:=strB_in T c' (List.mem_of_getElem? hc')
       have hA:ArIs (wB.setCell ⟨b,q,none⟩ (.int .u8 c')).drew g b n ((Q.newValue.1.put at' T.size).bytesTo (at'+8) (numL key) (j+1)) (.slice none 0 0):=by
        refine⟨o.blk hJ.out.ar.blk (by have:=hJ.out.ar.ne;simpa using this),?_,?_,hJ.out.ar.big,?_⟩
        ·have h1:=(hJ.out.ar.by'.set_ q (.int .u8 c')).drew
         rw[byC_set] at h1
         show Blk _ b _ (byC (List.set _ (at'+8+j) ((numL key).getD j 0)))
         rw[hgd,show at'+8+j=q by omega]
         exact h1
        ·show n=(List.set _ _ _).length
         rw[List.length_set];exact hbl
        ·intro x hx
         rcases List.mem_or_eq_of_mem_set hx with hx | hx
         ·exact hJ.out.ar.byt x hx
         ·rw[hx,hgd];exact hc2
       exact hid (hJ.out.arena HGE.out.1 HGE.out.2 hA (o.mono (by simp)))
      have HJT:=hid hjt
      have hj20:(j:Int)<20:=by have:=HT.out;omega
      clear hc' ha8 hq hbl hj
      go_upto_region 17 with fail
      go_region
      clear c0 cb fb
      go_wp2
      go_roundw
      case rel=>exact⟨j+1,HJT.out,by go_num,HN⟩
      case measure=>simp[intOf];have:=HJT.out;omega
     ·obtain rfl:j=T.size:=by omega
      have j1: ¬(T.size:Int)< (T.size:Int):=by omega
      obtain⟨Qv,hQv⟩: ∃x,x=(Q.newValue.1.put at' T.size).bytesTo (at'+8) (numL key) T.size:=⟨_,rfl⟩
      rw[←hQv] at hJ
      have HQV:=hid hQv
      have ck:wB.cell? ⟨kb,off+i,none⟩=some (.int .u64 (key:Int)):=(hJ.out.bel.cell (p:=⟨kb,off+i,none⟩) HKB.out.1).trans HKB.out.2
      have wat:IntKind.u64.wrap (at':Int)=(at':Int):=IntWalk.u64_in _ (by have:=HT.out;constructor<;>omega)
      have hB9:Blk (wB.alloc (.cells #[.int .u64 (key:Int),.int .u64 (at':Int)] 130)) wB.heap.size 130 #[.int .u64 (key:Int),.int .u64 (at':Int)]:=Blk.new _ _ _
      have hoA:Only [] wB (wB.alloc (.cells #[.int .u64 (key:Int),.int .u64 (at':Int)] 130)):=(Only.refl _ _).alloc _
      have hen:=hJ.out.en
      rw[HK.out.2.2.2.2.2.2.2.2] at hen
      have hwl:w.heap.size≤wB.heap.size:=hJ.out.bel.size
      obtain⟨v9,w9,hrun,hown,hgr,hob⟩:=app_ent w.heap.size (wB.alloc (.cells #[.int .u64 (key:Int),.int .u64 (at':Int)] 130)) (.slice (some ⟨wB.heap.size,0,none⟩) 1 1) _ i (by rw[entL_len,HK.out.2.2.2.2.2.2.2.2]) (key:Int) (at':Int) (.slice ea i ec) (Or.inr ⟨wB.heap.size,0,1,rfl,fun r u hr=>by
       rw[hB9.cell (0+r),Nat.zero_add,←Array.getElem?_toList];exact hr⟩) (by have h2:=HH.out;have h3:=HK.out.1;omega) (by rw[World.size_alloc];omega) (hoA.own hen (by simp))
      obtain⟨a9,c9,rfl⟩:=row_form1 hown
      have o9:Only (Value.slice ea i ec).ownBlock.toList wB w9:=(hoA.mono (fun _ h=>by cases h)).trans (Only.of_grown (f:=(Value.slice ea i ec).ownBlock.toList) hgr (fun y hy=>by simp[hy])) (fun y hy=>Or.inl hy)
      have HN:Hid (VlI w g b n keys (.slice a9 (i+1) c9) ((AR.new slabs).vals keys (i+1)).1 ((AR.new slabs).vals keys (i+1)).2 w9):=by
       have e1:((AR.new slabs).vals keys (i+1)).1=Qv:=by
        show((AR.new slabs).vals keys i).1.oneVal (keys.getD i 0)=_
        rw[←HK.out.2.2.2.2.1,←HK.out.2.1,HQV.out,HT.out.1]
        unfold AR.oneVal
        rw[←HK.out.2.2.2.2.2.2.2.1]
       have e2:((AR.new slabs).vals keys (i+1)).2=((AR.new slabs).vals keys i).2++[((key:Int),(at':Int))]:=by
        show((AR.new slabs).vals keys i).2++[((keys.getD i 0:Int),(((AR.new slabs).vals keys i).1.newValue.2:Int))]=_
        rw[←HK.out.2.2.2.2.1,←HK.out.2.1,←HK.out.2.2.2.2.2.2.2.1]
       rw[e1,e2]
       have hen0:=hJ.out.en
       refine hid ⟨hJ.out.ar.only o9 (own_not hen0 hJ.out.ar.blk (by decide)) (own_not hen0 hJ.out.ar.by' (by decide)),?_,hJ.out.bel.trans (o9.below (fun y hy=> ?_) hwl)⟩
       ·rw[List.length_append,HK.out.2.2.2.2.2.2.2.2,List.flatMap_append]
        exact hown
       ·have hm':(Value.slice ea i ec).ownBlock=some y:=by simpa[Option.mem_toList] using hy
        exact(hen0.lt y hm').1
      have HV1:Hid ((AR.new slabs).valsRoomy keys (i+1)):=hid (fun k hk=>by
       rcases(by omega:k<i∨k=i) with h | h
       ·exact hV.out k h
       ·rw[h,←HK.out.2.2.2.2.1,←HK.out.2.2.2.2.2.2.2.1];exact HQA.out)
      have HIM:=hid (by have:=HK.out.1;omega:i+1≤m)
      have him2:(i:Int)≤1000:=by have h2:=HH.out;have h3:=HK.out.1;omega
      clear hj hjt hJ hQv hB9 hoA hen hwl hown hgr hob o9
      go_wp2
      go_roundw
      case rel=>exact⟨i+1,a9,c9,HIM.out,by go_num,rfl,HN,HV1⟩
      case measure=>simp[intOf];have:=HIM.out;omega
  ·obtain rfl:i=m:=by omega
   have i1: ¬(i:Int)< (i:Int):=by omega
   have hmk:=HH.out.2.2.2.2.2.2.2.1
   obtain⟨R1,hR1⟩: ∃x,x=((AR.new slabs).vals keys i).1:=⟨_,rfl⟩
   obtain⟨l1,hl1⟩: ∃x,x=((AR.new slabs).vals keys i).2:=⟨_,rfl⟩
   have hu1: ∀x∈l1,U64 x.1∧U64 x.2:=by rw[hl1];exact vals_u64 (new_ok HH.out.1 HH.out.2.1).1 (by rw[(new_ok HH.out.1 HH.out.2.1).2];have:=HH.out.2.1;omega) HH.out.2.2.2.1 i hV.out
   rw[←hR1] at hok hlen hI
   rw[←hl1] at hvl hI
   have hbn:=(new_ok HH.out.1 HH.out.2.1).2
   have hR1n:R1.bs.length=n:=by rw[hlen,hbn];exact HH.out.2.2.2.2.2.2.2.2.1.symm
   have HRL:=hid (⟨hR1,hl1,hmk⟩:_∧_∧_)
   have HINV:=hid (fun k h16 hr=>lvls_inv (R:=R1) (per:=per) (lag:=lag) (l:=l1) hok (by rw[hR1n];have:=HH.out;omega) HH.out.2.2.2.2.1 (by rw[hvl];have:=HH.out;omega) hu1 k h16 hr)
   have HN0:=hid hR1n
   have HJ0:Hid (LlI w g b n (.slice ea i ec) (R1.lvls per lag l1 0).1 (R1.lvls per lag l1 0).2.1 (R1.lvls per lag l1 0).2.2 (.slice none 0 0) wA):=hid ⟨hI.out.ar,⟨[],rfl,World.ownsRow_nil _ _ _ _,fun i row hi=>by cases hi⟩,hI.out.en,hI.out.bel⟩
   have hvl0:(R1.lvls per lag l1 0).2.2.length=i:=hvl
   have HEQ:=hid hvl0
   clear hI hok hlen hvl hlt him hmk hR1 hl1 hu1 hbn hR1n hvl0
   go_wp2
   go_loopw [10,15] (fun ev kv wr=> ∃(k:Nat) (ea:Option Addr) (el ec:Nat) (lv:Value),kv= .int .i64 (k:Int)∧ev= .slice ea el ec∧Hid (k≤15)∧Hid (LlI w g b n (.slice ea el ec) (R1.lvls per lag l1 k).1 (R1.lvls per lag l1 k).2.1 (R1.lvls per lag l1 k).2.2 lv wr)∧Hid (∀j,j<k→R1.lvRoom per lag l1 j)∧Hid (∀j,j<k→ ¬R1.lvStop per lag l1 j)) (fun _ kv _=>16- (intOf kv).toNat)
   case atStart=>exact⟨0,ea,i,ec,.slice none 0 0,rfl,rfl,hid (by omega),HJ0,hid (fun j h=>absurd h (Nat.not_lt_zero _)),hid (fun j h=>absurd h (Nat.not_lt_zero _))⟩
   case round=>
    obtain⟨k,ea2,el,ec2,lv,rfl,rfl,HKL,HJ,HRM,HNS⟩:=hrel
    clear HJ0
    obtain⟨wB,rfl⟩: ∃y,y=wr:=⟨_,rfl⟩
    obtain⟨q1,q2,q3,q4,q5,q6⟩:=HINV.out k (by have:=HKL.out;omega) HRM.out
    obtain⟨Q,hQ⟩: ∃x,x=(R1.lvls per lag l1 k).1:=⟨_,rfl⟩
    obtain⟨rows,hrows⟩: ∃x,x=(R1.lvls per lag l1 k).2.1:=⟨_,rfl⟩
    obtain⟨ll,hll⟩: ∃x,x=(R1.lvls per lag l1 k).2.2:=⟨_,rfl⟩
    have hrl:rows.length=k:=by rw[hrows,lvls_len]
    rw[←hQ,←hrows,←hll] at HJ
    rw[←hQ] at q1 q2
    rw[←hll] at q3 q4 q5
    have LV:=hid (ALevel_z w.heap.size g b n Q lv rows k per ll (.slice ea2 el ec2) w.heap.size HKL.out HH.out.2.2.2.2.1 HH.out.2.2.2.2.2.1 q3 q4 q5 wB HJ.out.ar q1 HJ.out.en HJ.out.bel.size HJ.out.lvs (by rw[hrl];have:=HKL.out;omega))
    have HQ:=hid (⟨hQ,hrows,hll,hrl⟩:_∧_∧_∧_)
    have hkl:(k:Int)≤15:=by have:=HKL.out;omega
    have HQK:=hid q1
    clear q1 q2 q3 q4 q5 q6 hQ hrows hll hrl
    go_wp2_with fail
    refine LV.out.mono ?_
    rintro e w2 ⟨ho2,h2⟩
    have hb2:Below w.heap.size w w2:=HJ.out.bel.trans (ho2.below (fun y hy=>by
     rcases List.mem_cons.1 hy with h | hy
     ·rw[h];exact HGE.out.1
     rcases List.mem_cons.1 hy with h | hy
     ·rw[h];exact HGE.out.2
     ·obtain⟨vs,_,h3,_⟩:=HJ.out.lvs
      exact(h3.lt y (by simpa[Option.mem_toList] using hy)).1) HJ.out.bel.size)
    rcases h2 with⟨rfl,hnr⟩ | ⟨rfl,hroom,lv',hA2,hV2⟩
    ·have HB2:=hid hb2
     have HNR:=hid hnr
     clear hb2 ho2 hnr
     go_wp2
     go_ret
     refine⟨⟨HB2.out,Or.inl rfl⟩,fun _=>Or.inr ⟨k,?_,?_⟩⟩
     ·obtain⟨z1,z2,z3⟩:=HRL.out
      rw[←z3,←z1,←z2]
      exact HNS.out
     ·obtain⟨z1,z2,z3⟩:=HRL.out
      rw[←z3,←z1,←z2]
      unfold AR.lvRoom
      rw[←HQ.out.1,←HQ.out.2.2.1];exact HNR.out
    ·have hroomK:R1.lvRoom per lag l1 k:=by
      unfold AR.lvRoom
      rw[←HQ.out.1,←HQ.out.2.2.1];exact hroom
     have HROOM:=hid hroomK
     obtain⟨row,hrow⟩: ∃x,x=Q.levelRow k per ll:=⟨_,rfl⟩
     obtain⟨Q2,hQ2⟩: ∃x,x=Q.level k per ll:=⟨_,rfl⟩
     rw[←hrow] at hV2
     rw[←hQ2] at hA2
     have hlvq:R1.lvls per lag l1 (k+1)=(Q2,rows++[row],upsOf lag row):=by
      rw[hQ2,hrow,HQ.out.1,HQ.out.2.1,HQ.out.2.2.1];rfl
     obtain⟨p1,p2,p3,p4,p5,p6⟩:=HINV.out (k+1) (by omega) (fun j hj=>by
      rcases(by omega:j<k∨j=k) with h | h
      ·exact HRM.out j h
      ·rw[h];exact hroomK)
     rw[hlvq] at p1 p2 p3 p5 p6
     obtain⟨hne,hrlen,hrin⟩:=p6 row (by simp)
     obtain⟨vs,v1,v2,v3⟩:=hV2
     have hvlen:(rows++[row]).length=k+1:=by rw[List.length_append,HQ.out.2.2.2];rfl
     obtain⟨gl,cl,rfl,g1,g2,g3,g4⟩:=own_some v2 (by rw[hvlen];omega)
     obtain⟨rv,v4,v5,v6⟩:=v3 k row (by rw[List.getElem?_append_right (by rw[HQ.out.2.2.2];exact Nat.le_refl _),HQ.out.2.2.2,Nat.sub_self];rfl)
     obtain⟨ro,rc,rfl⟩:=row_form1 v6
     obtain⟨rl,hrl⟩: ∃x,x=row.length:=⟨_,rfl⟩
     have hrl0:0<rl:=by rw[hrl];exact List.length_pos_iff.2 hne
     obtain⟨rb,rfl⟩: ∃rb,ro=some ⟨rb,0,none⟩:=by
      rcases v6.2 with⟨h3,h4⟩ | ⟨rb,cap',cur,h3,_⟩
      ·omega
      ·injection h3 with h3 _ _;exact⟨rb,h3⟩
     rw[←hrl] at v4 v6
     have c7:w2.cell? ⟨g,7,none⟩=some (.slice (some ⟨gl,0,none⟩) (k+1) cl):=by have:=hA2.blk.cell 7;rw[hvlen] at this;exact this
     have ck:w2.cell? ⟨gl,k,none⟩=some (.slice (some ⟨rb,0,none⟩) rl rc):=by have:=g4 k _ v4;rw[Nat.zero_add] at this;exact this
     rw[hvlen] at hA2
     have HJ2:Hid (LmI w g b n (.slice none 0 0) Q2 (rows++[row]) 0 [] (.slice (some ⟨gl,0,none⟩) (k+1) cl) w2):=hid ⟨hA2,⟨vs,v1,by rw[←hvlen];exact v2,v3⟩,World.ownsRow_nil _ _ _ _,hb2⟩
     obtain⟨x0,hx0⟩: ∃x,row[0]?=some x:=⟨_,List.getElem?_eq_getElem (by omega)⟩
     obtain⟨a0,ha0⟩: ∃a,a=x0.1:=⟨_,rfl⟩
     have hrowA:w2.ownsRow w.heap.size 79 22 (.slice (some ⟨rb,0,none⟩) rl rc) rl (atsV row):=by unfold rowA at v6;rw[←hrl] at v6;exact v6
     have r0:w2.cell? ⟨rb,0,none⟩=some (.int .u64 (a0:Int)):=by
      rw[ha0]
      have:=(hrowA.cellAt (0*22) (by omega)).trans (atsV_at hx0 0 (by omega))
      exact this
     have HA0:Hid (a0+192≤n∧n≤1000000∧(((rows++[row]).getD k []).getD 0 (0,zeroN)).1=a0):=by
      refine hid ⟨?_,hA2.big,?_⟩
      ·have:=(hrin x0 (List.mem_of_getElem? hx0)).1;rw[HN0.out] at this;omega
      ·have e1:(rows++[row]).getD k []=row:=by
        rw[List.getD_eq_getElem?_getD,List.getElem?_append_right (by rw[HQ.out.2.2.2];exact Nat.le_refl _),HQ.out.2.2.2,Nat.sub_self];rfl
       rw[e1,List.getD_eq_getElem?_getD,hx0,ha0];rfl
     have HROW:=hid (⟨hrl,hrl0,hrlen,hrowA,hrin,p3,p5⟩:rl=row.length∧0<rl∧row.length≤1000∧w2.ownsRow w.heap.size 79 22 (.slice (some ⟨rb,0,none⟩) rl rc) rl (atsV row)∧(∀x∈row,x.1+192≤R1.bs.length∧OffHead x.1 192∧0<x.1)∧(upsOf lag row).length≤1000∧(∀x∈upsOf lag row,U64 x.1∧U64 x.2))
     have HQ2:=hid (⟨by rw[hlvq],by rw[hlvq],by rw[hlvq],by rw[hrow,HQ.out.1,HQ.out.2.2.1]⟩:Q2=(R1.lvls per lag l1 (k+1)).1∧rows++[row]=(R1.lvls per lag l1 (k+1)).2.1∧upsOf lag row=(R1.lvls per lag l1 (k+1)).2.2∧row=(R1.lvls per lag l1 k).1.levelRow k per (R1.lvls per lag l1 k).2.2)
     have HK2:=hid hvlen
     have HX0:=hid (⟨hx0,ha0⟩:_∧_)
     have HGL:Hid (∃cur,Blk w2 gl 80 cur∧cur[k]?=some (.slice (some ⟨rb,0,none⟩) rl rc)):=by
      rcases v2.2 with⟨h3,_⟩ | ⟨g',cap',cur,h3,h4,h5,_⟩
      ·cases h3
      ·injection h3 with h3 _ _
       injection h3 with h3
       injection h3 with h3
       subst h3
       have hB:Blk w2 gl 80 cur:=h5
       exact hid ⟨cur,hB,by rw[←hB.cell];exact ck⟩
     have kk0:(0:Int)≤(k:Int):=by omega
     have kk1:(k:Int)< (k:Int)+1:=by omega
     have kk2:k<k+1:=by omega
     clear ho2 hb2 hroom hroomK hrow hQ2 hlvq p1 p2 p3 p4 p5 p6 hne hrlen hrin v1 v2 v3 v4 v5 v6 g1 g2 g3 g4 hvlen hrl hrl0 hA2 hx0 ha0 hrowA
     go_upto_region 24 with fail
     go_cut [115] from 109 to 115 (fun c wd=>c= .bool (decide (rl=1∨k=15))∧Hid (wd=w2))
     case first=>
      by_cases s1:rl=1
      ·have b1:((rl:Int)==1)=true:=by simp[s1]
       have HD:=hid (show decide (rl=1∨k=15)=true by simp[s1])
       clear s1
       go_wp2
       go_meet
       exact⟨by rw[HD.out],hid rfl⟩
      ·have b1:((rl:Int)==1)=false:=by simp;omega
       by_cases s2:k=15
       ·have b2:((k:Int)==15)=true:=by simp[s2]
        have HD:=hid (show decide (rl=1∨k=15)=true by simp[s2])
        clear s1 s2
        go_wp2
        go_meet
        exact⟨by rw[HD.out],hid rfl⟩
       ·have b2:((k:Int)==15)=false:=by simp;omega
        have HD:=hid (show decide (rl=1∨k=15)=false by simp[s1,s2])
        clear s1 s2
        go_wp2
        go_meet
        exact⟨by rw[HD.out],hid rfl⟩
     case rest=>
      obtain⟨rfl,hwc⟩:=hcut
      obtain rfl:=hwc.out
      clear hwc
      by_cases st:rl=1∨k=15
      ·rw[decide_eq_true st]
       have hstop:R1.lvStop per lag l1 k:=by
        unfold AR.lvStop
        rw[←HQ2.out.2.2.2]
        rcases st with h | h
        ·exact Or.inl (by rw[←HROW.out.1];exact h)
        ·exact Or.inr (Or.inl h)
       clear st
       have hK2:=HK2.out
       have wk:IntKind.i64.wrap (((k+1:Nat):Int)-1)=(k:Int):=by rw[IntWalk.i64_in _ (by have:=HKL.out;constructor<;>omega)];omega
       have wk2:IntKind.i64.wrap ((k:Int)+1-1)=(k:Int):=by rw[IntWalk.i64_in _ (by have:=HKL.out;constructor<;>omega)];omega
       have k0:(0:Int)≤(k:Int):=by omega
       have rl0:(0:Int)< (rl:Int):=by have:=HROW.out.2.1;omega
       have rl1:0<rl:=HROW.out.2.1
       have k1:(k:Int)< (k:Int)+1:=by omega
       have k2:k<k+1:=by omega
       clear hK2
       go_upto_region 31 with fail
       go_quiet (fail)
       obtain⟨wT,hwT⟩: ∃x,x=wc.drewN nq:=⟨_,rfl⟩
       rw[←hwT]
       have hbT:Below wc.heap.size wc wT:=by rw[hwT];exact⟨rfl,rfl,rfl,Nat.le_refl _,fun _ _=>rfl⟩
       have HJT:=hid (HJ2.out.bel' hbT)
       have r0:wT.cell? ⟨rb,0,none⟩=some (.int .u64 (a0:Int)):=(hbT.cell (p:=⟨rb,0,none⟩) (World.block_lt_of_cell? wc _ r0)).trans r0
       have PT:=hid (APut_z g b n Q2 (.slice (some ⟨gl,0,none⟩) (k+1) cl) 16 a0 (by have:=HA0.out;omega) (by have:=HA0.out;omega) wT HJT.out.ar)
       have HSTOP:=hid hstop
       clear hwT hbT wk wk2 hstop
       go_wp2_with fail
       refine PT.out.mono ?_
       rintro e wU ⟨rfl,hAU,hoU⟩
       have HFIN:Hid (BldPs w slabs keys per lag (.returned (.pointer (some ⟨g,0,none⟩))) wU):=by
        refine hid ⟨HJT.out.bel.trans (hoU.below (fun y hy=>by rw[List.mem_singleton.1 hy];exact HGE.out.2) HJT.out.bel.size),Or.inr ⟨g,b,n,_,_,_,rfl,HGE.out.1,HGE.out.2,hAU,HJT.out.lvs.only hoU (fun y hy=>by rw[List.mem_singleton.1 hy];exact Or.inr ⟨_,_,HJT.out.ar.by',by decide,by decide⟩),?_⟩⟩
        obtain⟨z1,z2,z3⟩:=HRL.out
        unfold BuildOK
        rw[←z3,←z1,←z2]
        refine⟨hV.out,k,fun j hj=> ?_,HNS.out,HSTOP.out,HQ2.out.2.1,?_⟩
        ·rcases(by omega:j<k∨j=k) with h | h
         ·exact HRM.out j h
         ·rw[h];exact HROOM.out
        ·rw[HQ2.out.1,HA0.out.2.2]
       clear hAU hoU
       go_wp2
       go_ret
       exact⟨HFIN.out,fun h=>by injection h with h;injection h with h;cases h⟩
      ·rw[decide_eq_false st]
       have HST:=hid st
       obtain⟨cn,hcn⟩: ∃cn,cn=(upsOf lag row).length:=⟨_,rfl⟩
       have hcn2:cn=min (max 1 (rl-lag)) rl:=by rw[hcn,HROW.out.1];unfold upsOf;rw[List.length_map,List.length_take]
       have HCN:=hid (⟨hcn,hcn2⟩:_∧_)
       have HK0:Hid (LmI w g b n (.slice none 0 0) Q2 (rows++[row]) 0 ((upsOf lag row).take 0) (.slice (some ⟨gl,0,none⟩) (k+1) cl) wc∧wc.ownsRow w.heap.size 79 22 (.slice (some ⟨rb,0,none⟩) rl rc) rl (atsV row)∧ ∃cur,Blk wc gl 80 cur∧cur[k]?=some (.slice (some ⟨rb,0,none⟩) rl rc)):=hid ⟨HJ2.out,HROW.out.2.2.2.1,HGL.out⟩
       clear st hcn hcn2 HJ2 c7 ck r0 kk1
       go_wp2
       go_loopw [10,17] (fun ev iv wr=> ∃(q:Nat) (e1:Option Addr) (e2:Nat),q≤cn∧iv= .int .i64 (q:Int)∧ev= .slice e1 q e2∧Hid (LmI w g b n (.slice e1 q e2) Q2 (rows++[row]) q ((upsOf lag row).take q) (.slice (some ⟨gl,0,none⟩) (k+1) cl) wr∧(wr.ownsRow w.heap.size 79 22 (.slice (some ⟨rb,0,none⟩) rl rc) rl (atsV row)∧ ∃cur,Blk wr gl 80 cur∧cur[k]?=some (.slice (some ⟨rb,0,none⟩) rl rc)))) (fun _ iv _=>cn- (intOf iv).toNat)
       case atStart=>exact⟨0,none,0,Nat.zero_le _,rfl,rfl,HK0⟩
       case round=>
        obtain⟨q,e1,e2,hq,rfl,rfl,hW⟩:=hrel
        obtain⟨wD,rfl⟩: ∃y,y=wr:=⟨_,rfl⟩
        clear HK0
        have hqr:q≤rl:=by have:=HCN.out.2;omega
        have hlg:=HH.out.2.2.2.2.2.2.1
        have hr1:rl≤1000:=by rw[HROW.out.1];exact HROW.out.2.2.1
        have wl:IntKind.i64.wrap ((rl:Int)- (lag:Int))=(rl:Int)- (lag:Int):=IntWalk.i64_in _ (by constructor<;>omega)
        have HQC:=hid (⟨hq,hqr,hr1⟩:_∧_∧_)
        clear hq
        go_upto_region 27 with fail
        go_cut [131] from 116 to 131 (fun c wd=>c= .bool (decide (q<cn))∧Hid (wd=wD))
        case first=>
         by_cases s1:q<rl
         ·have d1:(q:Int)< (rl:Int):=by omega
          by_cases s2:q=0
          ·have b2:((q:Int)==0)=true:=by simp[s2]
           have HD:=hid (show decide (q<cn)=true by have:=HCN.out.2;exact decide_eq_true (by omega))
           clear s2 hqr hlg hr1
           go_wp2
           go_meet
           exact⟨by rw[HD.out],hid rfl⟩
          ·have b2:((q:Int)==0)=false:=by simp;omega
           by_cases s3:(q:Int)< (rl:Int)- (lag:Int)
           ·have HD:=hid (show decide (q<cn)=true by have:=HCN.out.2;exact decide_eq_true (by omega))
            clear s2 hqr hlg hr1
            go_wp2
            go_meet
            exact⟨by rw[HD.out],hid rfl⟩
           ·have HD:=hid (show decide (q<cn)=false by have:=HCN.out.2;exact decide_eq_false (by omega))
            clear s2 hqr hlg hr1
            go_wp2
            go_meet
            exact⟨by rw[HD.out],hid rfl⟩
         ·have d1: ¬(q:Int)< (rl:Int):=by omega
          have HD:=hid (show decide (q<cn)=false by have:=HCN.out.2;exact decide_eq_false (by omega))
          clear hqr hlg hr1
          go_wp2
          go_meet
          exact⟨by rw[HD.out],hid rfl⟩
        case rest=>
         obtain⟨rfl,hwc⟩:=hcut
         obtain rfl:=hwc.out
         clear hwc wl
         by_cases qq:q<cn
         ·rw[decide_eq_true qq]
          have hqrl:q<rl:=by have:=HCN.out.2;omega
          obtain⟨y,hy⟩: ∃y,row[q]?=some y:=⟨_,List.getElem?_eq_getElem (by rw[←HROW.out.1];exact hqrl)⟩
          have cl2:wc.cell? ⟨rb,q*22+2,none⟩=some (.int .u64 y.2.low):=(hW.out.2.1.cellAt (q*22+2) (by omega)).trans (atsV_at hy 2 (by omega))
          have ca2:wc.cell? ⟨rb,q*22,none⟩=some (.int .u64 (y.1:Int)):=(hW.out.2.1.cellAt (q*22) (by omega)).trans (atsV_at hy 0 (by omega))
          have hen:=hW.out.1.en
          have htl:((upsOf lag row).take q).length=q:=by rw[List.length_take];have:=HCN.out.1;omega
          have hwl:w.heap.size≤wc.heap.size:=hW.out.1.bel.size
          obtain⟨WA,hWA⟩: ∃x,x=(wc.alloc (.cells #[.int .u64 y.2.low,.int .u64 (y.1:Int)] 130)).drew:=⟨_,rfl⟩
          have hB9:Blk WA wc.heap.size 130 #[.int .u64 y.2.low,.int .u64 (y.1:Int)]:=by rw[hWA];exact(Blk.new _ _ _).drew
          have hoA:Only [] wc WA:=by rw[hWA];exact((Only.refl _ _).alloc _).drew
          have hsz:WA.heap.size=wc.heap.size+1:=by rw[hWA];exact World.size_alloc _ _
          obtain⟨v9,w9,hrun,hown,hgr,hob⟩:=app_ent w.heap.size WA (.slice (some ⟨wc.heap.size,0,none⟩) 1 1) (((upsOf lag row).take q).flatMap entC) q (by rw[entL_len,htl]) y.2.low (y.1:Int) (.slice e1 q e2) (Or.inr ⟨wc.heap.size,0,1,rfl,fun r u hr=>by
           rw[hB9.cell (0+r),Nat.zero_add,←Array.getElem?_toList];exact hr⟩) (by have h2:=HQC.out;omega) (by rw[hsz];omega) (hoA.own hen (by simp))
          obtain⟨a9,c9,rfl⟩:=row_form1 hown
          have o9:Only (Value.slice e1 q e2).ownBlock.toList wc w9:=(hoA.mono (fun _ h=>by cases h)).trans (Only.of_grown (f:=(Value.slice e1 q e2).ownBlock.toList) hgr (fun y hy=>by simp[hy])) (fun y hy=>Or.inl hy)
          have hge: ∀z,z∈(Value.slice e1 q e2).ownBlock.toList→w.heap.size≤z:=fun z hz=>(hen.lt z (by simpa[Option.mem_toList] using hz)).1
          have HN:Hid (LmI w g b n (.slice a9 (q+1) c9) Q2 (rows++[row]) (q+1) ((upsOf lag row).take (q+1)) (.slice (some ⟨gl,0,none⟩) (k+1) cl) w9∧w9.ownsRow w.heap.size 79 22 (.slice (some ⟨rb,0,none⟩) rl rc) rl (atsV row)∧ ∃cur,Blk w9 gl 80 cur∧cur[k]?=some (.slice (some ⟨rb,0,none⟩) rl rc)):=by
           have hup:(upsOf lag row)[q]?=some (y.2.low,(y.1:Int)):=by
            unfold upsOf
            rw[List.getElem?_map,List.getElem?_take,if_pos (by have:=HCN.out.2;have:=HROW.out.1;omega),hy];rfl
           refine hid ⟨⟨hW.out.1.ar.only o9 (own_not hen hW.out.1.ar.blk (by decide)) (own_not hen hW.out.1.ar.by' (by decide)),hW.out.1.lvs.only o9 (fun z hz=> ?_),?_,hW.out.1.bel.trans (o9.below hge hwl)⟩,o9.own hW.out.2.1 (own_apart hW.out.2.1 hen (by decide)),(by obtain⟨cur,z1,z2⟩:=hW.out.2.2;exact⟨cur,o9.blk z1 (own_not hen z1 (by decide)),z2⟩)⟩
           ·have hz':(Value.slice e1 q e2).ownBlock=some z:=by simpa[Option.mem_toList] using hz
            rcases hen.2 with⟨h1,_⟩ | ⟨g',cap',cur,h1,h2,h3,_⟩
            ·rw[h1] at hz';cases hz'
            ·rw[h1] at hz'
             have:g'=z:=by simpa[Value.ownBlock] using hz'
             subst this
             exact Or.inr ⟨_,_,h3,by decide,by decide⟩
           ·rw[List.take_add_one,hup,Option.toList_some,List.flatMap_append]
            exact hown
          have HRUN:=hid hrun
          have HWA:=hid hWA
          have HQN:=hid (by omega:q+1≤cn)
          have hq1000:(q:Int)≤1000:=by have:=HQC.out;omega
          have j1:(q:Int)< (rl:Int):=by omega
          have j0:(0:Int)≤(q:Int):=by omega
          clear hen htl hwl hB9 hoA hsz hown hgr hob o9 hge hrun hy hWA
          clear hqr hlg hr1
          go_upto_region 29 with fail
          refine Code.wp_mono (Q:=CalmA _) CalmA.imp ?_
          refine share (X:= ?X) (fun key=> ?_) ?_
          rotate_left
          ·go_region_law (refine step_append_runI rfl (.tmp 134) (.tmp 147) 131 131 rfl _ _ (by simp[Act.eval,Act.put]) (by simp[Act.eval,Act.put]) (HWA.out▸HRUN.out) ?_)
           all_goals
            try go_simp
            try simp only[Act.put,List.setIfInBounds_toArray,List.set_cons_zero,List.set_cons_succ]
            exact key.out
          refine CalmA.normal ?_
          clear cl2 ca2
          go_wp2
          go_roundw
          case rel=>exact⟨q+1,a9,c9,HQN.out,by go_num,rfl,HN⟩
          case measure=>simp[intOf];have:=HQN.out;omega
         ·rw[decide_eq_false qq]
          obtain rfl:q=cn:=by have:=HQC.out;omega
          have hup:(upsOf lag row).take q=upsOf lag row:=List.take_of_length_le (by rw[←HCN.out.1];exact Nat.le_refl _)
          rw[hup] at hW
          have hq1000:(q:Int)≤1000:=by have:=HQC.out;omega
          by_cases qo:q=1
          ·have b3:((q:Int)==1)=true:=by simp[qo]
           have hstop:R1.lvStop per lag l1 k:=by
            unfold AR.lvStop
            exact Or.inr (Or.inr (by rw[←HQ2.out.2.2.1,←HCN.out.1];exact qo))
           have HJ3:=hid hW.out.1
           have c7:wc.cell? ⟨g,7,none⟩=some (.slice (some ⟨gl,0,none⟩) (k+1) cl):=hW.out.1.ar.blk.cell 7
           have ck:wc.cell? ⟨gl,k,none⟩=some (.slice (some ⟨rb,0,none⟩) rl rc):=by obtain⟨cur,z1,z2⟩:=hW.out.2.2;exact(z1.cell k).trans z2
           have r0:wc.cell? ⟨rb,0,none⟩=some (.int .u64 (a0:Int)):=by
            have h5:=(hW.out.2.1.cellAt (0*22) (by have:=HROW.out.2.1;omega)).trans (atsV_at HX0.out.1 0 (by omega))
            rw[HX0.out.2]
            exact h5
           clear qo qq hup hW hqr hlg hr1
           have hK2:=HK2.out
           have wk:IntKind.i64.wrap (((k+1:Nat):Int)-1)=(k:Int):=by rw[IntWalk.i64_in _ (by have:=HKL.out;constructor<;>omega)];omega
           have wk2:IntKind.i64.wrap ((k:Int)+1-1)=(k:Int):=by rw[IntWalk.i64_in _ (by have:=HKL.out;constructor<;>omega)];omega
           have k0:(0:Int)≤(k:Int):=by omega
           have rl0:(0:Int)< (rl:Int):=by have:=HROW.out.2.1;omega
           have rl1:0<rl:=HROW.out.2.1
           have k1:(k:Int)< (k:Int)+1:=by omega
           have k2:k<k+1:=by omega
           clear hK2
           go_upto_region 31 with fail
           go_quiet (fail)
           obtain⟨wT,hwT⟩: ∃x,x=wc.drewN nq:=⟨_,rfl⟩
           rw[←hwT]
           have hbT:Below wc.heap.size wc wT:=by rw[hwT];exact⟨rfl,rfl,rfl,Nat.le_refl _,fun _ _=>rfl⟩
           have HJT:=hid (HJ3.out.bel' hbT)
           have r0:wT.cell? ⟨rb,0,none⟩=some (.int .u64 (a0:Int)):=(hbT.cell (p:=⟨rb,0,none⟩) (World.block_lt_of_cell? wc _ r0)).trans r0
           have PT:=hid (APut_z g b n Q2 (.slice (some ⟨gl,0,none⟩) (k+1) cl) 16 a0 (by have:=HA0.out;omega) (by have:=HA0.out;omega) wT HJT.out.ar)
           have HSTOP:=hid hstop
           clear hwT hbT wk wk2 hstop
           go_wp2_with fail
           refine PT.out.mono ?_
           rintro e wU ⟨rfl,hAU,hoU⟩
           have HFIN:Hid (BldPs w slabs keys per lag (.returned (.pointer (some ⟨g,0,none⟩))) wU):=by
            refine hid ⟨HJT.out.bel.trans (hoU.below (fun y hy=>by rw[List.mem_singleton.1 hy];exact HGE.out.2) HJT.out.bel.size),Or.inr ⟨g,b,n,_,_,_,rfl,HGE.out.1,HGE.out.2,hAU,HJT.out.lvs.only hoU (fun y hy=>by rw[List.mem_singleton.1 hy];exact Or.inr ⟨_,_,HJT.out.ar.by',by decide,by decide⟩),?_⟩⟩
            obtain⟨z1,z2,z3⟩:=HRL.out
            unfold BuildOK
            rw[←z3,←z1,←z2]
            refine⟨hV.out,k,fun j hj=> ?_,HNS.out,HSTOP.out,HQ2.out.2.1,?_⟩
            ·rcases(by omega:j<k∨j=k) with h | h
             ·exact HRM.out j h
             ·rw[h];exact HROOM.out
            ·rw[HQ2.out.1,HA0.out.2.2]
           clear hAU hoU
           go_wp2
           go_ret
           exact⟨HFIN.out,fun h=>by injection h with h;injection h with h;cases h⟩
          ·have b3:((q:Int)==1)=false:=by simp;omega
           have HNX:Hid (LlI w g b n (.slice e1 q e2) (R1.lvls per lag l1 (k+1)).1 (R1.lvls per lag l1 (k+1)).2.1 (R1.lvls per lag l1 (k+1)).2.2 (.slice (some ⟨gl,0,none⟩) (k+1) cl) wc):=by
            obtain⟨z1,z2,z3,_⟩:=HQ2.out
            rw[←z1,←z2,←z3]
            unfold LlI
            rw[←HCN.out.1]
            exact hid hW.out.1
           have HK15:Hid (k+1≤15):=hid (by have h1:=HST.out;have h2:=HKL.out;omega)
           have HRM2:Hid (∀j,j<k+1→R1.lvRoom per lag l1 j):=hid (fun j hj=>by
            rcases(by omega:j<k∨j=k) with h | h
            ·exact HRM.out j h
            ·rw[h];exact HROOM.out)
           have HNS2:Hid (∀j,j<k+1→ ¬R1.lvStop per lag l1 j):=hid (fun j hj=>by
            rcases(by omega:j<k∨j=k) with h | h
            ·exact HNS.out j h
            ·rw[h]
             unfold AR.lvStop
             rw[←HQ2.out.2.2.2,←HQ2.out.2.2.1,←HROW.out.1,←HCN.out.1]
             intro hs
             have:=HST.out
             rcases hs with h | h | h
             ·exact this (Or.inl h)
             ·exact this (Or.inr h)
             ·exact qo h)
           clear qo qq hup hW hqr hlg hr1
           go_wp2
           go_roundw
           case rel=>exact⟨k+1,e1,q,e2,_,by go_num,rfl,HK15,HNX,HRM2,HNS2⟩
           case measure=>simp[intOf];have:=HK15.out;omega
end Go.Proofs.YtjmaicckkkdjpaaGreat
