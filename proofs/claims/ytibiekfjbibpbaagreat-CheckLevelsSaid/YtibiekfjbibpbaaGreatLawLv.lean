/- The law CheckLevels, walked. -/
import Derived.Test.YtibiekfjbibpbaaGreatSqA
import Derived.Test.YtibiekfjbibpbaaGreatSqB
import Derived.Test.YtibiekfjbibpbaaGreatLvF
import Derived.Test.YtibiekfjbibpbaaGreatLvA
import Derived.Test.YtibiekfjbibpbaaGreatLvC
import Derived.Test.YtibiekfjbibpbaaGreatLvD
set_option maxRecDepth 100000
set_option maxHeartbeats 4000000
set_option linter.unusedVariables false
set_option linter.unusedSimpArgs false
namespace Go.Proofs.YtibiekfjbibpbaaGreat
open Go.RowKit
theorem laLoadAt (v:Value):Instr.loadAt 24 v=ldM 24 v:=rfl
attribute [local go_sem ↓ high] q6v q7f q7e z2o q0v laLoadAt q0s q0f q0d nodeNeq
attribute [local go_sem] q1x q1p q1v q2t Oper.semAt_some q0h nqM_run
theorem la_ld {w:World} {b:Nat} {x:La} {kv:Value} (h:Blk w b 24 (laC x kv)):ldR Tryz.prog 24 (.pointer (some ⟨b,0,none⟩)) w= .ok (.agg (laC x kv)) w:=h.ld Tryz.underlying24 rfl (by simp only[laC];kernel_rfl)
def ndR (o:Option NodeA):NodeA:=o.getD q2w
def erR (o:Option NodeA):Int:=if o.isSome then 0 else 6
theorem nodeR_eq (bs:List Int) (a:Int):q8r bs a= .tuple #[.agg (q0x (ndR (q1y bs a))),.int .i64 (erR (q1y bs a))]:=by
 unfold q8r ndR erR
 cases q1y bs a<;>rfl
def gvR (err:Int) (ps:List (Int×ByteArray)) (key:Int):ByteArray:=if err≠0∨idxK ps key= -1 then⟨#[]⟩ else(ps.getD (idxK ps key).toNat (0,⟨#[]⟩)).2
def geR (err:Int) (ps:List (Int×ByteArray)) (key:Int):Int:=if err≠0 then err else if idxK ps key= -1 then 5 else 0
theorem getR_eq (err:Int) (ps:List (Int×ByteArray)) (key:Int):getR err ps key= .tuple #[.string (gvR err ps key),.int .i64 (geR err ps key)]:=by
 unfold getR gvR geR
 by_cases h:err≠0
 ·rw[if_pos h,if_pos (Or.inl h),if_pos h]
 ·rw[if_neg h,if_neg h]
  by_cases h2:idxK ps key= -1
  ·rw[if_pos h2,if_pos (Or.inr h2),if_pos h2]
  ·rw[if_neg h2,if_neg (by rintro(h3 | h3);exact h h3;exact h2 h3),if_neg h2]
theorem q8z.det {bs:List Int} {rs rs':List (List (Int×NodeA))} (h:q8z bs rs) (h':q8z bs rs'):rs=rs':=by
 obtain⟨_,_,n,h1,h2⟩:=h
 obtain⟨_,_,n',k1,k2⟩:=h'
 rw[h1] at k1
 injection k1 with k1
 subst k1
 exact q3f.det h2 k2
theorem CheckLevels_z (x:La) (kv lv0:Value) (xs:List Int) (l:List Sp) (at' key:Int) (ha:0≤at'∧at'≤18446744073709551615) (hkey:0≤key∧key≤18446744073709551615) (hxs: ∀y∈xs,U64 y) (hsp: ∀s∈l,SpOK s) (hxl:xs.length≤9223372036854775807) (hll:l.length≤9223372036854775807) (hx:I64 x.slabs∧I64 x.per∧I64 x.lag) (w:World) (hK:q1w .u64 w kv xs) (hS:SpsAt w lv0 l):
  Calls Tryz.prog 6 #[.agg (laC x kv),lv0,.int .u64 at',.int .u64 key] w fun e w'=>e= .returned (.bool true)∧Below w.heap.size w w':=by
 obtain⟨W1,hW1⟩: ∃W1,W1=w.alloc (.cells (laC x kv) 24):=⟨_,rfl⟩
 have hb1:Below w.heap.size w W1:=by rw[hW1];exact ba (Below.refl _ _) _
 have k1:Blk W1 w.heap.size 24 (laC x kv):=by rw[hW1];exact Blk.new _ _ _
 have hld:=la_ld k1
 have AZ:=hid (Arena_z x kv lv0 xs l hxs hsp hxl hll hx W1 (hK.bel hb1) (hS.bel hb1))
 have HW1:=hid hW1
 have HB1:=hid hb1
 have HKY:=hid hkey
 clear hW1 hb1 k1 hxs hsp hxl hll hx hK hS hkey
 go_enter Tryz.func6,Tryz.ntmps6
 go_upto_region 1 with fail
 rw[show _=W1 from HW1.out.symm]
 go_wp2_with fail
 refine AZ.out.mono ?_
 rintro e W2 ⟨hb2,h2⟩
 have HB2:=hid (bx HB1.out hb2)
 clear hld hb2
 rcases h2 with rfl | ⟨g,b,n,R,lv,rows,R0,rfl,_,hg,hbb,hSp,_,_⟩
 ·go_wp2_with fail
  refine(known23_z _).mono ?_
  rintro e w3 ⟨rfl,hb3⟩
  have HB3:=hid (bx HB2.out hb3)
  clear hb3
  go_wp2
  go_ret
  exact⟨rfl,HB3.out⟩
 obtain⟨bs,hbs⟩: ∃bs,bs=R.bs:=⟨_,rfl⟩
 have hn:n=bs.length:=by rw[hbs];exact hSp.ar.ln
 have hn1:n≤100000:=by have:=hSp.sl;omega
 have hsz:0<q0w (bs.length:Int):=by
  have:=hSp.sl
  rw[←hn,this.1]
  unfold q0w
  rw[if_pos (by omega)]
  omega
 have hbyt: ∀x∈bs,0≤x∧x<256:=by rw[hbs];exact hSp.ar.byt
 have hkb:Blk W2 b 5 (byC bs):=by rw[hbs];exact hSp.ar.by'
 have hgk:=hSp.ar.blk
 have HBI:Hid (∀W,Below W2.heap.size W2 W→q1m W (some ⟨b,0,none⟩) n bs):=hid (fun W hb=>bytesIn_blk (hkb.bel hb) hbyt (by omega))
 have HC0:Hid (∀W,Below W2.heap.size W2 W→W.cell? ⟨g,0,none⟩=some (.slice (some ⟨b,0,none⟩) n n)):=hid (fun W hb=>(hgk.bel hb).cell 0)
 obtain⟨nd,hnd⟩: ∃nd,nd=ndR (q1y bs at'):=⟨_,rfl⟩
 obtain⟨er,her⟩: ∃er,er=erR (q1y bs at'):=⟨_,rfl⟩
 have CN:=hid (CkNode_z b 0 n n bs at' hn hn1 (Nat.le_refl _) (by omega) ha W2 (HBI.out _ (Below.refl _ _)))
 have RN:=hid (fun W hb=>x5e (some ⟨b,0,none⟩) n bs n hn (by omega) at' ha W (HBI.out W hb))
 have RO:=hid (fun W hb=>v4u (some ⟨b,0,none⟩) n bs n hn hsz W (HBI.out W hb))
 have LD:=hid (fun W hb=>v5m (some ⟨b,0,none⟩) n bs n hn (by omega) W (HBI.out W hb))
 have LV:=hid (fun W hb=>Levels_z (some ⟨b,0,none⟩) n n bs hn (by omega) (by omega) W (HBI.out W hb))
 rw[nodeR_eq,←hnd,←her] at CN RN
 have HNE:Hid (∀W,nqR Tryz.prog 55 (.agg (q0x nd)) (.agg (q0x nd)) W= .ok (.bool false) W):=hid (fun W=>by
  rw[hnd]
  exact(neq_nodeR hbyt at' W:))
 have HBY:=hid hbyt
 have HN:=hid (⟨hn,hn1⟩:_∧_)
 have c0:=HC0.out W2 (Below.refl _ _)
 clear hSp hkb hgk hn hn1 hbyt hbs hg hbb hnd her hsz
 go_wp2_with fail
 refine CN.out.mono ?_
 rintro e w3 ⟨rfl,hb3⟩
 obtain⟨W4,st4,k4,hb4⟩:=q3e w3 nd
 have HB4:=hid (bx hb3 hb4)
 have RN4:=hid (RN.out W4 HB4.out)
 have c04:=HC0.out W4 HB4.out
 have HK4:=hid k4
 clear hb3 hb4 k4 c0
 go_wp2_with fail
 refine RN4.out.mono ?_
 rintro e w5 ⟨rfl,hb5⟩
 obtain⟨W6,st6,k6,hb6⟩:=q3e w5 nd
 have HB6:=hid (bx HB4.out (bx hb5 hb6))
 have ld1:=q2j ((HK4.out.bel hb5).bel hb6)
 have ld2:=q2j k6
 have ne1:=HNE.out W6
 have c06:=HC0.out W6 HB6.out
 have RO6:=hid (RO.out W6 HB6.out)
 have be:(er==er)=true:=by simp
 have be2:(er !=er)=false:=by simp
 clear hb5 hb6 k6 c04 st4
 go_wp2_with fail
 refine RO6.out.mono ?_
 rintro e w7 ⟨hb7,hrow⟩
 obtain⟨ra,rn,rc,rt,rfl,hR⟩: ∃ra rn rc rt,e= .returned (.tuple #[.slice ra rn rc,.bool rt])∧((∃rs,q8z bs rs∧rt=true∧rn=rs.length∧q4x w7 W6.heap.size (.slice ra rn rc) rs)∨((∀rs,¬q8z bs rs)∧rt=false)):=by
  rcases hrow with⟨rs,a,c,q1,q2,q3⟩ | ⟨q1,q2⟩
  ·exact⟨a,rs.length,c,true,q2,Or.inl ⟨rs,q1,rfl,rfl,q3⟩⟩
  ·exact⟨none,0,0,false,q2,Or.inr ⟨q1,rfl⟩⟩
 have HR:=hid hR
 have HB7:=hid (bx HB6.out hb7)
 have c07:=HC0.out w7 HB7.out
 have LD7:=hid (LD.out w7 HB7.out)
 clear hrow hR hb7 ld1 ld2 ne1 be be2 c06 st6
 by_cases hex: ∃rs ps,q1a bs rs ps
 ·obtain⟨rs,ps,hok⟩:=hex
  obtain⟨leaves,hlf,hvl⟩:=hok.vals
  have hro:q8z bs rs:=⟨hok.slabs,hok.sup,hok.rows⟩
  obtain⟨rfl,hrn,hRD⟩:rt=true∧rn=rs.length∧q4x w7 W6.heap.size (.slice ra rn rc) rs:=by
   rcases HR.out with⟨rs',q1,q2,q3,q4⟩ | ⟨q1,_⟩
   ·have e:=q8z.det q1 hro
    subst e
    exact⟨q2,q3,q4⟩
   ·exact absurd hro (q1 rs)
  have hfw:=x2n HBY.out hro
  have hpl:ps.length≤1000000:=by
   have q4:=z1h leaves
   have q5:=hfw.2.2.1 leaves (List.mem_of_getLast? hlf)
   have q6:=x2c hvl
   omega
  have HPL:=hid hpl
  have hsm:=z9b HBY.out hok
  have hm16:rn≤16:=by rw[hrn];exact hfw.1
  obtain⟨hh,nn,RR,FF,KK,hDL⟩: ∃(hh nn:Int) (RR FF KK:List Int),∀w w' e,q6r bs w e w'→Below w.heap.size w w'∧z3f hh nn 0 ps RR FF KK e w':=⟨_,_,_,_,_,fun w w' e h=>x3x hok hlf h⟩
  have DL:=hid hDL
  have GT:=hid (fun W hb=>Get_z (some ⟨b,0,none⟩) n n bs key HN.out.1 (by have:=HN.out.2;omega) (by have:=HN.out.2;omega) W (HBI.out W hb) _ _ 0 ps _ _ _ hpl (fun w w' e h=>x8b HBY.out hok hlf h))
  have HX:=hid (⟨hok,hrn,hfw,hsm⟩:_∧_∧_∧_)
  have HRD:=hid hRD
  clear hok hlf hvl hro hrn hRD hfw hpl hsm hDL HR
  go_wp2_with fail
  refine LD7.out.mono ?_
  intro e w8 hp
  obtain⟨hb8,pa,pc,xa,xc,fa,fc,ka,kc,rfl,hrep⟩:=DL.out _ _ _ hp
  clear hp
  obtain⟨pn,hpn⟩: ∃pn,pn=ps.length:=⟨_,rfl⟩
  obtain⟨xn,hxn⟩: ∃xn,xn=RR.length:=⟨_,rfl⟩
  obtain⟨fn,hfn⟩: ∃fn,fn=FF.length:=⟨_,rfl⟩
  obtain⟨kn,hkn⟩: ∃kn,kn=KK.length:=⟨_,rfl⟩
  rw[←hpn,←hxn,←hfn,←hkn] at hrep ⊢
  obtain⟨W9,st9,k9,hb9⟩:=rep_put w8 pa xa fa ka pn pc xn xc fn fc kn kc hh nn
  have HB9:=hid (bx HB7.out (bx hb8 hb9))
  have HB79:=hid (bx hb8 hb9)
  have c09:=HC0.out W9 HB9.out
  have LV9:=hid (LV.out W9 HB9.out)
  have hpa:=hrep.pa.bel hb9
  rw[←hpn] at hpa
  have HPA:=hid (⟨hpa,hpn⟩:_∧_)
  have HK9:=hid k9
  clear hb8 hb9 c07 hrep k9 hpn hxn hfn hkn hpa
  go_wp2_with fail
  refine LV9.out.mono ?_
  rintro e w10 ⟨hb10,(⟨rs',ps',la,lc,hok',rfl,hch⟩ | ⟨hno,rfl⟩)⟩
  rotate_left
  ·exact absurd HX.out.1 (hno rs ps)
  obtain⟨rfl,rfl⟩:=z7c hok' HX.out.1
  rw[←HX.out.2.1] at hch ⊢
  have HB10:=hid (bx HB9.out hb10)
  have HB910:=hid hb10
  have c10:=HC0.out w10 HB10.out
  have GT10:=hid (GT.out w10 HB10.out)
  have HCH:=hid hch
  clear hb10 c09 st9 hch hok'
  go_wp2_with fail
  refine GT10.out.mono ?_
  rintro e w11 ⟨rfl,hb11⟩
  obtain⟨V,hV⟩: ∃V,V=gvR 0 ps' key:=⟨_,rfl⟩
  obtain⟨E,hE⟩: ∃E,E=geR 0 ps' key:=⟨_,rfl⟩
  rw[getR_eq,←hV,←hE]
  have HVE:=hid (⟨hV,hE⟩:_∧_)
  have HB11:=hid (bx HB10.out hb11)
  have HC11:=hid (HCH.out.only (Only.of_below hb11 []) (by simp))
  have HR11:=hid (HRD.out.bel (bx HB79.out (bx HB910.out hb11)))
  have HP11:=hid (HPA.out.1.bel (bx HB910.out hb11))
  have HK11:=hid (HK9.out.bel (bx HB910.out hb11))
  have be:(rn==rn)=true:=by simp
  clear hb11 c10 hV hE HCH HRD HK9
  go_wp2_with fail
  go_loopw [22,23,24] (fun iv s23 s24 wr=> ∃i:Nat,i≤rn∧iv= .int .i64 i∧Hid (Below w11.heap.size w11 wr)) (fun iv _ _ _=>rn- (intOf iv).toNat)
  case atStart=>exact⟨0,Nat.zero_le _,rfl,Below.refl _ _⟩
  case round=>
   obtain⟨i,hi,rfl,hI⟩:=hrel
   obtain⟨wA,rfl⟩: ∃x,x=wr:=⟨_,rfl⟩
   by_cases hlt:i<rn
   ·have i1:(i:Int)< (rn:Int):=by omega
    have i0:(0:Int)≤(i:Int):=by omega
    obtain⟨j,hj⟩: ∃j:Nat,i+j+1=rn:=⟨rn-1-i,by omega⟩
    have w1:IntKind.i64.wrap ((rn:Int)-1)=(rn:Int)-1:=by rw[IntWalk.i64_in _ (by omega)]
    have w2:IntKind.i64.wrap ((rn:Int)-1- (i:Int))=(j:Int):=by rw[IntWalk.i64_in _ (by omega)];omega
    have j0:(0:Int)≤(j:Int):=by omega
    have j1:(j:Int)< (rn:Int):=by omega
    have hjl:j<rs'.length:=by have:=HX.out.2.1;omega
    obtain⟨row,hrow⟩: ∃row,rs'[j]?=some row:=⟨_,List.getElem?_eq_getElem hjl⟩
    obtain⟨rl,hrl⟩: ∃rl,rl=row.length:=⟨_,rfl⟩
    have hr8:rl≤8320:=by rw[hrl];exact HX.out.2.2.1.2.2.1 row (List.mem_of_getElem? hrow)
    obtain⟨vs,v1,v2,v3⟩:=HC11.out.only (Only.of_below hI.out []) (by simp)
    rw[List.length_reverse,←HX.out.2.1] at v1 v2
    obtain⟨a',c',q1,q2⟩:=v3 i row (by rw[List.getElem?_reverse (by have:=HX.out.2.1;omega),show rs'.length-1-i=j by have:=HX.out.2.1;omega];exact hrow)
    obtain⟨g2,lc',e2,_,_,_,hc2⟩:=q2e v2 (by omega)
    injection e2 with e2 en1 e3
    subst e2 e3
    have z1:=hc2 i _ q1
    rw[Nat.zero_add,←hrl] at z1
    obtain⟨us,u1,u2,u3⟩:=(HR11.out.bel hI.out).ex
    obtain⟨b1,d1,b2,d2,p1,p2⟩:=u3 j row hrow
    obtain⟨g3,rc',e4,_,_,_,hc3⟩:=q6o u2 (by have:=HX.out.2.1;omega)
    injection e4 with e4 en2 e5
    subst e4 e5
    have z2:=hc3 (j*2) _ (v7i p1).1
    rw[Nat.zero_add,←hrl] at z2
    have HRW:=hid (⟨q2,p2.at',hrl,hlt⟩:_∧_∧_∧_)
    have be3:(rl==rl)=true:=by simp
    clear en1 en2 hlt hi hj hjl hrow hrl v1 v2 v3 q1 q2 hc2 u1 u2 u3 p1 p2 hc3
    go_wp2
    go_loopw [24] (fun kv wr=> ∃k:Nat,k≤rl∧kv= .int .i64 k∧Hid (Below wA.heap.size wA wr)) (fun kv _=>rl- (intOf kv).toNat)
    case atStart=>exact⟨0,Nat.zero_le _,rfl,Below.refl _ _⟩
    case round=>
     obtain⟨k,hk,rfl,hJ⟩:=hrel
     by_cases hkl:k<rl
     ·have k1:(k:Int)< (rl:Int):=by omega
      have k0:(0:Int)≤(k:Int):=by omega
      obtain⟨x,hx⟩: ∃x,row[k]?=some x:=⟨_,List.getElem?_eq_getElem (by have:=HRW.out.2.2.1;omega)⟩
      have r1:=HRW.out.1
      have r2:=HRW.out.2.1
      unfold rowU at r1
      rw[List.length_map] at r1
      have r1:=(Only.of_below hJ.out []).own r1 (by simp)
      have r2:=(Only.of_below hJ.out []).own r2 (by simp)
      obtain⟨g4,_,f1,_,_,_,f2⟩:=q2e r1 (by have:=HRW.out.2.2.1;omega)
      injection f1 with f1 en3 en4
      subst f1
      clear en3 en4
      have y1:=f2 k (.int .u64 x.1) (by rw[List.map_map,List.getElem?_map,hx];rfl)
      obtain⟨g5,_,f3,_,_,_,f4⟩:=q2e r2 (by have:=HRW.out.2.2.1;omega)
      injection f3 with f3 en3 en4
      subst f3
      clear en3 en4
      have y2:=f4 k (.int .u64 x.1) (by rw[List.getElem?_map,hx];rfl)
      rw[Nat.zero_add] at y1 y2
      have z1':=(hJ.out.cell (p:=⟨g2,i,none⟩) (World.block_lt_of_cell? _ _ z1)).trans z1
      have be4:(x.1==x.1)=true:=by simp
      have HKL:=hid hkl
      clear hx r1 r2 f2 f4 hkl hk
      go_wp2
      go_region
      all_goals go_wp2
      go_roundw
      case rel=>exact⟨k+1,HKL.out,by go_num,hJ.out.drew⟩
      case measure=>have:=HKL.out;first | (simp[intOf];done) | (simp[intOf];omega)
     ·have k1: ¬(k:Int)< (rl:Int):=by omega
      have HB:=hid (bx hI.out hJ.out)
      have HLT:=hid HRW.out.2.2.2
      clear hkl hk HRW
      go_wp2
      go_roundw
      case rel=>exact⟨i+1,HLT.out,by go_num,HB⟩
      case measure=>have:=HLT.out;first | (simp[intOf];done) | (simp[intOf];omega)
   ·have i1: ¬(i:Int)< (rn:Int):=by omega
    clear hlt hi
    go_wp2
    go_loopw [25] (fun iv wr=> ∃i:Nat,i≤pn∧iv= .int .i64 i∧Hid (Below w11.heap.size w11 wr∧ ∀j y,j<i→ps'[j]?=some y→(y.1==key)=false)) (fun iv _=>pn- (intOf iv).toNat)
    case atStart=>exact⟨0,Nat.zero_le _,rfl,hI.out,fun j y hj=>absurd hj (Nat.not_lt_zero _)⟩
    case round=>
     obtain⟨i,hi,rfl,hJ⟩:=hrel
     have r0:=(HK11.out.bel hJ.out.1).cell 0
     by_cases hlt:i<pn
     ·have i1:(i:Int)< (pn:Int):=by omega
      have i0:(0:Int)≤(i:Int):=by omega
      obtain⟨x,hx⟩: ∃x,ps'[i]?=some x:=⟨_,List.getElem?_eq_getElem (by have:=HPA.out.2;omega)⟩
      obtain⟨g6,off,rfl,c1,c2⟩: ∃g off,pa=some ⟨g,off,none⟩∧wr.cell? ⟨g,off+i*2,none⟩=some (.int .u64 x.1)∧wr.cell? ⟨g,off+i*2+1,none⟩=some (.string x.2):=by
       obtain⟨p1,p2⟩:=z5n ps' i x hx
       rcases HP11.out.bel hJ.out.1 with⟨_,h2,_⟩ | ⟨b,off,c,h1,h2⟩
       ·omega
       ·injection h1 with h1 _ _
        exact⟨b,off,h1,h2 _ _ p1,by rw[Nat.add_assoc];exact h2 _ _ p2⟩
      have hp6:pn≤1000000:=by have:=HPL.out;have:=HPA.out.2;omega
      have HIX:=hid (⟨hx,hlt⟩:_∧_)
      clear hx hlt hi
      cases hb:(x.1==key)
      ·go_wp2
       go_roundw
       case rel=>
        refine⟨i+1,HIX.out.2,by go_num,hJ.out.1,fun j y hj hy=> ?_⟩
        by_cases hji:j=i
        ·subst hji;rw[HIX.out.1] at hy;injection hy with hy;subst hy;exact hb
        ·exact hJ.out.2 j y (by omega) hy
       case measure=>have:=HIX.out.2;first | (simp[intOf];done) | (simp[intOf];omega)
      ·have ek:=idxK_at HIX.out.1 hJ.out.2 hb
       have eV:V=x.2:=by
        rw[HVE.out.1];unfold gvR
        rw[ek,if_neg (by omega),Int.toNat_natCast,List.getD_eq_getElem?_getD,HIX.out.1];rfl
       have eE:E=0:=by
        rw[HVE.out.2];unfold geR
        rw[ek,if_neg (by omega),if_neg (by omega)]
       subst eE
       rw[eV]
       have bs1:(x.2.data.toList==x.2.data.toList)=true:=by simp
       have HBK:=hid (bx HB11.out hJ.out.1)
       clear ek eV
       go_wp2_with fail
       refine(known23_z _).mono ?_
       rintro e w12 ⟨rfl,hb12⟩
       have HB12:=hid (bx HB2.out (bx HBK.out hb12))
       clear hb12
       go_wp2
       go_ret
       exact⟨rfl,HB12.out⟩
     ·have i1: ¬(i:Int)< (pn:Int):=by omega
      have ek:idxK ps' key= -1:=idxK_no (fun y hy=>by
       obtain⟨j,hj⟩:=List.mem_iff_getElem?.1 hy
       exact hJ.out.2 j y (by have:=(List.getElem?_eq_some_iff.1 hj).1;have:=HPA.out.2;omega) hj)
      have eV:V=⟨#[]⟩:=by
       rw[HVE.out.1];unfold gvR
       rw[if_pos (Or.inr ek)]
      have eE:E=5:=by
       rw[HVE.out.2];unfold geR
       rw[ek];rfl
      subst eE eV
      have HBK:=hid (bx HB11.out hJ.out.1)
      clear ek hlt hi
      go_wp2_with fail
      refine(known23_z _).mono ?_
      rintro e w12 ⟨rfl,hb12⟩
      have HB12:=hid (bx HB2.out (bx HBK.out hb12))
      clear hb12
      go_wp2
      go_ret
      exact⟨rfl,HB12.out⟩
 ·have hno: ∀rs ps,¬q1a bs rs ps:=fun rs ps h=>hex ⟨rs,ps,h⟩
  have HNO:=hid hno
  have GT:=hid (fun W hb=>Get_z (some ⟨b,0,none⟩) n n bs key HN.out.1 (by have:=HN.out.2;omega) (by have:=HN.out.2;omega) W (HBI.out W hb) 0 0 6 [] [] [] [] (by simp) (fun w w' e h=>by
   obtain⟨rfl,h2⟩:=z6u hno h
   exact⟨h2,z1j w'⟩))
  clear hex hno
  go_wp2_with fail
  refine LD7.out.mono ?_
  intro e w8 hp
  obtain⟨rfl,hb8⟩:=x3a HNO.out hp
  obtain⟨W9,st9,hb9⟩:=rep_put0 w8
  have HB9:=hid (bx HB7.out (bx hb8 hb9))
  have c09:=HC0.out W9 HB9.out
  have LV9:=hid (LV.out W9 HB9.out)
  clear hp hb8 hb9 c07
  go_wp2_with fail
  refine LV9.out.mono ?_
  rintro e w10 ⟨hb10,(⟨rs,ps,_,_,hok,_⟩ | ⟨_,rfl⟩)⟩
  ·exact absurd hok (HNO.out rs ps)
  have HB10:=hid (bx HB9.out hb10)
  have c10:=HC0.out w10 HB10.out
  have GT10:=hid (GT.out w10 HB10.out)
  clear hb10 c09 st9
  go_wp2_with fail
  refine GT10.out.mono ?_
  rintro e w11 ⟨rfl,hb11⟩
  have eG:getR 6 [] key= .tuple #[.string ⟨#[]⟩,.int .i64 6]:=rfl
  rw[eG]
  have HB11:=hid (bx HB10.out hb11)
  clear hb11 c10 eG
  go_wp2_with fail
  refine(known23_z _).mono ?_
  rintro e w12 ⟨rfl,hb12⟩
  have HB12:=hid (bx HB2.out (bx HB11.out hb12))
  clear hb12
  go_wp2
  go_ret
  exact⟨rfl,HB12.out⟩
end Go.Proofs.YtibiekfjbibpbaaGreat
