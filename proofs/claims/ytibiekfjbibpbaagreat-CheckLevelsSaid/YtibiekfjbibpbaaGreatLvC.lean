/- check.Get: a key's value. Get$1 asks whether a pair is the key's. -/
import Derived.Test.YtibiekfjbibpbaaGreatRepM
import Derived.Test.YtibiekfjbibpbaaGreatDocL
import Derived.Test.YtibiekfjbibpbaaGreatByteW
set_option maxRecDepth 100000
set_option maxHeartbeats 1000000
set_option linter.unusedVariables false
set_option linter.unusedSimpArgs false
namespace Go.Proofs.YtibiekfjbibpbaaGreat
open Go.RowKit
theorem GetP_z (x:Int×ByteArray) (key:Int) (g:Nat) (w:World) (hc:w.cell? ⟨g,0,none⟩=some (.int .u64 key)):
  Calls Tryz.prog 102 #[.agg #[.int .u64 x.1,.string x.2],.pointer (some ⟨g,0,none⟩)] w fun e w'=>e= .returned (.bool (x.1==key))∧Below w.heap.size w w':=by
 obtain⟨W1,hW1⟩: ∃W1,W1=w.alloc (.cells #[.int .u64 x.1,.string x.2] 48):=⟨_,rfl⟩
 have hb1:Below w.heap.size w W1:=by rw[hW1];exact ba (Below.refl _ _) _
 have k1:Blk W1 w.heap.size 48 #[.int .u64 x.1,.string x.2]:=by rw[hW1];exact Blk.new _ _ _
 have z0:W1.cell? ⟨w.heap.size,0,none⟩=some (.int .u64 x.1):=k1.cell 0
 have z1:W1.cell? ⟨g,0,none⟩=some (.int .u64 key):=(hb1.cell (p:=⟨g,0,none⟩) (World.block_lt_of_cell? w _ hc)).trans hc
 have HB:=hid hb1
 have HW:=hid hW1
 clear hW1 hb1 k1 hc
 go_enter Tryz.func102,Tryz.ntmps102
 go_upto_region 1 with fail
 rw[show _=W1 from HW.out.symm]
 go_wp2
 go_ret
 exact⟨rfl,HB.out⟩
def idxK (l:List (Int×ByteArray)) (key:Int):Int:=if l.any (fun x=>x.1==key) then(l.findIdx (fun x=>x.1==key):Int) else-1
theorem idxK_at {l:List (Int×ByteArray)} {key:Int} {k:Nat} {x:Int×ByteArray} (hx:l[k]?=some x) (h0: ∀j y,j<k→l[j]?=some y→(y.1==key)=false) (h1:(x.1==key)=true):idxK l key=(k:Int):=by
 have hk:k<l.length:=(List.getElem?_eq_some_iff.1 hx).1
 have hk2:l[k]=x:=(List.getElem?_eq_some_iff.1 hx).2
 rw[idxK,if_pos (List.any_eq_true.2 ⟨x,List.mem_of_getElem? hx,h1⟩)]
 congr 1
 rw[List.findIdx_eq hk]
 exact⟨by rw[hk2];exact h1,fun j hj=>by simpa using h0 j l[j] hj (List.getElem?_eq_getElem (by omega))⟩
theorem idxK_no {l:List (Int×ByteArray)} {key:Int} (h0: ∀y∈l,(y.1==key)=false):idxK l key= -1:=by
 rw[idxK,if_neg]
 rw[List.any_eq_true]
 rintro⟨y,hy,hp⟩
 rw[h0 y hy] at hp;cases hp
theorem IdxK_z (l:List (Int×ByteArray)) (key:Int) (kb:Nat) (v:Value) (hl:l.length≤1000000) (w:World) (h:q1b w v l.length (l.flatMap q5v)) (hc:w.cell? ⟨kb,0,none⟩=some (.int .u64 key)):
  Calls Tryz.prog 101 #[v,.func (.func 102) #[] #[.pointer (some ⟨kb,0,none⟩)]] w fun e w'=>e= .returned (.int .i64 (idxK l key))∧Below w.heap.size w w':=by
 obtain⟨n,hn⟩: ∃n,n=l.length:=⟨_,rfl⟩
 obtain⟨va,vc,rfl⟩: ∃va vc,v= .slice va n vc:=by
  rcases h with⟨h1,h2,_⟩ | ⟨b,off,c,h1,_⟩
  ·exact⟨none,0,by rw[h1,hn,h2]⟩
  ·exact⟨_,c,by rw[h1,hn]⟩
 have HN:=hid hn
 have HC:=hid h
 have HP:=hid (fun(W:World) (hb:Below w.heap.size w W) (x:Int×ByteArray)=>GetP_z x key kb W ((hb.cell (p:=⟨kb,0,none⟩) (World.block_lt_of_cell? w _ hc)).trans hc))
 have h8:n≤1000000:=by omega
 clear hn h hc hl
 go_enter Tryz.func101,Tryz.ntmps101
 go_wp2
 go_loopw [8] (fun i wr=> ∃k:Nat,k≤n∧i= .int .i64 k∧Hid (Below w.heap.size w wr)∧Hid (∀j y,j<k→l[j]?=some y→(y.1==key)=false)) (fun i _=>n- (intOf i).toNat)
 case atStart=>exact⟨0,Nat.zero_le _,rfl,Below.refl _ _,fun j y hj=>absurd hj (Nat.not_lt_zero _)⟩
 case round=>
  obtain⟨k,hk,rfl,hI,hA⟩:=hrel
  by_cases hkn:k<n
  ·have i1:(0:Int)≤(k:Int):=by omega
   have i2:(k:Int)< (n:Int):=by omega
   obtain⟨x,hx⟩: ∃x,l[k]?=some x:=⟨_,List.getElem?_eq_getElem (by rw[←HN.out];exact hkn)⟩
   obtain⟨g,off,rfl,c1,c2⟩: ∃g off,va=some ⟨g,off,none⟩∧wr.cell? ⟨g,off+k*2,none⟩=some (.int .u64 x.1)∧wr.cell? ⟨g,off+k*2+1,none⟩=some (.string x.2):=by
    obtain⟨p1,p2⟩:=z5n l k x hx
    rcases HC.out.bel hI.out with⟨_,h2,_⟩ | ⟨b,off,c,h1,h2⟩
    ·have:=HN.out;omega
    ·injection h1 with h1 _ _
     exact⟨b,off,h1,h2 _ _ p1,by rw[Nat.add_assoc];exact h2 _ _ p2⟩
   have HX:=hid hx
   have HK:=hid hkn
   have CF:=hid (HP.out wr hI.out x)
   clear hx hkn hk HC
   go_wp2_with fail
   refine CF.out.mono ?_
   rintro e w2 ⟨rfl,hb2⟩
   have H2:=hid (hI.out.trans (hb2.mono hI.out.size))
   obtain⟨b,hb⟩: ∃b,b=(x.1==key):=⟨_,rfl⟩
   rw[←hb]
   have HB:=hid hb
   clear hb hb2 CF c1 c2
   cases b
   ·go_wp2
    go_roundw
    case rel=>
     refine⟨k+1,HK.out,by go_num,H2,fun j y hj hy=> ?_⟩
     by_cases hjk:j=k
     ·subst hjk;rw[HX.out] at hy;injection hy with hy;subst hy;exact HB.out.symm
     ·exact hA.out j y (by omega) hy
    case measure=>simp[intOf];have:=HK.out;omega
   ·go_wp2
    go_ret
    exact⟨by rw[idxK_at HX.out hA.out HB.out.symm];rfl,H2.out⟩
  ·obtain rfl:k=n:=by omega
   have i2: ¬(k:Int)< (k:Int):=by omega
   clear hkn hk
   go_wp2
   go_ret
   exact⟨by
    rw[idxK_no (fun y hy=>by
     obtain⟨j,hj⟩:=List.mem_iff_getElem?.1 hy
     exact hA.out j y (by have:=(List.getElem?_eq_some_iff.1 hj).1;have:=HN.out;omega) hj)]
    rfl,hI.out⟩
theorem idxK_cases (l:List (Int×ByteArray)) (key:Int):idxK l key= -1∨ ∃(k:Nat) (x:Int×ByteArray),idxK l key=(k:Int)∧l[k]?=some x∧x.1=key:=by
 unfold idxK
 split
 ·rename_i h
  right
  have hlt:=List.findIdx_lt_length_of_exists (p:=fun x:Int×ByteArray=>x.1==key) (by simpa using h)
  refine⟨_,_,rfl,List.getElem?_eq_getElem hlt,?_⟩
  have:=List.findIdx_getElem (w:=hlt)
  simpa using this
 ·exact Or.inl rfl
def getR (err:Int) (ps:List (Int×ByteArray)) (key:Int):Value:=
 if err≠0 then .tuple #[.string ⟨#[]⟩,.int .i64 err]
 else if idxK ps key= -1 then .tuple #[.string ⟨#[]⟩,.int .i64 5] else .tuple #[.string (ps.getD (idxK ps key).toNat (0,⟨#[]⟩)).2,.int .i64 0]
theorem Get_z (p:Option Addr) (n cap:Nat) (bs:List Int) (key:Int) (hn:n=bs.length) (h6:n≤1000000) (hcap:cap≤9223372036854775807) (w:World) (h:q1m w p cap bs) (hh nn err:Int) (ps:List (Int×ByteArray)) (R F K:List Int) (hl:ps.length≤1000000)
  (hlk: ∀w w' e,q3u bs w e w'→Below w.heap.size w w'∧z3f hh nn err ps R F K e w'):
  Calls Tryz.prog 26 #[.slice p n cap,.int .u64 key] w fun e w'=>e= .returned (getR err ps key)∧Below w.heap.size w w':=by
 have hmf: ∀(fn:Fn) (first cap:Array Value) (w:World),(Instr.makeFunc fn first cap).run Tryz.prog w= .ok (.func fn first cap) w:=fun _ _ _ _=>rfl
 obtain⟨W1,hW1⟩: ∃W1,W1=w.alloc (.cells #[.int .u64 key] 46):=⟨_,rfl⟩
 have hb1:Below w.heap.size w W1:=by rw[hW1];exact ba (Below.refl _ _) _
 have k1:Blk W1 w.heap.size 46 #[.int .u64 key]:=by rw[hW1];exact Blk.new _ _ _
 have LK:=hid ((v8x p n cap bs hn h6 hcap W1 (q2d h hb1)).mono fun e w' hp=>hlk _ _ _ hp)
 have HB1:=hid hb1
 have HW1:=hid hW1
 have HK1:=hid k1
 clear hn h6 hcap h hlk hW1 hb1 k1
 go_enter Tryz.func26,Tryz.ntmps26
 go_upto_region 1 with fail
 rw[show _=W1 from HW1.out.symm]
 go_wp2_with fail
 refine LK.out.mono ?_
 rintro e w2 ⟨hb2,pa,pc,ra,rc,fa,fc,ka,kc,rfl,hrep⟩
 obtain⟨pn,hpn⟩: ∃pn,pn=ps.length:=⟨_,rfl⟩
 obtain⟨W3,hW3⟩: ∃W3,W3=w2.alloc (.cells #[.slice pa ps.length pc,.slice ra R.length rc,.slice fa F.length fc,.slice ka K.length kc,.int .i64 hh,.int .i64 nn] 32):=⟨_,rfl⟩
 obtain⟨T1,hT1⟩: ∃T1,T1=w2.heap.size:=⟨_,rfl⟩
 have hb3:Below w2.heap.size w2 W3:=by rw[hW3];exact ba (Below.refl _ _) _
 have k3:Blk W3 T1 32 #[.slice pa ps.length pc,.slice ra R.length rc,.slice fa F.length fc,.slice ka K.length kc,.int .i64 hh,.int .i64 nn]:=by rw[hW3,hT1];exact Blk.new _ _ _
 have c0:W3.cell? ⟨T1,0,none⟩=some (.slice pa pn pc):=by rw[hpn];exact k3.cell 0
 have hbb:=bx hb2 hb3
 have IK:=hid (IdxK_z ps key w.heap.size (.slice pa ps.length pc) hl W3 (hrep.pa.bel hb3) ((HK1.out.bel hbb).cell 0))
 have HP3:=hid (hrep.pa.bel hb3)
 have HB3:=hid (bx HB1.out hbb)
 have HPN:=hid hpn
 have HW3:=hid hW3
 have HT1:=hid hT1
 rw[←hpn] at IK HP3 HW3 ⊢
 clear hb2 hrep hb3 k3 hbb hW3 hT1 hl LK hpn
 by_cases he:err=0
 ·subst he
  go_upto_region 4 with fail
  rw[show _=W3 from HW3.out.symm]
  rw[←HT1.out]
  clear HW3 HT1
  go_wp2_with fail
  refine IK.out.mono ?_
  rintro e w4 ⟨rfl,hb4⟩
  have HB4:=hid (bx HB3.out hb4)
  rcases idxK_cases ps key with hno | ⟨k,x,hk,hx,_⟩
  ·have HG:Hid (Ending.returned (.tuple #[.string ⟨#[]⟩,.int .i64 5])= .returned (getR 0 ps key)):=hid (by unfold getR;rw[if_neg (by simp),if_pos hno])
   rw[hno]
   clear hb4 c0 hno
   go_wp2
   refine bodyPost_ret (v:= .tuple #[.string ⟨#[]⟩,.int .i64 5]) (by simp[results,Tryz.results26,go_sem]) rfl ?_
   exact⟨HG.out,HB4.out⟩
  ·have HG:Hid (Ending.returned (.tuple #[.string x.2,.int .i64 0])= .returned (getR 0 ps key)):=hid (by unfold getR;rw[if_neg (by simp),if_neg (by omega),hk,Int.toNat_natCast,List.getD_eq_getElem?_getD,hx];rfl)
   have hkn:k<pn:=by rw[HPN.out];exact(List.getElem?_eq_some_iff.1 hx).1
   obtain⟨g,off,rfl,c2⟩: ∃g off,pa=some ⟨g,off,none⟩∧w4.cell? ⟨g,off+k*2+1,none⟩=some (.string x.2):=by
    obtain⟨p1,p2⟩:=z5n ps k x hx
    rcases HP3.out.bel hb4 with⟨_,h2,_⟩ | ⟨b,off,c,h1,h2⟩
    ·omega
    ·injection h1 with h1 _ _
     exact⟨b,off,h1,by rw[Nat.add_assoc];exact h2 _ _ p2⟩
   have c0':w4.cell? ⟨T1,0,none⟩=some (.slice (some ⟨g,off,none⟩) pn pc):=(hb4.cell (p:=⟨T1,0,none⟩) (World.block_lt_of_cell? W3 _ c0)).trans c0
   have i0: ¬(k:Int)<0:=by omega
   have i1:(0:Int)≤(k:Int):=by omega
   have i2:(k:Int)< (pn:Int):=by omega
   rw[hk]
   clear hb4 c0 hk hx hkn HP3 IK HPN
   go_wp2
   refine bodyPost_ret (v:= .tuple #[.string x.2,.int .i64 0]) (by simp[results,Tryz.results26,go_sem]) rfl ?_
   exact⟨HG.out,HB4.out⟩
 ·have HG:Hid (Ending.returned (.tuple #[.string ⟨#[]⟩,.int .i64 err])= .returned (getR err ps key)):=hid (by unfold getR;rw[if_pos he])
  have e1:(err !=0)=true:=by simpa using he
  go_upto_region 2 with fail
  rw[show _=W3 from HW3.out.symm]
  clear HW3 HT1 c0
  go_wp2
  refine bodyPost_ret (v:= .tuple #[.string ⟨#[]⟩,.int .i64 err]) (by simp[results,Tryz.results26,go_sem]) rfl ?_
  exact⟨HG.out,HB3.out⟩
end Go.Proofs.YtibiekfjbibpbaaGreat
