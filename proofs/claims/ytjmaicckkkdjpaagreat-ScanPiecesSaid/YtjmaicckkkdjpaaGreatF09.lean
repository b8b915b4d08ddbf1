import Derived.Test.YtjmaicckkkdjpaaGreatF23
set_option maxRecDepth 100000
set_option linter.unusedVariables false
set_option linter.unusedSimpArgs false
/- Snapshots, plainly: what a snapshot's step does; that where nobody stores it comes to the node. -/
namespace Go.Proofs.YtjmaicckkkdjpaaGreat
open Go.RowKit
def wdV (v:List Int) (a:Int):Int:=v.getD (a/8).toNat 0
def inV (v:List Int) (a:Int):Prop:=0≤a∧a % 8=0∧a/8< (v.length:Int)
instance (v:List Int) (a:Int):Decidable (inV v a):=by unfold inV;infer_instance
def upd (f:Nat→Int) (i:Nat) (x:Int):Nat→Int:=fun j=>if j=i then x else f j
def zeroF:Nat→Int:=fun _=>0
def eq24 (a b:Nat→Int):Bool:=(List.range 24).all fun i=>decide (a i=b i)
structure SnP where
 at':Int
 k:Int
 last:Bool
 a:Nat→Int
 b:Nat→Int
 high:Int
 has:Bool
 f:Nat
 over:Bool
 e:Int
 nd:NodeA
def snNew (at':Int):SnP:=⟨at',0,false,zeroF,zeroF,0,false,0,false,0,zeroN⟩
def SnP.anew (x:SnP):SnP:={ x with k:=0,last:=false,a:=zeroF,b:=zeroF,high:=0,has:=false,f:=0 }
def aftK (k w:Int):Int:=if k=2 then 4 else if k=4 then 8 else if k<2 then k+1 else if k % 2=1∧(w=0∨k=23) then-1 else k+1
def SnP.adv (x:SnP) (w:Int):SnP:=
 if 0≤aftK x.k w then{ x with k:=aftK x.k w }
 else if x.last=false then{ x with k:=0,last:=true }
 else{ x with k:=aftK x.k w,f:=if x.a 2≠0 then 2 else 3 }
def SnP.adr (x:SnP):Int:=if x.f=1 then x.at'+8*x.k else if x.f=2 then x.a 2+8 else x.at'+24
def nodeE (f:Nat→Int):NodeA×Int:=if tagN≤f 0∧f 0≤tagN+15 then(nodeOf f,0) else(zeroN,11)
def SnP.got (x:SnP) (w:Int):SnP:=
 if x.f=0 then{ x with a:=upd x.a 3 w,b:=upd x.b 3 w,f:=1 }
 else if x.f=1 then
  (if x.last=true then(if w≠x.a x.k.toNat then({ x with b:=upd x.b x.k.toNat w }:SnP).anew else({ x with b:=upd x.b x.k.toNat w }:SnP).adv w)
  else({ x with a:=upd x.a x.k.toNat w }:SnP).adv w)
 else if x.f=2 then{ x with high:=w,has:=true,f:=3 }
 else if w≠x.a 3∨eq24 x.a x.b=false then x.anew
 else{ x with nd:=(nodeE x.a).1,over:=true,e:=(nodeE x.a).2 }
def SnP.next (v:List Int) (x:SnP):SnP:=if x.over=true then x else x.got (wdV v x.adr)
structure SnP.OK (v:List Int) (x:SnP):Prop where
 inv:inV v x.adr
 lo:0≤x.at'∧x.at'≤1099511627776
 k1:x.f=1→0≤x.k∧x.k<24
 f3:x.f≤3
 live:x.over=false
 e0:x.e=0
 u: ∀i,U64 (x.a i)∧U64 (x.b i)
 vu: ∀y∈v,U64 y
section
variable (W:Nat→Int)
def endF:Nat→Nat→Nat
 | 0,k=>k
 | f+1,k=>if W k=0 then k else endF f (k+2)
def endW:Nat:=endF W 7 9
theorem endF_spec: ∀f k,k≤endF W f k∧endF W f k≤k+2*f∧(endF W f k-k)% 2=0∧(∀j,k≤j→j<endF W f k→(j-k)% 2=0→W j≠0)∧(endF W f k<k+2*f→W (endF W f k)=0)
 | 0,k=>⟨Nat.le_refl _,Nat.le_refl _,by simp[endF],fun j h1 h2=>by simp[endF] at h2;omega,fun h=>by simp[endF] at h⟩
 | f+1,k=>by
  unfold endF
  by_cases h:W k=0
  ·rw[if_pos h]
   exact⟨Nat.le_refl _,by omega,by simp,fun j h1 h2=>by omega,fun _=>h⟩
  ·rw[if_neg h]
   obtain⟨a,b,c,d,e⟩:=endF_spec f (k+2)
   refine⟨by omega,by omega,by omega,fun j h1 h2 h3=> ?_,fun h2=>e (by omega)⟩
   by_cases hj:j=k
   ·subst hj;exact h
   ·exact d j (by omega) h2 (by omega)
theorem endW_odd:9≤endW W∧endW W≤23∧endW W % 2=1:=by
 obtain⟨a,b,c,_⟩:=endF_spec W 7 9
 unfold endW
 omega
theorem endW_not {k:Nat} (h9:9≤k) (h:k<endW W) (ho:k % 2=1):W k≠0:=(endF_spec W 7 9).2.2.2.1 k h9 h (by omega)
theorem endW_is (h:endW W<23):W (endW W)=0:=(endF_spec W 7 9).2.2.2.2 (by unfold endW at h;omega)
def cutW (i:Nat):Int:=if i=5∨i=6∨i=7 then 0 else if i≤endW W then W i else 0
def cutTo (k i:Nat):Int:=if i=3∨i<k then cutW W i else 0
theorem cutW_3:cutW W 3=W 3:=by have:=endW_odd W;unfold cutW;rw[if_neg (by omega),if_pos (by omega)]
theorem cutW_at {k:Nat} (h:k≤endW W) (h5:k<5∨8≤k):cutW W k=W k:=by unfold cutW;rw[if_neg (by omega),if_pos h]
theorem cutTo_all {k:Nat} (h:endW W<k):cutTo W k=cutW W:=by
 funext i
 unfold cutTo
 by_cases hi:i=3∨i<k
 ·rw[if_pos hi]
 ·rw[if_neg hi]
  unfold cutW
  by_cases h5:i=5∨i=6∨i=7
  ·rw[if_pos h5]
  ·rw[if_neg h5,if_neg (by omega)]
theorem cutTo_0:upd zeroF 3 (W 3)=cutTo W 0:=by
 funext i
 unfold upd cutTo zeroF
 by_cases hi:i=3
 ·subst hi;rw[if_pos rfl,if_pos (Or.inl rfl),cutW_3]
 ·rw[if_neg hi,if_neg (by omega)]
def okK (k:Nat):Prop:=k<3∨k=4∨8≤k
def nxK (k:Nat):Nat:=if k=2 then 4 else if k=4 then 8 else k+1
theorem cutTo_upd {k:Nat} (hk:okK k) (h:k≤endW W):upd (cutTo W k) k (W k)=cutTo W (nxK k):=by
 have he:=endW_odd W
 funext i
 unfold upd cutTo okK nxK at*
 by_cases hi:i=k
 ·subst hi
  rw[if_pos rfl,if_pos (by split<;>(try split)<;>omega),cutW_at W h (by omega)]
 ·rw[if_neg hi]
  by_cases h1:i=3∨i<k
  ·rw[if_pos h1,if_pos (by rcases h1 with h1 | h1;exact Or.inl h1;right;split<;>(try split)<;>omega)]
  ·rw[if_neg h1]
   by_cases h2:i=3∨i< (if k=2 then 4 else if k=4 then 8 else k+1)
   ·rw[if_pos h2]
    have h3:i=5∨i=6∨i=7:=by
     by_cases e2:k=2
     ·rw[if_pos e2] at h2;omega
     ·rw[if_neg e2] at h2
      by_cases e4:k=4
      ·rw[if_pos e4] at h2;omega
      ·rw[if_neg e4] at h2;omega
    unfold cutW;rw[if_pos h3]
   ·rw[if_neg h2]
theorem aft_next {k:Nat} (hk:okK k) (h:k≤endW W):(k<endW W→aftK (k:Int) (W k)=(nxK k:Int)∧okK (nxK k)∧nxK k≤endW W)∧(k=endW W→aftK (k:Int) (W k)= -1∧endW W<nxK k):=by
 have he:=endW_odd W
 unfold okK at hk
 refine⟨fun hlt=> ?_,fun heq=> ?_⟩
 ·unfold aftK nxK okK
  by_cases e2:k=2
  ·subst e2;simp;omega
  by_cases e4:k=4
  ·subst e4;simp;omega
  rw[if_neg (by omega),if_neg (by omega),if_neg e2,if_neg e4]
  by_cases e3:k<2
  ·rw[if_pos (by omega)];refine⟨by omega,by omega,by omega⟩
  ·rw[if_neg (by omega)]
   have hn: ¬((k:Int)% 2=1∧(W k=0∨(k:Int)=23)):=by
    rintro⟨h1,h2 | h2⟩
    ·exact endW_not W (by omega) hlt (by omega) h2
    ·omega
   rw[if_neg hn];refine⟨by omega,by omega,by omega⟩
 ·unfold aftK nxK
  rw[if_neg (by omega),if_neg (by omega),if_neg (by omega),if_pos,if_neg (by omega),if_neg (by omega)]
  ·exact⟨rfl,by omega⟩
  ·refine⟨by omega,?_⟩
   by_cases h23:k=23
   ·right;omega
   ·left;rw[heq];exact endW_is W (by omega)
end
theorem eq24_refl (a:Nat→Int):eq24 a a=true:=by unfold eq24;rw[List.all_eq_true];intro i _;simp
def remK (k:Nat):Nat:=if k<3 then 20-k else if k=4 then 17 else 24-k
theorem remK_nx {k:Nat} (hk:okK k) (h:k<24):remK (nxK k)<remK k:=by
 unfold remK nxK okK at*
 by_cases e2:k=2
 ·subst e2;simp
 by_cases e4:k=4
 ·subst e4;simp
 rw[if_neg e2,if_neg e4]
 by_cases e3:k<2
 ·rw[if_pos (by omega),if_pos (by omega)];omega
 ·rw[if_neg (by omega),if_neg (by omega),if_neg (by omega),if_neg e4];omega
theorem remK_pos {k:Nat} (h:k<24):0<remK k:=by unfold remK;split;omega;split;omega;omega
def hasV (W:Nat→Int):Bool:=decide (W 2≠0)
def highV (v:List Int) (W:Nat→Int):Int:=if W 2≠0 then wdV v (W 2+8) else 0
inductive SnSt (v:List Int) (at':Int) (W:Nat→Int):Nat→SnP→Prop
 | counts:SnSt v at' W 43 (snNew at')
 | one (k:Nat) (hk:okK k) (h:k≤endW W):SnSt v at' W (22+remK k) { snNew at' with k:=k,a:=cutTo W k,b:=cutTo W 0,f:=1 }
 | two (k:Nat) (hk:okK k) (h:k≤endW W):SnSt v at' W (2+remK k) { snNew at' with k:=k,last:=true,a:=cutW W,b:=cutTo W k,f:=1 }
 | bound (h:W 2≠0):SnSt v at' W 2 { snNew at' with k:= -1,last:=true,a:=cutW W,b:=cutW W,f:=2 }
 | again:SnSt v at' W 1 { snNew at' with k:= -1,last:=true,a:=cutW W,b:=cutW W,has:=hasV W,high:=highV v W,f:=3 }
def snEnd (v:List Int) (at':Int) (W:Nat→Int):SnP:={ snNew at' with k:= -1,last:=true,a:=cutW W,b:=cutW W,has:=hasV W,high:=highV v W,f:=3,over:=true,e:=0,nd:=nodeOf (cutW W) }
structure WAt (v:List Int) (at':Int) (W:Nat→Int):Prop where
 lo:0≤at'∧at'≤1099511627776∧at' % 8=0
 hi:at'/8+24≤(v.length:Int)
 wd: ∀i:Nat,i<24→wdV v (at'+8*(i:Int))=W i
 vu: ∀y∈v,U64 y
 nx:W 2≠0→inV v (W 2+8)
 tag:tagN≤W 0∧W 0≤tagN+15
theorem WAt.u {v:List Int} {at':Int} {W:Nat→Int} (h:WAt v at' W) (i:Nat) (hi:i<24):U64 (W i):=by
 rw[←h.wd i hi]
 unfold wdV
 rw[List.getD_eq_getElem?_getD]
 cases hc:v[((at'+8*(i:Int))/8).toNat]? with
 | none=>exact⟨by simp,by simp⟩
 | some y=>exact h.vu y (List.mem_of_getElem? hc)
theorem WAt.cu {v:List Int} {at':Int} {W:Nat→Int} (h:WAt v at' W) (i:Nat):U64 (cutW W i):=by
 have he:=endW_odd W
 unfold cutW
 split
 ·exact⟨by simp,by simp⟩
 ·split
  ·exact h.u i (by omega)
  ·exact⟨by simp,by simp⟩
theorem WAt.tu {v:List Int} {at':Int} {W:Nat→Int} (h:WAt v at' W) (k i:Nat):U64 (cutTo W k i):=by
 unfold cutTo
 split
 ·exact h.cu i
 ·exact⟨by simp,by simp⟩
theorem WAt.inv {v:List Int} {at':Int} {W:Nat→Int} (h:WAt v at' W) {i:Nat} (hi:i<24):inV v (at'+8*(i:Int)):=by
 have h1:=h.lo
 have h2:=h.hi
 unfold inV
 refine⟨by omega,by omega,by omega⟩
theorem zeroF_u (i:Nat):U64 (zeroF i):=⟨by simp[zeroF],by simp[zeroF]⟩
theorem SnSt.ok {v:List Int} {at':Int} {W:Nat→Int} (hW:WAt v at' W) {n:Nat} {x:SnP} (h:SnSt v at' W n x):x.OK v∧0<n∧n≤43:=by
 have he:=endW_odd W
 have hlo:0≤at'∧at'≤1099511627776:=⟨hW.lo.1,hW.lo.2.1⟩
 cases h with
 | counts=>exact⟨⟨hW.inv (i:=3) (by omega),hlo,fun h=>(by cases h),by simp[snNew],rfl,rfl,fun i=>⟨zeroF_u i,zeroF_u i⟩,hW.vu⟩,by omega,by omega⟩
 | one k hk h=>
  have:=remK_pos (k:=k) (by omega)
  have h20:remK k≤20:=by unfold remK;split;omega;split;omega;unfold okK at hk;omega
  exact⟨⟨hW.inv (i:=k) (by omega),hlo,fun _=>⟨by simp,by simp;omega⟩,by simp,rfl,rfl,fun i=>⟨hW.tu k i,hW.tu 0 i⟩,hW.vu⟩,by omega,by omega⟩
 | two k hk h=>
  have:=remK_pos (k:=k) (by omega)
  have h20:remK k≤20:=by unfold remK;split;omega;split;omega;unfold okK at hk;omega
  exact⟨⟨hW.inv (i:=k) (by omega),hlo,fun _=>⟨by simp,by simp;omega⟩,by simp,rfl,rfl,fun i=>⟨hW.cu i,hW.tu k i⟩,hW.vu⟩,by omega,by omega⟩
 | bound h=>
  refine⟨⟨?_,hlo,fun h=>(by cases h),by simp,rfl,rfl,fun i=>⟨hW.cu i,hW.cu i⟩,hW.vu⟩,by omega,by omega⟩
  show inV v (cutW W 2+8)
  rw[cutW_at W (by omega) (by omega)]
  exact hW.nx h
 | again=>exact⟨⟨hW.inv (i:=3) (by omega),hlo,fun h=>(by cases h),by simp,rfl,rfl,fun i=>⟨hW.cu i,hW.cu i⟩,hW.vu⟩,by omega,by omega⟩
theorem SnSt.step {v:List Int} {at':Int} {W:Nat→Int} (hW:WAt v at' W) {n:Nat} {x:SnP} (h:SnSt v at' W n x):(∃n',n'<n∧SnSt v at' W n' (x.next v))∨x.next v=snEnd v at' W:=by
 have he:=endW_odd W
 have hw:=hW.wd
 cases h with
 | counts=>
  left
  have h3:wdV v (at'+24)=W 3:=hw 3 (by omega)
  have e:(snNew at').next v={ snNew at' with k:=(0:Nat),a:=cutTo W 0,b:=cutTo W 0,f:=1 }:=by
   unfold SnP.next
   rw[if_neg (by simp[snNew])]
   have ha:(snNew at').adr=at'+24:=rfl
   rw[ha,h3]
   show{ snNew at' with a:=upd zeroF 3 (W 3),b:=upd zeroF 3 (W 3),f:=1 }=_
   rw[cutTo_0]
   rfl
  rw[e]
  exact⟨42,by omega,.one 0 (Or.inl (by omega)) (by omega)⟩
 | one k hk h=>
  left
  have hk':k<24:=by omega
  have h3:wdV v (at'+8*(k:Int))=W k:=hw k hk'
  have e:({ snNew at' with k:=k,a:=cutTo W k,b:=cutTo W 0,f:=1 }:SnP).next v=({ snNew at' with k:=k,a:=cutTo W (nxK k),b:=cutTo W 0,f:=1 }:SnP).adv (W k):=by
   unfold SnP.next
   rw[if_neg (by simp[snNew])]
   have ha:({ snNew at' with k:=k,a:=cutTo W k,b:=cutTo W 0,f:=1 }:SnP).adr=at'+8*(k:Int):=rfl
   rw[ha,h3]
   unfold SnP.got
   rw[if_neg (by simp),if_pos rfl,if_neg (by simp[snNew])]
   show({ snNew at' with k:=k,a:=upd (cutTo W k) k (W k),b:=cutTo W 0,f:=1 }:SnP).adv (W k)=_
   rw[cutTo_upd W hk h]
  rw[e]
  obtain⟨a1,a2⟩:=aft_next W hk h
  unfold SnP.adv
  by_cases hlt:k<endW W
  ·obtain⟨b1,b2,b3⟩:=a1 hlt
   simp only[b1]
   rw[if_pos (by omega)]
   exact⟨22+remK (nxK k),by have:=remK_nx hk hk';omega,.one (nxK k) b2 b3⟩
  ·obtain⟨b1,b2⟩:=a2 (by omega)
   simp only[b1]
   rw[if_neg (by omega),if_pos (show(snNew at').last=false from rfl),cutTo_all W b2]
   exact⟨22,by have:=remK_pos hk';omega,.two 0 (Or.inl (by omega)) (by omega)⟩
 | two k hk h=>
  left
  have hk':k<24:=by omega
  have h3:wdV v (at'+8*(k:Int))=W k:=hw k hk'
  have e:({ snNew at' with k:=k,last:=true,a:=cutW W,b:=cutTo W k,f:=1 }:SnP).next v=({ snNew at' with k:=k,last:=true,a:=cutW W,b:=cutTo W (nxK k),f:=1 }:SnP).adv (W k):=by
   unfold SnP.next
   rw[if_neg (by simp[snNew])]
   have ha:({ snNew at' with k:=k,last:=true,a:=cutW W,b:=cutTo W k,f:=1 }:SnP).adr=at'+8*(k:Int):=rfl
   rw[ha,h3]
   unfold SnP.got
   rw[if_neg (by simp),if_pos rfl,if_pos rfl,if_neg]
   ·show({ snNew at' with k:=k,last:=true,a:=cutW W,b:=upd (cutTo W k) k (W k),f:=1 }:SnP).adv (W k)=_
    rw[cutTo_upd W hk h]
   ·show ¬(W k≠cutW W (k:Int).toNat)
    rw[Int.toNat_natCast,cutW_at W h (by unfold okK at hk;omega)]
    simp
  rw[e]
  obtain⟨a1,a2⟩:=aft_next W hk h
  unfold SnP.adv
  by_cases hlt:k<endW W
  ·obtain⟨b1,b2,b3⟩:=a1 hlt
   simp only[b1]
   rw[if_pos (by omega)]
   exact⟨2+remK (nxK k),by have:=remK_nx hk hk';omega,.two (nxK k) b2 b3⟩
  ·obtain⟨b1,b2⟩:=a2 (by omega)
   simp only[b1]
   have h2:cutW W 2=W 2:=cutW_at W (by omega) (by omega)
   rw[if_neg (by omega),if_neg (by simp),cutTo_all W b2]
   by_cases hn:W 2≠0
   ·rw[if_pos (by rw[h2];exact hn)]
    exact⟨2,by have:=remK_pos hk';omega,.bound hn⟩
   ·rw[if_neg (by rw[h2];exact hn)]
    refine⟨1,by have:=remK_pos hk';omega,?_⟩
    have:=SnSt.again (v:=v) (at':=at') (W:=W)
    unfold hasV highV at this
    rw[if_neg hn,decide_eq_false hn] at this
    exact this
 | bound h=>
  left
  refine⟨1,by omega,?_⟩
  have:=SnSt.again (v:=v) (at':=at') (W:=W)
  unfold hasV highV at this
  rw[if_pos h,decide_eq_true h] at this
  have e:({ snNew at' with k:= -1,last:=true,a:=cutW W,b:=cutW W,f:=2 }:SnP).next v={ snNew at' with k:= -1,last:=true,a:=cutW W,b:=cutW W,has:=true,high:=wdV v (W 2+8),f:=3 }:=by
   unfold SnP.next
   rw[if_neg (by simp[snNew])]
   have ha:({ snNew at' with k:= -1,last:=true,a:=cutW W,b:=cutW W,f:=2 }:SnP).adr=W 2+8:=by
    show cutW W 2+8=_
    rw[cutW_at W (by omega) (by omega)]
   rw[ha]
   rfl
  rw[e]
  exact this
 | again=>
  right
  have h3:wdV v (at'+24)=W 3:=hw 3 (by omega)
  unfold SnP.next
  rw[if_neg (by simp[snNew])]
  have ha:({ snNew at' with k:= -1,last:=true,a:=cutW W,b:=cutW W,has:=hasV W,high:=highV v W,f:=3 }:SnP).adr=at'+24:=rfl
  rw[ha,h3]
  unfold SnP.got
  rw[if_neg (by simp),if_neg (by simp),if_neg (by simp),if_neg]
  ·have ht:nodeE (cutW W)=(nodeOf (cutW W),0):=by
    unfold nodeE
    rw[if_pos]
    rw[cutW_at W (by omega) (by omega)]
    exact hW.tag
   show{ snNew at' with k:= -1,last:=true,a:=cutW W,b:=cutW W,has:=hasV W,high:=highV v W,f:=3,nd:=(nodeE (cutW W)).1,over:=true,e:=(nodeE (cutW W)).2 }=_
   rw[ht]
   rfl
  ·show ¬(W 3≠cutW W 3∨eq24 (cutW W) (cutW W)=false)
   rw[cutW_3,eq24_refl]
   simp
end Go.Proofs.YtjmaicckkkdjpaaGreat
/- A snapshot's object; what its functions do. -/
namespace Go.Proofs.YtjmaicckkkdjpaaGreat
open Go.RowKit
def setL (cs:Array Value):Nat→List Value→Array Value
 | _,[]=>cs
 | o,v::r=>setL (cs.setIfInBounds o v) (o+1) r
theorem Blk.setCells {g:Nat} {t:TypeId}: ∀(vs:List Value) (o:Nat) {w:World} {cs:Array Value},Blk w g t cs→Blk (w.setCells g o vs) g t (setL cs o vs)
 | [],_,_,_,h=>h
 | v::r,o,_,_,h=>Blk.setCells r (o+1) (h.set_ o v)
theorem Only.setCellsM (b:Nat): ∀(vs:List Value) (o:Nat) (w:World),Only [b] w (w.setCells b o vs)
 | [],_,w=>Only.refl _ w
 | v::r,o,w=>((Only.refl [b] w).setCell (Or.inl (by simp)) v).trans (Only.setCellsM b r (o+1) _) (fun x h=>Or.inl h)
theorem Blk.stAt {P:Program} {w:World} {b:Nat} {t ty:TypeId} {cs xs:Array Value} (h:Blk w b t cs) (o:Nat) (ho:o+xs.size≤cs.size) (hi:(P.info? ty).map (·.size)=some xs.size) (h1:xs.all (·.oneCell')=true):stR P ty (.pointer (some ⟨b,o,none⟩)) (.agg xs) w= .ok () (w.setCells b o xs.toList):=by
 unfold stR
 refine run_storeAt_mid w b o ty xs (fun j hj=>⟨?_,h.frozen _⟩) hi h1
 rw[h.cell,Array.getElem?_eq_getElem (by omega)];rfl
theorem run_store_fnG {P:Program} {w:World} {a:Addr} {m:Mode} (f:Fn) (x y:Array Value):(store a (.func f x y) m).run P w=stored P w a (.func f x y) m:=run_store P w a _ m rfl
def bldRg (P:Program) (t:TypeId) (ps:Array (Nat×Value)) (w:World):Result Value:=(Instr.build t ps).run P w
def bldMg (t:TypeId) (ps:Array (Nat×Value)):Sem Value:=Instr.build t ps
theorem bldMg_run (P:Program) (t:TypeId) (ps:Array (Nat×Value)) (w:World):(bldMg t ps).run P w=bldRg P t ps w:=rfl
abbrev fnV (F s:Nat):Value:= .func (.func F) #[.pointer (some ⟨s,0,none⟩)] #[]
def snFn (f:Nat):Nat:=if f=0 then 194 else if f=1 then 200 else if f=2 then 204 else 205
def snpC (m:Nat) (x:SnP) (fv:Value):Array Value:= #[ptrV m,.int .u64 x.at',.int .i64 x.k,.bool x.last,.int .u64 (x.a 0),.int .u64 (x.a 1),.int .u64 (x.a 2),.int .u64 (x.a 3),.int .u64 (x.a 4),.int .u64 (x.a 5),.int .u64 (x.a 6),.int .u64 (x.a 7),.int .u64 (x.a 8),.int .u64 (x.a 9),.int .u64 (x.a 10),.int .u64 (x.a 11),.int .u64 (x.a 12),.int .u64 (x.a 13),.int .u64 (x.a 14),.int .u64 (x.a 15),.int .u64 (x.a 16),.int .u64 (x.a 17),.int .u64 (x.a 18),.int .u64 (x.a 19),.int .u64 (x.a 20),.int .u64 (x.a 21),.int .u64 (x.a 22),.int .u64 (x.a 23),
 .int .u64 (x.b 0),.int .u64 (x.b 1),.int .u64 (x.b 2),.int .u64 (x.b 3),.int .u64 (x.b 4),.int .u64 (x.b 5),.int .u64 (x.b 6),.int .u64 (x.b 7),.int .u64 (x.b 8),.int .u64 (x.b 9),.int .u64 (x.b 10),.int .u64 (x.b 11),.int .u64 (x.b 12),.int .u64 (x.b 13),.int .u64 (x.b 14),.int .u64 (x.b 15),.int .u64 (x.b 16),.int .u64 (x.b 17),.int .u64 (x.b 18),.int .u64 (x.b 19),.int .u64 (x.b 20),.int .u64 (x.b 21),.int .u64 (x.b 22),.int .u64 (x.b 23),.int .u64 x.high,.bool x.has,fv,.bool x.over,.int .i64 x.e,
 .int .i64 x.nd.lv,.int .u64 x.nd.low,.int .u64 x.nd.nx,.int .u64 x.nd.ct,.int .u64 x.nd.fi,.int .u64 (x.nd.k 0),.int .u64 (x.nd.k 1),.int .u64 (x.nd.k 2),.int .u64 (x.nd.k 3),.int .u64 (x.nd.k 4),.int .u64 (x.nd.k 5),.int .u64 (x.nd.k 6),.int .u64 (x.nd.k 7),
 .int .u64 (x.nd.p 0),.int .u64 (x.nd.p 1),.int .u64 (x.nd.p 2),.int .u64 (x.nd.p 3),.int .u64 (x.nd.p 4),.int .u64 (x.nd.p 5),.int .u64 (x.nd.p 6),.int .u64 (x.nd.p 7)]
theorem snpC_a (m:Nat) (x:SnP) (fv:Value) {i:Nat} (h:i<24):(snpC m x fv)[4+i]?=some (.int .u64 (x.a i)):=by
 rcases(by omega:i=0∨i=1∨i=2∨i=3∨i=4∨i=5∨i=6∨i=7∨i=8∨i=9∨i=10∨i=11∨i=12∨i=13∨i=14∨i=15∨i=16∨i=17∨i=18∨i=19∨i=20∨i=21∨i=22∨i=23) with rfl | rfl | rfl | rfl | rfl | rfl | rfl | rfl | rfl | rfl | rfl | rfl | rfl | rfl | rfl | rfl | rfl | rfl | rfl | rfl | rfl | rfl | rfl | rfl<;>rfl
theorem snpC_b (m:Nat) (x:SnP) (fv:Value) {i:Nat} (h:i<24):(snpC m x fv)[28+i]?=some (.int .u64 (x.b i)):=by
 rcases(by omega:i=0∨i=1∨i=2∨i=3∨i=4∨i=5∨i=6∨i=7∨i=8∨i=9∨i=10∨i=11∨i=12∨i=13∨i=14∨i=15∨i=16∨i=17∨i=18∨i=19∨i=20∨i=21∨i=22∨i=23) with rfl | rfl | rfl | rfl | rfl | rfl | rfl | rfl | rfl | rfl | rfl | rfl | rfl | rfl | rfl | rfl | rfl | rfl | rfl | rfl | rfl | rfl | rfl | rfl<;>rfl
theorem snpC_n (m:Nat) (x:SnP) (fv:Value) {i:Nat} (h:i<21):(snpC m x fv)[57+i]?=(nodeC x.nd)[i]?:=by
 rcases(by omega:i=0∨i=1∨i=2∨i=3∨i=4∨i=5∨i=6∨i=7∨i=8∨i=9∨i=10∨i=11∨i=12∨i=13∨i=14∨i=15∨i=16∨i=17∨i=18∨i=19∨i=20) with rfl | rfl | rfl | rfl | rfl | rfl | rfl | rfl | rfl | rfl | rfl | rfl | rfl | rfl | rfl | rfl | rfl | rfl | rfl | rfl | rfl<;>rfl
theorem snpC_seta (m:Nat) (x:SnP) (fv:Value) {i:Nat} (h:i<24) (v:Int):(snpC m x fv).setIfInBounds (4+i) (.int .u64 v)=snpC m { x with a:=upd x.a i v } fv:=by
 rcases(by omega:i=0∨i=1∨i=2∨i=3∨i=4∨i=5∨i=6∨i=7∨i=8∨i=9∨i=10∨i=11∨i=12∨i=13∨i=14∨i=15∨i=16∨i=17∨i=18∨i=19∨i=20∨i=21∨i=22∨i=23) with rfl | rfl | rfl | rfl | rfl | rfl | rfl | rfl | rfl | rfl | rfl | rfl | rfl | rfl | rfl | rfl | rfl | rfl | rfl | rfl | rfl | rfl | rfl | rfl<;>rfl
theorem snpC_setb (m:Nat) (x:SnP) (fv:Value) {i:Nat} (h:i<24) (v:Int):(snpC m x fv).setIfInBounds (28+i) (.int .u64 v)=snpC m { x with b:=upd x.b i v } fv:=by
 rcases(by omega:i=0∨i=1∨i=2∨i=3∨i=4∨i=5∨i=6∨i=7∨i=8∨i=9∨i=10∨i=11∨i=12∨i=13∨i=14∨i=15∨i=16∨i=17∨i=18∨i=19∨i=20∨i=21∨i=22∨i=23) with rfl | rfl | rfl | rfl | rfl | rfl | rfl | rfl | rfl | rfl | rfl | rfl | rfl | rfl | rfl | rfl | rfl | rfl | rfl | rfl | rfl | rfl | rfl | rfl<;>rfl
theorem snpC_A (m:Nat) (x:SnP) (fv:Value) (f:Nat→Int):setL (snpC m x fv) 4 (wordsC f).toList=snpC m { x with a:=f } fv:=by kernel_rfl
theorem snpC_B (m:Nat) (x:SnP) (fv:Value) (f:Nat→Int):setL (snpC m x fv) 28 (wordsC f).toList=snpC m { x with b:=f } fv:=by kernel_rfl
theorem snpC_N (m:Nat) (x:SnP) (fv:Value) (n:NodeA):setL (snpC m x fv) 57 (nodeC n).toList=snpC m { x with nd:=n } fv:=by kernel_rfl
abbrev SnV (w:World) (m s:Nat) (x:SnP) (fv:Value):Prop:=Blk w s 299 (snpC m x fv)
abbrev SnIs (w:World) (m s:Nat) (x:SnP):Prop:=SnV w m s x (fnV (snFn x.f) s)
theorem arrLoadS (v:Value):Instr.loadAt 179 v=ldM 179 v:=rfl
theorem arrStoreS (p v:Value):Instr.storeAt 179 p v=stM 179 p v:=rfl
theorem SnV.lda {w:World} {m s:Nat} {x:SnP} {fv:Value} (h:SnV w m s x fv):ldR Tryz.prog 179 (.pointer (some ⟨s,4,none⟩)) w= .ok (.agg (wordsC x.a)) w:=h.ldAt 4 (xs:=wordsC x.a) (fun j v hj=>by
 have hj2:j<24:=(Array.getElem?_eq_some_iff.1 hj).1
 rw[snpC_a m x fv hj2,←wordsC_at x.a hj2];exact hj) Tryz.underlying179 rfl (by kernel_rfl)
theorem SnV.ldb {w:World} {m s:Nat} {x:SnP} {fv:Value} (h:SnV w m s x fv):ldR Tryz.prog 179 (.pointer (some ⟨s,28,none⟩)) w= .ok (.agg (wordsC x.b)) w:=h.ldAt 28 (xs:=wordsC x.b) (fun j v hj=>by
 have hj2:j<24:=(Array.getElem?_eq_some_iff.1 hj).1
 rw[snpC_b m x fv hj2,←wordsC_at x.b hj2];exact hj) Tryz.underlying179 rfl (by kernel_rfl)
theorem SnV.ldn {w:World} {m s:Nat} {x:SnP} {fv:Value} (h:SnV w m s x fv):ldR Tryz.prog 77 (.pointer (some ⟨s,57,none⟩)) w= .ok (.agg (nodeC x.nd)) w:=h.ldAt 57 (xs:=nodeC x.nd) (fun j v hj=>by
 have hj2:j<21:=(Array.getElem?_eq_some_iff.1 hj).1
 rw[snpC_n m x fv hj2];exact hj) Tryz.underlying77 rfl (by kernel_rfl)
theorem SnV.sta {w:World} {m s:Nat} {x:SnP} {fv:Value} (h:SnV w m s x fv) (f:Nat→Int): ∃W',stR Tryz.prog 179 (.pointer (some ⟨s,4,none⟩)) (.agg (wordsC f)) w= .ok () W'∧SnV W' m s { x with a:=f } fv∧Only [s] w W':=
 ⟨_,Blk.stAt h 4 (by show 4+24≤78;omega) (by kernel_rfl) (by kernel_rfl),by have:=Blk.setCells (wordsC f).toList 4 h;rw[snpC_A] at this;exact this,Only.setCellsM s _ 4 w⟩
theorem SnV.stb {w:World} {m s:Nat} {x:SnP} {fv:Value} (h:SnV w m s x fv) (f:Nat→Int): ∃W',stR Tryz.prog 179 (.pointer (some ⟨s,28,none⟩)) (.agg (wordsC f)) w= .ok () W'∧SnV W' m s { x with b:=f } fv∧Only [s] w W':=
 ⟨_,Blk.stAt h 28 (by show 28+24≤78;omega) (by kernel_rfl) (by kernel_rfl),by have:=Blk.setCells (wordsC f).toList 28 h;rw[snpC_B] at this;exact this,Only.setCellsM s _ 28 w⟩
theorem SnV.stn {w:World} {m s:Nat} {x:SnP} {fv:Value} (h:SnV w m s x fv) (n:NodeA): ∃W',stR Tryz.prog 77 (.pointer (some ⟨s,57,none⟩)) (.agg (nodeC n)) w= .ok () W'∧SnV W' m s { x with nd:=n } fv∧Only [s] w W':=
 ⟨_,Blk.stAt h 57 (by show 57+21≤78;omega) (by kernel_rfl) (by kernel_rfl),by have:=Blk.setCells (nodeC n).toList 57 h;rw[snpC_N] at this;exact this,Only.setCellsM s _ 57 w⟩
def Lded (w w':World) (m:Nat) (B:MB) (M:MemS) (f:List Nat):Prop:= ∃st:St4,st.a=(M.st.a+1)% 18446744073709551616∧st.b=M.st.b∧st.c=M.st.c∧st.d=M.st.d∧MemIs w' m B { M with st:=st }∧Only f w w'
theorem Load_a (m:Nat) (B:MB) (M:MemS) (a:Int) (ha:inV M.view a) (w:World) (h:MemIs w m B M):Calls Tryz.prog 152 #[ptrV m,.int .u64 a] w fun e w'=>e= .returned (.tuple #[.int .u64 (wdV M.view a),.int .i64 0])∧Lded w w' m B M [m]:=by
 obtain⟨h0,h8,hl⟩:=ha
 obtain⟨k,hk⟩: ∃k:Nat,k=(a/8).toNat:=⟨_,rfl⟩
 have hk2:k<M.view.length:=by omega
 have e1:a=8*(k:Int):=by omega
 have e2:wdV M.view a=M.view[k]'hk2:=by unfold wdV;rw[←hk,List.getD_eq_getElem?_getD,List.getElem?_eq_getElem hk2];rfl
 rw[e2,e1]
 refine(Load_z m B M k hk2 w h).mono fun e w' hp=> ?_
 obtain⟨q1,s,q2,q3,q4,q5,q6,q7⟩:=hp
 exact⟨q1,s,q2,q3,q4,q5,q6,q7⟩
theorem Lded.drew {w w':World} {m:Nat} {B:MB} {M:MemS} {f:List Nat} (h:Lded w.drew w' m B M f):Lded w w' m B M f:=by
 obtain⟨st,a,b,c,d,e,ho⟩:=h
 exact⟨st,a,b,c,d,e,ho.os,ho.tape,ho.output,ho.size,ho.block⟩
theorem Lded.only {w w1 w':World} {m:Nat} {B:MB} {M:MemS} {f g:List Nat} (h:Lded w w1 m B M f) (ho:Only g w1 w') (hg: ∀x∈g,(x∈f∨w.heap.size≤x)∧x∉footM m B M):Lded w w' m B M f:=by
 obtain⟨st,a,b,c,d,e,ho1⟩:=h
 exact⟨st,a,b,c,d,e.only ho (fun k hk hc=>(hg k hc).2 hk),ho1.trans ho (fun x hx=>(hg x hx).1)⟩
theorem Lded.mono {w w1:World} {m:Nat} {B:MB} {M:MemS} {f g:List Nat} (h:Lded w w1 m B M f) (hg: ∀x∈f,x∈g):Lded w w1 m B M g:=by
 obtain⟨st,a,b,c,d,e,ho1⟩:=h
 exact⟨st,a,b,c,d,e,ho1.mono hg⟩
theorem Word_s (a:Int) (k:Nat) (ha:0≤a∧a≤1099511627776) (hk:k<24) (w:World):Calls Tryz.prog 199 #[.int .u64 a,.int .i64 (k:Int)] w fun e w'=>e= .returned (.int .u64 (a+8*(k:Int)))∧w'=w:=by
 have h1:IntKind.i64.wrap (8*(k:Int))=8*(k:Int):=by rw[IntKind.wrap_i64];omega
 go_enter Tryz.func199,Tryz.ntmps199
 go_wp2
 go_ret
 exact⟨rfl,rfl⟩
end Go.Proofs.YtjmaicckkkdjpaaGreat
