/- Contracts of levee/geo.Index (a loop that calls Block) and levee/geo.Class (a closure handed to slices.IndexFunc). -/
import Derived.Test.YtibiekfjbibpbaaGreatGeoB
import Derived.Deep.RegionHeld3
set_option maxHeartbeats 800000
set_option linter.unusedVariables false
namespace Go.Proofs.YtibiekfjbibpbaaGreat
open Go.RowKit
def idxZ (a c:Int):Int:=
 if 1≤slabZ a∧1≤c∧c≤3∧0≤a % 1024-64∧(a % 1024-64)% (64*c)=0∧(a % 1024-64)/ (64*c)<blocksZ c then(a % 1024-64)/ (64*c) else-1
def idxI (a c:Int):Int:=if idxZ a c= -1 then 0 else idxZ a c
def idxB (a c:Int):Bool:= !(idxZ a c== -1)
theorem idx_at {a c j:Int} (h0:0≤j) (h:idxZ a c=j):idxI a c=j∧idxB a c=true:=by
 unfold idxI idxB;rw[h,if_neg (by omega)];exact⟨rfl,by rw[beq_eq_false_iff_ne.2 (show j≠ -1 by omega)];rfl⟩
theorem idx_no {a c:Int} (h:idxZ a c= -1):idxI a c=0∧idxB a c=false:=by
 unfold idxI idxB;rw[h];exact⟨rfl,rfl⟩
theorem idxZ_lt (a c:Int): -1≤idxZ a c∧(0≤blocksZ c→idxZ a c<blocksZ c∨idxZ a c= -1):=by
 unfold idxZ
 split
 ·rename_i h
  have:0≤(a % 1024-64)/ (64*c):=Int.ediv_nonneg h.2.2.2.1 (by omega)
  omega
 ·omega
theorem idxZ_at (a c j:Int) (h0:0≤a) (hj:0≤j) (hl:j<blocksZ c) (h:blockZ (slabZ a) c j=a) (hp:0<a):idxZ a c=j:=by
 have hs:=slabZ_le a
 have hc:c=1∨c=2∨c=3∨blocksZ c=0:=by unfold blocksZ;split<;>(try split)<;>(try split)<;>omega
 have h64:1≤slabZ a:=by
  unfold blockZ at h
  split at h<;>omega
 have hq:slabZ a=a/1024:=by unfold slabZ at h64 ⊢;split at h64<;>(try split)<;>omega
 unfold blockZ at h
 rw[if_pos ⟨h64,hs.2,hj,hl⟩] at h
 unfold idxZ
 rcases hc with rfl | rfl | rfl | hc
 ·simp[blocksZ,bytesZ] at hl h ⊢;rw[if_pos (by omega)];omega
 ·simp[blocksZ,bytesZ] at hl h ⊢;rw[if_pos (by omega)];omega
 ·simp[blocksZ,bytesZ] at hl h ⊢;rw[if_pos (by omega)];omega
 ·omega
theorem idxZ_none (a c:Int) (h0:0≤a) (h: ∀j,0≤j→j<blocksZ c→blockZ (slabZ a) c j≠a∨a=0):idxZ a c= -1:=by
 unfold idxZ
 split
 ·rename_i hh
  exfalso
  obtain⟨h1,h2,h3,h4,h5,h6⟩:=hh
  have hs:=slabZ_le a
  have hq:slabZ a=a/1024:=by unfold slabZ at h1 ⊢;split at h1<;>(try split)<;>omega
  have hk:=h ((a % 1024-64)/ (64*c)) (Int.ediv_nonneg h4 (by omega)) h6
  have hc:c=1∨c=2∨c=3:=by omega
  unfold blockZ at hk
  rw[if_pos ⟨h1,hs.2,Int.ediv_nonneg h4 (by omega),h6⟩] at hk
  rcases hc with rfl | rfl | rfl
  ·simp[bytesZ] at hk h5;omega
  ·simp[bytesZ] at hk h5;omega
  ·simp[bytesZ] at hk h5;omega
 ·rfl
theorem Index_z (a c:Int) (w:World) (h0:0≤a) (h1:a≤18446744073709551615):
  Calls Tryz.prog 87 #[.int .u64 a,.int .i64 c] w fun e w'=>
   e= .returned (.tuple #[.int .i64 (idxI a c),.bool (idxB a c)])∧Below w.heap.size w w':=by
 obtain⟨b1,b2⟩:=blocksZ_le c
 go_enter Tryz.func87,Tryz.ntmps87
 go_wp2_with fail
 refine(Blocks_z _ _).mono ?_
 rintro e w1 ⟨rfl,hb1⟩
 go_wp2_with fail
 go_loopw [6,7,10] (fun _ _ i wr=> ∃k:Nat,(k:Int)≤blocksZ c∧i= .int .i64 k∧Below w.heap.size w wr∧Hid (∀j,0≤j→j< (k:Int)→blockZ (slabZ a) c j≠a∨a=0)) (fun _ _ i _=>(blocksZ c-intOf i).toNat)
 case atStart=>exact⟨0,by omega,rfl,hb1,fun j h h'=>by omega⟩
 case round=>
  obtain⟨k,hk,rfl,hb,hN⟩:=hrel
  clear hb1
  by_cases hlt:(k:Int)<blocksZ c
  ·go_wp2_with fail
   refine(Slab_z _ _ h0 h1).mono ?_
   rintro e w2 ⟨rfl,rfl⟩
   go_wp2_with fail
   refine(Block_z _ _ _ _).mono ?_
   rintro e w2 ⟨rfl,hb2⟩
   have hb3:=hb.trans (hb2.mono hb.size)
   clear hb2
   by_cases he:blockZ (slabZ a) c k=a
   ·have he1:(blockZ (slabZ a) c k==a)=true:=beq_iff_eq.2 he
    by_cases hp:0<a
    ·have hp1:0<blockZ (slabZ a) c k:=by omega
     have hz:=hid (idx_at (by omega) (idxZ_at a c k h0 (by omega) hlt he hp))
     clear he hN
     go_wp2
     go_ret2
     exact⟨by rw[hz.out.1,hz.out.2];rfl,hb3⟩
    ·have hp1: ¬0<blockZ (slabZ a) c k:=by omega
     have hN':Hid (∀j,0≤j→j< ((k+1:Nat):Int)→blockZ (slabZ a) c j≠a∨a=0):=fun j hj hj'=>Or.inr (by omega)
     clear he hN
     go_wp2
     go_roundw
     case rel=>exact⟨k+1,by omega,by go_num,hb3,hN'⟩
     case measure=>simp[intOf];omega
   ·have he1:(blockZ (slabZ a) c k==a)=false:=beq_eq_false_iff_ne.2 he
    have hN':Hid (∀j,0≤j→j< ((k+1:Nat):Int)→blockZ (slabZ a) c j≠a∨a=0):=fun j hj hj'=>by
     by_cases h:j=k
     ·subst h;exact Or.inl he
     ·exact hN.out j hj (by omega)
    clear he hN
    go_wp2
    go_roundw
    case rel=>exact⟨k+1,by omega,by go_num,hb3,hN'⟩
    case measure=>simp[intOf];omega
  ·have hz:=hid (idx_no (idxZ_none a c h0 (fun j h h'=>hN.out j h (by omega))))
   clear hN
   go_wp2
   go_ret2
   exact⟨by rw[hz.out.1,hz.out.2];rfl,hb⟩
def leB (a b:Int):Bool:=decide (a≤b)
theorem ClassFits (c n:Int) (p:Addr) (w:World) (hp:p.block<w.heap.size) (hc:w.cell? p=some (.int .i64 n)):
  Calls Tryz.prog 268 #[.int .i64 c,.pointer (some p)] w fun e w'=>e= .returned (.bool (leB n (bytesZ c-8)))∧Below w.heap.size w w':=by
 obtain⟨b1,b2⟩:=bytesZ_le c
 have hw:IntKind.i64.wrap (bytesZ c-8)=bytesZ c-8:=IntWalk.i64_in _ (by omega)
 go_enter Tryz.func268,Tryz.ntmps268
 go_wp2
 go_region_with (go_at_call 90;refine(Bytes_z _ _).mono ?_;rintro e w1 ⟨rfl,hb⟩;have hc1:=(hb.cell hp).trans hc)
 all_goals go_wp2
 all_goals go_ret
 all_goals exact⟨rfl,((Below.refl _ _).drew).trans (by assumption)⟩
def fitsZ (n:Int):Int:=if n≤56 then 0 else if n≤120 then 1 else-1
theorem IndexFuncFits (n:Int) (b:Nat) (p:Addr) (w:World) (hb:b<w.heap.size) (hp:p.block<w.heap.size) (hc:w.cell? p=some (.int .i64 n))
  (hx0:w.cell? ⟨b,0,none⟩=some (.int .i64 1)) (hx1:w.cell? ⟨b,1,none⟩=some (.int .i64 2)):
  Calls Tryz.prog 269 #[.slice (some ⟨b,0,none⟩) 2 2,.func (.func 268) #[] #[.pointer (some p)]] w
   fun e w'=>e= .returned (.int .i64 (fitsZ n))∧Below w.heap.size w w':=by
 have e1:bytesZ 1-8=56:=rfl
 have e2:bytesZ 2-8=112+8:=rfl
 go_enter Tryz.func269,Tryz.ntmps269
 go_wp2_with fail
 go_loopw [5,8] (fun _ i wr=> ∃k:Nat,k≤2∧i= .int .i64 k∧Below w.heap.size w wr∧(1≤k→56<n)∧(2≤k→120<n)) (fun _ i _=>(2-intOf i).toNat)
 case atStart=>exact⟨0,by omega,rfl,Below.refl _ _,fun h=>by omega,fun h=>by omega⟩
 case round=>
  obtain⟨k,hk,rfl,hbel,h56,h120⟩:=hrel
  have hck:=(hbel.cell hp).trans hc
  have hck0:=(hbel.cell (p:=⟨b,0,none⟩) hb).trans hx0
  have hck1:=(hbel.cell (p:=⟨b,1,none⟩) hb).trans hx1
  have hpk:p.block<wr.heap.size:=Nat.lt_of_lt_of_le hp hbel.size
  have hk3:k=0∨k=1∨k=2:=by omega
  rcases hk3 with rfl | rfl | rfl
  ·clear h56 h120
   by_cases hn:n≤56
   ·have hl:leB n (bytesZ 1-8)=true:=by rw[e1];exact decide_eq_true hn
    have hz:=hid (show fitsZ n=0 from if_pos hn)
    clear e1 e2
    go_wp2_with fail
    refine(ClassFits 1 n p wr hpk hck).mono ?_
    rintro e w2 ⟨rfl,hb2⟩
    go_wp2
    go_ret
    exact⟨by rw[hz.out];rfl,hbel.trans (hb2.mono hbel.size)⟩
   ·have hl:leB n (bytesZ 1-8)=false:=by rw[e1];exact decide_eq_false hn
    clear e1 e2
    go_wp2_with fail
    refine(ClassFits 1 n p wr hpk hck).mono ?_
    rintro e w2 ⟨rfl,hb2⟩
    go_wp2
    go_roundw
    case rel=>exact⟨1,by omega,by go_num,hbel.trans (hb2.mono hbel.size),fun _=>by omega,fun h=>by omega⟩
    case measure=>simp[intOf]
  ·have h56':=h56 (by omega)
   clear h56 h120
   by_cases hn:n≤120
   ·have hl:leB n (bytesZ 2-8)=true:=by rw[e2];exact decide_eq_true hn
    have hz:=hid (show fitsZ n=1 by unfold fitsZ;rw[if_neg (by omega),if_pos hn])
    clear e1 e2
    go_wp2_with fail
    refine(ClassFits 2 n p wr hpk hck).mono ?_
    rintro e w2 ⟨rfl,hb2⟩
    go_wp2
    go_ret
    exact⟨by rw[hz.out];rfl,hbel.trans (hb2.mono hbel.size)⟩
   ·have hl:leB n (bytesZ 2-8)=false:=by rw[e2];exact decide_eq_false hn
    clear e1 e2
    go_wp2_with fail
    refine(ClassFits 2 n p wr hpk hck).mono ?_
    rintro e w2 ⟨rfl,hb2⟩
    go_wp2
    go_roundw
    case rel=>exact⟨2,by omega,by go_num,hbel.trans (hb2.mono hbel.size),fun _=>by omega,fun h=>by omega⟩
    case measure=>simp[intOf]
  ·have h56':=h56 (by omega)
   have h120':=h120 (by omega)
   have hz:=hid (show fitsZ n= -1 by unfold fitsZ;rw[if_neg (by omega),if_neg (by omega)])
   clear h56 h120 e1 e2
   go_wp2
   go_ret
   exact⟨by rw[hz.out];rfl,hbel⟩
def classZ (n:Int):Int:=if n<0 then 0 else 1+fitsZ n
theorem Class_z (n:Int) (w:World) (hn1: -9223372036854775808≤n) (hn2:n≤9223372036854775807):
  Calls Tryz.prog 246 #[.int .i64 n] w fun e w'=>e= .returned (.int .i64 (classZ n))∧Below w.heap.size w w':=by
 by_cases h0:n<0
 ·have hz:Hid (classZ n=0):=if_pos h0
  go_enter Tryz.func246,Tryz.ntmps246
  go_wp2
  go_ret
  exact⟨by rw[hz.out];rfl,(Below.refl _ _).alloc (Nat.le_refl _) _⟩
 ·have hz:Hid (classZ n=1+fitsZ n):=if_neg h0
  have hf: -1≤fitsZ n∧fitsZ n≤1:=by unfold fitsZ;split<;>(try split)<;>omega
  obtain⟨hf1,hf2⟩:=hf
  go_enter Tryz.func246,Tryz.ntmps246
  go_wp2_with fail
  refine(IndexFuncFits n (w.heap.size+1) ⟨w.heap.size,0,none⟩ _ ?_ ?_ ?_ ?_ ?_).mono ?_
  ·simp
  ·simp;omega
  ·go_simp
  ·go_simp
  ·go_simp
  rintro e w2 ⟨rfl,hb2⟩
  go_wp2
  go_ret
  exact⟨by rw[hz.out];rfl,(((Below.refl _ _).alloc (Nat.le_refl _) _).alloc (by simp) _).trans (hb2.mono (by simp;omega))⟩
theorem RBytes_z (c:Int) (w:World):
  Calls Tryz.prog 188 #[.int .i64 c] w fun e w'=>e= .returned (.int .i64 (bytesZ c))∧w=w':=by
 by_cases h1:c<1
 ·have hz:=hid (show bytesZ c=0 from if_neg (by omega))
  go_enter Tryz.func188,Tryz.ntmps188
  go_wp2
  go_ret
  exact⟨by rw[hz.out];rfl,rfl⟩
 ·by_cases h2:3<c
  ·have hz:=hid (show bytesZ c=0 from if_neg (by omega))
   go_enter Tryz.func188,Tryz.ntmps188
   go_wp2
   go_ret
   exact⟨by rw[hz.out];rfl,rfl⟩
  ·have hz:=hid (show bytesZ c=64*c from if_pos (by omega))
   go_enter Tryz.func188,Tryz.ntmps188
   go_wp2
   go_ret
   exact⟨by rw[hz.out];rfl,rfl⟩
theorem RClass_z (n:Int) (w:World):
  Calls Tryz.prog 163 #[.int .i64 n] w fun e w'=>e= .returned (.int .i64 (classZ n))∧w=w':=by
 by_cases h1:n<0
 ·have hz:=hid (show classZ n=0 from if_pos h1)
  go_enter Tryz.func163,Tryz.ntmps163
  go_wp2
  go_ret
  exact⟨by rw[hz.out];rfl,rfl⟩
 ·by_cases h2:n≤56
  ·have hz:=hid (show classZ n=1 by unfold classZ fitsZ;rw[if_neg h1,if_pos h2];rfl)
   go_enter Tryz.func163,Tryz.ntmps163
   go_wp2
   go_ret
   exact⟨by rw[hz.out];rfl,rfl⟩
  ·by_cases h3:n≤120
   ·have hz:=hid (show classZ n=2 by unfold classZ fitsZ;rw[if_neg h1,if_neg h2,if_pos h3];rfl)
    go_enter Tryz.func163,Tryz.ntmps163
    go_wp2
    go_ret
    exact⟨by rw[hz.out];rfl,rfl⟩
   ·have hz:=hid (show classZ n=0 by unfold classZ fitsZ;rw[if_neg h1,if_neg h2,if_neg h3];rfl)
    go_enter Tryz.func163,Tryz.ntmps163
    go_wp2
    go_ret
    exact⟨by rw[hz.out];rfl,rfl⟩
theorem RHeader_z (s:Int) (w:World):
  Calls Tryz.prog 190 #[.int .i64 s] w fun e w'=>e= .returned (.int .u64 (headerZ s))∧w=w':=by
 by_cases h1:s<1
 ·have hz:=hid (show headerZ s=0 from if_neg (by omega))
  go_enter Tryz.func190,Tryz.ntmps190
  go_wp2
  go_ret
  exact⟨by rw[hz.out];rfl,rfl⟩
 ·by_cases h2:64<s
  ·have hz:=hid (show headerZ s=0 from if_neg (by omega))
   go_enter Tryz.func190,Tryz.ntmps190
   go_wp2
   go_ret
   exact⟨by rw[hz.out];rfl,rfl⟩
  ·have hz:=hid (show headerZ s=1024*s from if_pos (by omega))
   go_enter Tryz.func190,Tryz.ntmps190
   go_wp2
   go_ret
   exact⟨by rw[hz.out];rfl,rfl⟩
theorem blk_step (c k:Int) (hc:1≤c∧c≤3) (hk:0≤k):(64+(k+1)*bytesZ c≤1024)=(k<blocksZ c):=by
 have h:c=1∨c=2∨c=3:=by omega
 rcases h with rfl | rfl | rfl<;>simp[bytesZ,blocksZ]<;>omega
theorem RBlocks_z (c:Int) (w:World):
  Calls Tryz.prog 128 #[.int .i64 c] w fun e w'=>e= .returned (.int .i64 (blocksZ c))∧w=w':=by
 by_cases h:1≤c∧c≤3
 ·have hbz:=hid (show bytesZ c=64*c from if_pos h)
  have hne:(bytesZ c==0)=false:=beq_eq_false_iff_ne.2 (by rw[hbz.out];omega)
  have hle:=bytesZ_le c
  obtain⟨hl1,hl2⟩:=hle
  obtain⟨hbl1,hbl2⟩:=blocksZ_le c
  go_enter Tryz.func128,Tryz.ntmps128
  go_wp2_with fail
  refine(RBytes_z _ _).mono ?_
  rintro e w2 ⟨rfl,rfl⟩
  go_wp2_with fail
  go_loop [3] (fun i=> ∃k:Nat,(k:Int)≤blocksZ c∧i= .int .i64 k) (fun i=>(blocksZ c-intOf i).toNat)
  case atStart=>exact⟨0,by omega,rfl⟩
  case round=>
   obtain⟨k,hk,rfl⟩:=hrel
   have hst:=blk_step c k h (by omega)
   have hm0:0≤((k:Int)+1)*bytesZ c:=Int.mul_nonneg (by omega) (by omega)
   have hm1:((k:Int)+1)*bytesZ c≤16*192:=Int.mul_le_mul (by omega) hl2 hl1 (by omega)
   by_cases hlt:(k:Int)<blocksZ c
   ·have hin:64+((k:Int)+1)*bytesZ c≤1024:=by rw[hst];exact hlt
    clear hst
    go_wp2_with fail
    refine(RBytes_z _ _).mono ?_
    rintro e w2 ⟨rfl,rfl⟩
    go_wp2
    go_round
    case rel=>exact⟨k+1,by omega,by go_num⟩
    case measure=>simp[intOf];omega
   ·have hin: ¬64+((k:Int)+1)*bytesZ c≤1024:=by rw[hst];exact hlt
    have hz:=hid (show blocksZ c=k by omega)
    clear hst
    go_wp2_with fail
    refine(RBytes_z _ _).mono ?_
    rintro e w2 ⟨rfl,rfl⟩
    go_wp2
    go_ret
    exact⟨by rw[hz.out];rfl,rfl⟩
 ·have hz:=hid (show blocksZ c=0 by unfold blocksZ;rw[if_neg (by omega),if_neg (by omega),if_neg (by omega)])
  have hne:(bytesZ c==0)=true:=beq_iff_eq.2 (if_neg h)
  go_enter Tryz.func128,Tryz.ntmps128
  go_wp2_with fail
  refine(RBytes_z _ _).mono ?_
  rintro e w2 ⟨rfl,rfl⟩
  go_wp2
  go_ret
  exact⟨by rw[hz.out];rfl,rfl⟩
theorem RBlock_z (s c j:Int) (w:World):
  Calls Tryz.prog 130 #[.int .i64 s,.int .i64 c,.int .i64 j] w fun e w'=>e= .returned (.int .u64 (blockZ s c j))∧w=w':=by
 obtain⟨b1,b2⟩:=blocksZ_le c
 obtain⟨b3,b4⟩:=headerZ_le s
 by_cases hs:1≤s∧s≤64
 ·have hh:headerZ s=1024*s:=if_pos hs
  have hne:(headerZ s==0)=false:=by rw[hh];simp;omega
  have Hh:=hid hh;clear hh
  by_cases hj0:j<0
  ·have hz:=hid (show blockZ s c j=0 from if_neg (by omega))
   go_enter Tryz.func130,Tryz.ntmps130
   go_wp2_with fail
   refine(RHeader_z _ _).mono ?_
   rintro e w1 ⟨rfl,rfl⟩
   go_wp2
   go_ret
   exact⟨by rw[hz.out];rfl,rfl⟩
  ·by_cases hj:j<blocksZ c
   ·have hz:=hid (show blockZ s c j=headerZ s+(64+j*bytesZ c) by
     unfold blockZ;rw[if_pos ⟨hs.1,hs.2,by omega,hj⟩,Hh.out];omega)
    obtain⟨a1,a2⟩:=area_le c j (by omega) hj
    go_enter Tryz.func130,Tryz.ntmps130
    go_wp2_with fail
    refine(RHeader_z _ _).mono ?_
    rintro e w1 ⟨rfl,rfl⟩
    go_wp2_with fail
    refine(RBlocks_z _ _).mono ?_
    rintro e w1 ⟨rfl,rfl⟩
    go_wp2_with fail
    refine(RHeader_z _ _).mono ?_
    rintro e w1 ⟨rfl,rfl⟩
    go_wp2_with fail
    refine(RBytes_z _ _).mono ?_
    rintro e w1 ⟨rfl,rfl⟩
    go_wp2
    go_ret
    exact⟨by rw[hz.out];rfl,rfl⟩
   ·have hz:=hid (show blockZ s c j=0 from if_neg (by omega))
    go_enter Tryz.func130,Tryz.ntmps130
    go_wp2_with fail
    refine(RHeader_z _ _).mono ?_
    rintro e w1 ⟨rfl,rfl⟩
    go_wp2_with fail
    refine(RBlocks_z _ _).mono ?_
    rintro e w1 ⟨rfl,rfl⟩
    go_wp2
    go_ret
    exact⟨by rw[hz.out];rfl,rfl⟩
 ·have hz:=hid (show blockZ s c j=0 from if_neg (by omega))
  have hh:headerZ s=0:=if_neg hs
  have hne:(headerZ s==0)=true:=by rw[hh];rfl
  clear hh
  go_enter Tryz.func130,Tryz.ntmps130
  go_wp2_with fail
  refine(RHeader_z _ _).mono ?_
  rintro e w1 ⟨rfl,rfl⟩
  go_wp2
  go_ret
  exact⟨by rw[hz.out];rfl,rfl⟩
theorem RSlabs_z (n:Int) (w:World):
  Calls Tryz.prog 125 #[.int .i64 n] w fun e w'=>e= .returned (.int .i64 (slabsZ n))∧w=w':=by
 go_enter Tryz.func125,Tryz.ntmps125
 go_wp2_with fail
 go_loop [3] (fun i=> ∃k:Int,1≤k∧k≤65∧i= .int .i64 k∧Hid (∀m,1≤m→m<k→1024+1024*m≠n)) (fun i=>(65-intOf i).toNat)
 case atStart=>exact⟨1,by omega,by omega,rfl,fun m h h'=>by omega⟩
 case round=>
  obtain⟨k,hk1,hk2,rfl,hN⟩:=hrel
  by_cases hlt:k≤64
  ·by_cases he:1024+1024*k=n
   ·have he1:(1024+1024*k==n)=true:=beq_iff_eq.2 he
    have hz:=hid (show slabsZ n=k by unfold slabsZ;rw[if_pos (by omega)];omega)
    clear he hN
    go_wp2
    go_ret
    exact⟨by rw[hz.out];rfl,rfl⟩
   ·have he1:(1024+1024*k==n)=false:=beq_eq_false_iff_ne.2 he
    have hN':Hid (∀m,1≤m→m<k+1→1024+1024*m≠n):=fun m h h'=>by
     by_cases h2:m=k
     ·subst h2;exact he
     ·exact hN.out m h (by omega)
    clear he hN
    go_wp2
    go_round
    case rel=>exact⟨k+1,by omega,by omega,rfl,hN'⟩
    case measure=>simp[intOf];omega
  ·have hz:=hid (show slabsZ n=0 by
    unfold slabsZ;rw[if_neg];intro h
    exact hN.out (n/1024-1) (by omega) (by omega) (by omega))
   clear hN
   go_wp2
   go_ret
   exact⟨by rw[hz.out];rfl,rfl⟩
theorem RSlab_z (a:Int) (w:World) (h0:0≤a) (h1:a≤18446744073709551615):
  Calls Tryz.prog 161 #[.int .u64 a] w fun e w'=>e= .returned (.int .i64 (slabZ a))∧w=w':=by
 go_enter Tryz.func161,Tryz.ntmps161
 go_wp2_with fail
 go_loop [3] (fun i=> ∃k:Int,1≤k∧k≤65∧i= .int .i64 k∧Hid (k=1∨a<1024∨1024*k≤a)) (fun i=>(65-intOf i).toNat)
 case atStart=>exact⟨1,by omega,by omega,rfl,Or.inl rfl⟩
 case round=>
  obtain⟨k,hk1,hk2,rfl,hN⟩:=hrel
  by_cases hlt:k≤64
  ·have hh:headerZ k=1024*k:=if_pos ⟨hk1,hlt⟩
   obtain⟨q1,q2⟩:=headerZ_le k
   by_cases hge:1024*k≤a
   ·have g1:headerZ k≤a:=by omega
    by_cases hl2:a<1024*k+1024
    ·have g2:a<headerZ k+1024:=by omega
     have hz:=hid (show slabZ a=k by unfold slabZ;rw[if_pos (by omega)];omega)
     clear hh hN
     go_wp2_with fail
     refine(RHeader_z _ _).mono ?_
     rintro e w1 ⟨rfl,rfl⟩
     go_wp2_with fail
     refine(RHeader_z _ _).mono ?_
     rintro e w1 ⟨rfl,rfl⟩
     go_wp2
     go_ret
     exact⟨by rw[hz.out];rfl,rfl⟩
    ·have g2: ¬a<headerZ k+1024:=by omega
     have hN':Hid (k+1=1∨a<1024∨1024*(k+1)≤a):=Or.inr (Or.inr (by omega))
     clear hh hN
     go_wp2_with fail
     refine(RHeader_z _ _).mono ?_
     rintro e w1 ⟨rfl,rfl⟩
     go_wp2_with fail
     refine(RHeader_z _ _).mono ?_
     rintro e w1 ⟨rfl,rfl⟩
     go_wp2
     go_round
     case rel=>exact⟨k+1,by omega,by omega,rfl,hN'⟩
     case measure=>simp[intOf];omega
   ·have g1: ¬headerZ k≤a:=by omega
    have hN':Hid (k+1=1∨a<1024∨1024*(k+1)≤a):=by
     have:=hN.out
     exact Or.inr (Or.inl (by omega))
    clear hh hN
    go_wp2_with fail
    refine(RHeader_z _ _).mono ?_
    rintro e w1 ⟨rfl,rfl⟩
    go_wp2
    go_round
    case rel=>exact⟨k+1,by omega,by omega,rfl,hN'⟩
    case measure=>simp[intOf];omega
  ·have hz:=hid (show slabZ a=0 by
    have:=hN.out
    unfold slabZ;rw[if_neg (by omega)])
   clear hN
   go_wp2
   go_ret
   exact⟨by rw[hz.out];rfl,rfl⟩
theorem blockZ_slab (i c j:Int) (hi:1≤i∧i≤64) (hj:0≤j) (hl:j<blocksZ c):slabZ (blockZ i c j)=i∧0<blockZ i c j:=by
 obtain⟨a1,a2⟩:=area_le c j hj hl
 unfold blockZ;rw[if_pos ⟨hi.1,hi.2,hj,hl⟩]
 refine⟨?_,by omega⟩
 unfold slabZ;rw[if_pos (by omega)];omega
theorem idxZ_no64 (a c:Int) (h0:0≤a) (h: ∀i,1≤i→i<65→ ∀j,0≤j→j<blocksZ c→blockZ i c j≠a):idxZ a c= -1:=by
 refine idxZ_none a c h0 fun j hj hl=> ?_
 have hs:=slabZ_le a
 by_cases h1:1≤slabZ a
 ·exact Or.inl (h _ h1 (by omega) j hj hl)
 ·by_cases ha:a=0
  ·exact Or.inr ha
  ·left;unfold blockZ;rw[if_neg (by omega)];omega
theorem RIndex_z (a c:Int) (w:World) (h0:0≤a):
  Calls Tryz.prog 162 #[.int .u64 a,.int .i64 c] w fun e w'=>e= .returned (.int .i64 (idxZ a c))∧w=w':=by
 obtain⟨b1,b2⟩:=blocksZ_le c
 go_enter Tryz.func162,Tryz.ntmps162
 go_wp2_with fail
 go_loop [5,6] (fun i _=> ∃k:Int,1≤k∧k≤65∧i= .int .i64 k∧Hid (∀i,1≤i→i<k→ ∀j,0≤j→j<blocksZ c→blockZ i c j≠a)) (fun i _=>(65-intOf i).toNat)
 case atStart=>exact⟨1,by omega,by omega,rfl,fun i h h'=>by omega⟩
 case round=>
  obtain⟨k,hk1,hk2,rfl,hN⟩:=hrel
  by_cases hlt:k≤64
  ·go_wp2_with fail
   go_loop [6] (fun i=> ∃m:Int,0≤m∧m≤blocksZ c∧i= .int .i64 m∧Hid (∀j,0≤j→j<m→blockZ k c j≠a)) (fun i=>(blocksZ c-intOf i).toNat)
   case atStart=>exact⟨0,by omega,by omega,rfl,fun i h h'=>by omega⟩
   case round=>
    obtain⟨m,hm1,hm2,rfl,hM⟩:=hrel
    by_cases hlm:m<blocksZ c
    ·by_cases he:blockZ k c m=a
     ·have he1:(blockZ k c m==a)=true:=beq_iff_eq.2 he
      have hbs:=blockZ_slab k c m ⟨hk1,hlt⟩ hm1 hlm
      have hz:=hid (show idxZ a c=m from idxZ_at a c m h0 hm1 hlm (by rw[←he,hbs.1]) (by omega))
      clear he hN hM hbs
      go_wp2_with fail
      refine(RBlocks_z _ _).mono ?_
      rintro e w1 ⟨rfl,rfl⟩
      go_wp2_with fail
      refine(RBlock_z _ _ _ _).mono ?_
      rintro e w1 ⟨rfl,rfl⟩
      go_wp2
      go_ret
      exact⟨by rw[hz.out];rfl,rfl⟩
     ·have he1:(blockZ k c m==a)=false:=beq_eq_false_iff_ne.2 he
      have hM':Hid (∀j,0≤j→j<m+1→blockZ k c j≠a):=fun j h h'=>by
       by_cases h2:j=m
       ·subst h2;exact he
       ·exact hM.out j h (by omega)
      clear he hM
      go_wp2_with fail
      refine(RBlocks_z _ _).mono ?_
      rintro e w1 ⟨rfl,rfl⟩
      go_wp2_with fail
      refine(RBlock_z _ _ _ _).mono ?_
      rintro e w1 ⟨rfl,rfl⟩
      go_wp2
      go_round
      case rel=>exact⟨m+1,by omega,by omega,rfl,hM'⟩
      case measure=>simp[intOf];omega
    ·have hN':Hid (∀i,1≤i→i<k+1→ ∀j,0≤j→j<blocksZ c→blockZ i c j≠a):=fun i h h'=>by
      by_cases h2:i=k
      ·subst h2;exact fun j hj hl=>hM.out j hj (by omega)
      ·exact hN.out i h (by omega)
     clear hM hN
     go_wp2_with fail
     refine(RBlocks_z _ _).mono ?_
     rintro e w1 ⟨rfl,rfl⟩
     go_wp2
     go_round
     case rel=>exact⟨k+1,by omega,by omega,rfl,hN'⟩
     case measure=>simp[intOf];omega
  ·have hz:=hid (idxZ_no64 a c h0 fun i h h'=>hN.out i h (by omega))
   clear hN
   go_wp2
   go_ret
   exact⟨by rw[hz.out];rfl,rfl⟩
end Go.Proofs.YtibiekfjbibpbaaGreat
