import Derived.Test.YtjmaicckkkdjpaaGreatRows
import Derived.WalkKit
import Derived.WalkSpells
import Derived.WalkLawsBesides
/- Contracts of levee/geo's functions and of the references' for layer 3: each call returns what the plain definitions say. -/
set_option maxHeartbeats 400000
namespace Go.Proofs.YtjmaicckkkdjpaaGreat
open Go.RowKit
theorem bx {a b c:World} (h:Below a.heap.size a b) (k:Below b.heap.size b c):Below a.heap.size a c:=h.trans (k.mono h.size)
theorem ba {a b:World} (h:Below a.heap.size a b) (o:Obj):Below a.heap.size a (b.alloc o):=h.alloc h.size o
theorem hid {p:Prop} (h:p):Hid p:=h
def inB (n a b:Int):Bool:=decide (a≤n)&&decide (n≤b)
theorem inB_t {n a b:Int} (h:a≤n∧n≤b):inB n a b=true:=by simp[inB,h.1,h.2]
theorem inB_f {n a b:Int} (h: ¬(a≤n∧n≤b)):inB n a b=false:=by unfold inB;by_cases h1:a≤n<;>by_cases h2:n≤b<;>simp_all
theorem within_int (n a b:Int) (w:World):
  Calls Tryz.prog 136 #[.int .i64 n,.int .i64 a,.int .i64 b] w fun e w'=>e= .returned (.bool (inB n a b))∧w=w':=by
 by_cases h1:a≤n<;>by_cases h2:n≤b
 all_goals
  go_enter Tryz.func136,Tryz.ntmps136
  go_wp2
  go_ret
  exact⟨by simp[inB, *],rfl⟩
def blocksZ (c:Int):Int:=if c=1 then 15 else if c=2 then 7 else if c=3 then 5 else 0
theorem blocks_any (w:World):
  Calls Tryz.prog 138 #[] w fun e w'=>e= .returned (.agg #[.int .i64 0,.int .i64 15,.int .i64 7,.int .i64 5])∧Below w.heap.size w w':=by
 go_enter Tryz.func138,Tryz.ntmps138
 go_wp2
 refine bodyPost_ret (v:= .agg #[.int .i64 0,.int .i64 15,.int .i64 7,.int .i64 5]) ?_ rfl ?_
 ·simp[results,Tryz.results138,go_sem]
 ·exact⟨rfl,(Below.refl _ _).alloc (Nat.le_refl _) _⟩
theorem Blocks_z (c:Int) (w:World):
  Calls Tryz.prog 99 #[.int .i64 c] w fun e w'=>e= .returned (.int .i64 (blocksZ c))∧Below w.heap.size w w':=by
 by_cases h:0≤c∧c≤3
 ·have h4:c=0∨c=1∨c=2∨c=3:=by omega
  rcases h4 with rfl | rfl | rfl | rfl
  all_goals
   go_enter Tryz.func99,Tryz.ntmps99
   go_wp2_with fail
   refine(blocks_any _).mono ?_
   rintro e w1 ⟨rfl,hb⟩
   go_wp2_with fail
   refine(within_int _ _ _ _).mono ?_
   rintro e w2 ⟨rfl,rfl⟩
   go_wp2
   go_ret
   exact⟨by simp[blocksZ],hb.alloc hb.size _⟩
 ·have hi:=inB_f h
  go_enter Tryz.func99,Tryz.ntmps99
  go_wp2_with fail
  refine(blocks_any _).mono ?_
  rintro e w1 ⟨rfl,hb⟩
  go_wp2_with fail
  refine(within_int _ _ _ _).mono ?_
  rintro e w2 ⟨rfl,rfl⟩
  go_wp2
  go_ret
  refine⟨?_,hb.alloc hb.size _⟩
  have hz:blocksZ c=0:=by
   unfold blocksZ
   rw[if_neg (by omega),if_neg (by omega),if_neg (by omega)]
  rw[hz];rfl
def bytesZ (c:Int):Int:=if 1≤c∧c≤3 then 64*c else 0
theorem Bytes_z (c:Int) (w:World):
  Calls Tryz.prog 141 #[.int .i64 c] w fun e w'=>e= .returned (.int .i64 (bytesZ c))∧Below w.heap.size w w':=by
 by_cases h:1≤c∧c≤3
 ·have h4:c=1∨c=2∨c=3:=by omega
  rcases h4 with rfl | rfl | rfl
  all_goals
   go_enter Tryz.func141,Tryz.ntmps141
   go_wp2_with fail
   refine(Blocks_z _ _).mono ?_
   rintro e w1 ⟨rfl,hb⟩
   simp only[blocksZ]
   go_wp2
   go_ret
   exact⟨by simp[bytesZ],hb⟩
 ·have hz:Hid (bytesZ c=0):=by show bytesZ c=0;unfold bytesZ;rw[if_neg h]
  have hz2:blocksZ c=0:=by
   unfold blocksZ
   rw[if_neg (by omega),if_neg (by omega),if_neg (by omega)]
  go_enter Tryz.func141,Tryz.ntmps141
  go_wp2_with fail
  refine(Blocks_z _ _).mono ?_
  rintro e w1 ⟨rfl,hb⟩
  rw[hz2]
  go_wp2
  go_ret
  exact⟨by rw[hz.out];simp,hb⟩
def slabsZ (n:Int):Int:=if n % 1024=0∧1≤n/1024-1∧n/1024-1≤64 then n/1024-1 else 0
theorem tdiv_neg_1024 (n:Int) (h:n<0):n.tdiv 1024≤0∧n/1024≤n.tdiv 1024:=by
 rw[tdiv_eq_if,if_neg (by omega)]
 omega
theorem Slabs_z (n:Int) (w:World) (hn1: -9223372036854775808≤n) (hn2:n≤9223372036854775807):
  Calls Tryz.prog 93 #[.int .i64 n] w fun e w'=>e= .returned (.tuple #[.int .i64 (slabsZ n),.bool (decide (0<slabsZ n))])∧w=w':=by
 by_cases h0:n<0
 ·have hz:Hid (slabsZ n=0):=if_neg (by omega)
  obtain⟨ht1,ht2⟩:=tdiv_neg_1024 n h0
  have hi:inB (n.tdiv 1024-1) 1 64=false:=inB_f (by omega)
  by_cases h1:n.tmod 1024=0
  ·have h2:(n.tmod 1024 !=0)=false:=by simp[h1]
   clear h1
   go_enter Tryz.func93,Tryz.ntmps93
   go_wp2_with fail
   refine(within_int _ _ _ _).mono ?_
   rintro e w2 ⟨rfl,rfl⟩
   go_wp2
   go_ret2
   exact⟨by rw[hz.out];rfl,rfl⟩
  ·have h2:(n.tmod 1024 !=0)=true:=by simp[h1]
   clear h1
   go_enter Tryz.func93,Tryz.ntmps93
   go_wp2
   go_ret2
   exact⟨by rw[hz.out];rfl,rfl⟩
 ·have h0':0≤n:=by omega
  clear h0
  by_cases h1:n % 1024=0
  ·have h2:(n % 1024 !=0)=false:=by simp[h1]
   by_cases h3:1≤n/1024-1∧n/1024-1≤64
   ·have hz:Hid (slabsZ n=n/1024-1):=if_pos ⟨h1,h3⟩
    have hp:Hid (decide (0<slabsZ n)=true):=by show decide (0<slabsZ n)=true;rw[hz.out];simp;omega
    have hi:=inB_t h3
    clear h1
    obtain⟨h3,h4⟩:=h3
    go_enter Tryz.func93,Tryz.ntmps93
    go_wp2_with fail
    refine(within_int _ _ _ _).mono ?_
    rintro e w2 ⟨rfl,rfl⟩
    go_wp2
    go_ret2
    exact⟨by rw[hp.out,hz.out];rfl,rfl⟩
   ·have hz:Hid (slabsZ n=0):=if_neg (by omega)
    have hi:=inB_f h3
    clear h1 h3
    go_enter Tryz.func93,Tryz.ntmps93
    go_wp2_with fail
    refine(within_int _ _ _ _).mono ?_
    rintro e w2 ⟨rfl,rfl⟩
    go_wp2
    go_ret2
    exact⟨by rw[hz.out];rfl,rfl⟩
  ·have h2:(n % 1024 !=0)=true:=by simp[h1]
   have hz:Hid (slabsZ n=0):=if_neg (by omega)
   clear h1
   go_enter Tryz.func93,Tryz.ntmps93
   go_wp2
   go_ret2
   exact⟨by rw[hz.out];rfl,rfl⟩
def sizeZ (s:Int):Int:=if 1≤s∧s≤64 then 1024*(1+s) else 0
theorem Size_z (s:Int) (w:World):
  Calls Tryz.prog 107 #[.int .i64 s] w fun e w'=>e= .returned (.int .i64 (sizeZ s))∧w=w':=by
 by_cases h:1≤s∧s≤64
 ·have hi:=inB_t h
  obtain⟨h1,h2⟩:=h
  have hz:Hid (sizeZ s=1024*(1+s)):=if_pos ⟨h1,h2⟩
  go_enter Tryz.func107,Tryz.ntmps107
  go_wp2_with fail
  refine(within_int _ _ _ _).mono ?_
  rintro e w2 ⟨rfl,rfl⟩
  go_wp2
  go_ret
  exact⟨by rw[hz.out];rfl,rfl⟩
 ·have hi:=inB_f h
  have hz:Hid (sizeZ s=0):=if_neg h
  go_enter Tryz.func107,Tryz.ntmps107
  go_wp2_with fail
  refine(within_int _ _ _ _).mono ?_
  rintro e w2 ⟨rfl,rfl⟩
  go_wp2
  go_ret
  exact⟨by rw[hz.out];rfl,rfl⟩
def headerZ (s:Int):Int:=if 1≤s∧s≤64 then 1024*s else 0
theorem Header_z (s:Int) (w:World):
  Calls Tryz.prog 96 #[.int .i64 s] w fun e w'=>e= .returned (.int .u64 (headerZ s))∧w=w':=by
 by_cases h:1≤s∧s≤64
 ·have hi:=inB_t h
  obtain⟨h1,h2⟩:=h
  have hz:Hid (headerZ s=1024*s):=if_pos ⟨h1,h2⟩
  go_enter Tryz.func96,Tryz.ntmps96
  go_wp2_with fail
  refine(within_int _ _ _ _).mono ?_
  rintro e w2 ⟨rfl,rfl⟩
  go_wp2
  go_ret
  exact⟨by rw[hz.out];rfl,rfl⟩
 ·have hi:=inB_f h
  have hz:Hid (headerZ s=0):=if_neg h
  go_enter Tryz.func96,Tryz.ntmps96
  go_wp2_with fail
  refine(within_int _ _ _ _).mono ?_
  rintro e w2 ⟨rfl,rfl⟩
  go_wp2
  go_ret
  exact⟨by rw[hz.out];rfl,rfl⟩
def blockZ (s c j:Int):Int:=if 1≤s∧s≤64∧0≤j∧j<blocksZ c then 1024*s+64+j*bytesZ c else 0
theorem blocksZ_le (c:Int):0≤blocksZ c∧blocksZ c≤15:=by unfold blocksZ;split<;>(try split)<;>(try split)<;>omega
theorem bytesZ_le (c:Int):0≤bytesZ c∧bytesZ c≤192:=by unfold bytesZ;split<;>omega
theorem headerZ_le (s:Int):0≤headerZ s∧headerZ s≤65536:=by unfold headerZ;split<;>omega
theorem area_le (c j:Int) (h0:0≤j) (h1:j<blocksZ c):0≤j*bytesZ c∧j*bytesZ c≤896:=by
 unfold blocksZ at h1;unfold bytesZ
 split at h1
 ·subst c;simp;omega
 ·split at h1
  ·subst c;simp;omega
  ·split at h1
   ·subst c;simp;omega
   ·omega
theorem Block_z (s c j:Int) (w:World):
  Calls Tryz.prog 102 #[.int .i64 s,.int .i64 c,.int .i64 j] w fun e w'=>e= .returned (.int .u64 (blockZ s c j))∧Below w.heap.size w w':=by
 obtain⟨b1,b2⟩:=blocksZ_le c
 obtain⟨b3,b4⟩:=headerZ_le s
 by_cases hs:1≤s∧s≤64
 ·have hh:headerZ s=1024*s:=if_pos hs
  have hne:(headerZ s==0)=false:=by rw[hh];simp;omega
  have Hh:=hid hh;clear hh
  by_cases hj:0≤j∧j≤blocksZ c-1
  ·have hz:Hid (blockZ s c j=headerZ s+64+j*bytesZ c):=by
    show blockZ s c j=_
    rw[Hh.out];exact if_pos ⟨hs.1,hs.2,hj.1,by omega⟩
   have hi:=inB_t hj
   obtain⟨a1,a2⟩:=area_le c j hj.1 (by omega)
   go_enter Tryz.func102,Tryz.ntmps102
   go_wp2_with fail
   refine(Header_z _ _).mono ?_
   rintro e w1 ⟨rfl,rfl⟩
   go_wp2_with fail
   refine(Blocks_z _ _).mono ?_
   rintro e w1 ⟨rfl,hb1⟩
   go_wp2_with fail
   refine(within_int _ _ _ _).mono ?_
   rintro e w2 ⟨rfl,rfl⟩
   go_wp2_with fail
   refine(Header_z _ _).mono ?_
   rintro e w2 ⟨rfl,rfl⟩
   go_wp2_with fail
   refine(Bytes_z _ _).mono ?_
   rintro e w2 ⟨rfl,hb2⟩
   go_wp2
   go_ret
   exact⟨by rw[hz.out];rfl,hb1.trans (hb2.mono hb1.size)⟩
  ·have hz:Hid (blockZ s c j=0):=if_neg (by omega)
   have hi:=inB_f hj
   go_enter Tryz.func102,Tryz.ntmps102
   go_wp2_with fail
   refine(Header_z _ _).mono ?_
   rintro e w1 ⟨rfl,rfl⟩
   go_wp2_with fail
   refine(Blocks_z _ _).mono ?_
   rintro e w1 ⟨rfl,hb1⟩
   go_wp2_with fail
   refine(within_int _ _ _ _).mono ?_
   rintro e w2 ⟨rfl,rfl⟩
   go_wp2
   go_ret
   exact⟨by rw[hz.out];rfl,hb1⟩
 ·have hz:Hid (blockZ s c j=0):=if_neg (by omega)
  have hh:headerZ s=0:=if_neg hs
  have hne:(headerZ s==0)=true:=by rw[hh];rfl
  clear hh
  go_enter Tryz.func102,Tryz.ntmps102
  go_wp2_with fail
  refine(Header_z _ _).mono ?_
  rintro e w1 ⟨rfl,rfl⟩
  go_wp2
  go_ret
  exact⟨by rw[hz.out];rfl,Below.refl _ _⟩
end Go.Proofs.YtjmaicckkkdjpaaGreat
