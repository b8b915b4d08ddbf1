/- Contracts of levee/geo's functions on addresses. -/
import Derived.Test.YtibiekfjbibpbaaGreatGeoA
set_option maxHeartbeats 400000
namespace Go.Proofs.YtibiekfjbibpbaaGreat
open Go.RowKit
theorem within_addr (n a b:Int) (w:World):
  Calls Tryz.prog 166 #[.int .u64 n,.int .u64 a,.int .u64 b] w fun e w'=>e= .returned (.bool (inB n a b))∧w=w':=by
 by_cases h1:a≤n<;>by_cases h2:n≤b
 all_goals
  go_enter Tryz.func166,Tryz.ntmps166
  go_wp2
  go_ret
  exact⟨by simp[inB, *],rfl⟩
def slabZ (a:Int):Int:=if 1≤a/1024∧a/1024≤64 then a/1024 else 0
theorem slabZ_le (a:Int):0≤slabZ a∧slabZ a≤64:=by unfold slabZ;split<;>omega
theorem Slab_z (a:Int) (w:World) (h0:0≤a) (h1:a≤18446744073709551615):
  Calls Tryz.prog 83 #[.int .u64 a] w fun e w'=>e= .returned (.int .i64 (slabZ a))∧w=w':=by
 by_cases h:1≤a/1024∧a/1024≤64
 ·have hi:=inB_t h
  have hz:Hid (slabZ a=a/1024):=if_pos h
  obtain⟨h2,h3⟩:=h
  go_enter Tryz.func83,Tryz.ntmps83
  go_wp2_with fail
  refine(within_addr _ _ _ _).mono ?_
  rintro e w2 ⟨rfl,rfl⟩
  go_wp2
  go_ret
  exact⟨by rw[hz.out];rfl,rfl⟩
 ·have hi:=inB_f h
  have hz:Hid (slabZ a=0):=if_neg h
  clear h
  go_enter Tryz.func83,Tryz.ntmps83
  go_wp2_with fail
  refine(within_addr _ _ _ _).mono ?_
  rintro e w2 ⟨rfl,rfl⟩
  go_wp2
  go_ret
  exact⟨by rw[hz.out];rfl,rfl⟩
def keyZ (b i:Int):Int:=if 0≤i∧i≤7 then b+64+16*i else 0
def fieldZ (b i:Int):Int:=if 0≤i∧i≤7 then b+8*i else 0
def ptrZ (b i:Int):Int:=if 0≤i∧i≤7 then b+64+16*i+8 else 0
def bitsZ (s:Int):Int:=if 1≤s∧s≤64 then 1024*s+8 else 0
theorem Bits_z (s:Int) (w:World):
  Calls Tryz.prog 182 #[.int .i64 s] w fun e w'=>e= .returned (.int .u64 (bitsZ s))∧w=w':=by
 by_cases h:1≤s∧s≤64
 ·have hz:Hid (bitsZ s=1024*s+8):=if_pos h
  have hk:headerZ s=1024*s:=if_pos h
  obtain⟨h2,h3⟩:=h
  have hk1:1024≤headerZ s:=by omega
  have hk2:headerZ s≤65536:=by omega
  have hk3:(headerZ s==0)=false:=by simp;omega
  have Hk:=hid hk;clear hk
  go_enter Tryz.func182,Tryz.ntmps182
  go_wp2_with fail
  refine(Header_z _ _).mono ?_
  rintro e w2 ⟨rfl,rfl⟩
  go_wp2_with fail
  refine(Header_z _ _).mono ?_
  rintro e w2 ⟨rfl,rfl⟩
  go_wp2
  go_ret
  exact⟨by rw[hz.out,←Hk.out];rfl,rfl⟩
 ·have hz:Hid (bitsZ s=0):=if_neg h
  have hk:headerZ s=0:=if_neg h
  have hk3:(headerZ s==0)=true:=by rw[hk];rfl
  clear h hk
  go_enter Tryz.func182,Tryz.ntmps182
  go_wp2_with fail
  refine(Header_z _ _).mono ?_
  rintro e w2 ⟨rfl,rfl⟩
  go_wp2
  go_ret
  exact⟨by rw[hz.out];rfl,rfl⟩
end Go.Proofs.YtibiekfjbibpbaaGreat
