import Derived.Test.YtibiekfjbibpbaaGreatRows
import Derived.WalkSpells
import Derived.WalkLawsBesides
import Derived.Test.YtibiekfjbibpbaaGreatAli
set_option maxHeartbeats 400000
namespace Go.Proofs.YtibiekfjbibpbaaGreat
open Go.RowKit
theorem bx {a b c:World} (h:Below a.heap.size a b) (k:Below b.heap.size b c):Below a.heap.size a c:=h.trans (k.mono h.size)
theorem ba {a b:World} (h:Below a.heap.size a b) (o:Obj):Below a.heap.size a (b.alloc o):=h.alloc h.size o
theorem hid {p:Prop} (h:p):Hid p:=h
def inB (n a b:Int):Bool:=decide (a<=n)&&decide (n<=b)
theorem x9t {n a b:Int} (h:a<=n/\n<=b):inB n a b=true:=by simp[inB,h.1,h.2]
theorem x4n {n a b:Int} (h: ¬(a<=n/\n<=b)):inB n a b=false:=by unfold inB;by_cases h1:a<=n<;>by_cases h2:n<=b<;>simp_all
theorem q3x (n a b:Int) (w:World):
  Calls Tryz.prog 159 #[.int .i64 n,.int .i64 a,.int .i64 b] w fun e w'=>e= .returned (.bool (inB n a b))/\w=w':=by
 by_cases h1:a<=n<;>by_cases h2:n<=b
 all_goals
  go_enter Tryz.func159,Tryz.ntmps159;go_wp2;go_ret;exact⟨by simp[inB, *],rfl⟩
def q0m (c:Int):Int:=if c=1 then 15 else if c=2 then 7 else if c=3 then 5 else 0
theorem z4p (w:World):
  Calls Tryz.prog 194 #[] w fun e w'=>e= .returned (.agg #[.int .i64 0,.int .i64 15,.int .i64 7,.int .i64 5])/\Below w.heap.size w w':=by
 go_enter Tryz.func194,Tryz.ntmps194;go_wp2;refine bodyPost_ret (v:= .agg #[.int .i64 0,.int .i64 15,.int .i64 7,.int .i64 5]) ?_ rfl ?_;·simp[results,Tryz.results194,go_sem]
 ·exact⟨rfl,(Below.refl _ _).alloc (AG _) _⟩
theorem q7n (c:Int) (w:World):
  Calls Tryz.prog 134 #[.int .i64 c] w fun e w'=>e= .returned (.int .i64 (q0m c))/\Below w.heap.size w w':=by
 by_cases h:0<=c/\c<=3
 ·have h4:c=0\/c=1\/c=2\/c=3:=by omega
  rcases h4 with rfl|rfl|rfl|rfl
  all_goals
   go_enter Tryz.func134,Tryz.ntmps134;go_wp2_with fail;refine(z4p _).mono ?_;rintro e w1 ⟨rfl,hb⟩;go_wp2_with fail;refine(q3x _ _ _ _).mono ?_;rintro e w2 ⟨rfl,rfl⟩;go_wp2;go_ret;exact⟨by simp[q0m],hb.alloc hb.size _⟩
 ·have hi:=x4n h;go_enter Tryz.func134,Tryz.ntmps134;go_wp2_with fail;refine(z4p _).mono ?_;rintro e w1 ⟨rfl,hb⟩;go_wp2_with fail;refine(q3x _ _ _ _).mono ?_;rintro e w2 ⟨rfl,rfl⟩;go_wp2;go_ret;refine⟨?_,hb.alloc hb.size _⟩;have hz:q0m c=0:=by unfold q0m;rw[if_neg (by omega),if_neg (by omega),if_neg (by omega)]
  rw[hz];rfl
def q0e (c:Int):Int:=if 1<=c/\c<=3 then 64*c else 0
theorem z9s (c:Int) (w:World):
  Calls Tryz.prog 90 #[.int .i64 c] w fun e w'=>e= .returned (.int .i64 (q0e c))/\Below w.heap.size w w':=by
 by_cases h:1<=c/\c<=3
 ·have h4:c=1\/c=2\/c=3:=by omega
  rcases h4 with rfl|rfl|rfl
  all_goals
   go_enter Tryz.func90,Tryz.ntmps90;go_wp2_with fail;refine(q7n _ _).mono ?_;rintro e w1 ⟨rfl,hb⟩;simp only[q0m];go_wp2;go_ret;exact⟨by simp[q0e],hb⟩
 ·have hz:Hid (q0e c=0):=by show q0e c=0;unfold q0e;rw[if_neg h]
  have I:q0m c=0:=by unfold q0m;rw[if_neg (by omega),if_neg (by omega),if_neg (by omega)]
  go_enter Tryz.func90,Tryz.ntmps90;go_wp2_with fail;refine(q7n _ _).mono ?_;rintro e w1 ⟨rfl,hb⟩;rw[I];go_wp2;go_ret;exact⟨by rw[hz.out];simp,hb⟩
def q0w (n:Int):Int:=if n % 1024=0/\1<=n/1024-1/\n/1024-1<=64 then n/1024-1 else 0
theorem z5j (n:Int) (h:n<0):n.tdiv 1024<=0/\n/1024<=n.tdiv 1024:=by rw[tdiv_eq_if,if_neg (by omega)];omega
theorem q8h (n:Int) (w:World) (I: -9223372036854775808<=n) (S:n<=9223372036854775807):
  Calls Tryz.prog 82 #[.int .i64 n] w fun e w'=>e= .returned (.tuple #[.int .i64 (q0w n),.bool (decide (0<q0w n))])/\w=w':=by
 by_cases h0:n<0
 ·have hz:Hid (q0w n=0):=if_neg (by omega);obtain⟨O,L⟩:=z5j n h0;have hi:inB (n.tdiv 1024-1) 1 64=false:=x4n (by omega);by_cases h1:n.tmod 1024=0
  ·have h2:(n.tmod 1024 !=0)=false:=by simp[h1]
   clear h1;go_enter Tryz.func82,Tryz.ntmps82;go_wp2_with fail;refine(q3x _ _ _ _).mono ?_;rintro e w2 ⟨rfl,rfl⟩;go_wp2;go_ret2;exact⟨by rw[hz.out];rfl,rfl⟩
  ·have h2:(n.tmod 1024 !=0)=true:=by simp[h1]
   clear h1;go_enter Tryz.func82,Tryz.ntmps82;go_wp2;go_ret2;exact⟨by rw[hz.out];rfl,rfl⟩
 ·have M:0<=n:=by omega
  clear h0;by_cases h1:n % 1024=0
  ·have h2:(n % 1024 !=0)=false:=by simp[h1]
   by_cases h3:1<=n/1024-1/\n/1024-1<=64
   ·have hz:Hid (q0w n=n/1024-1):=if_pos ⟨h1,h3⟩;have hp:Hid (decide (0<q0w n)=true):=by show decide (0<q0w n)=true;rw[hz.out];simp;omega
    have hi:=x9t h3;clear h1;obtain⟨h3,h4⟩:=h3;go_enter Tryz.func82,Tryz.ntmps82;go_wp2_with fail;refine(q3x _ _ _ _).mono ?_;rintro e w2 ⟨rfl,rfl⟩;go_wp2;go_ret2;exact⟨by rw[hp.out,hz.out];rfl,rfl⟩
   ·have hz:Hid (q0w n=0):=if_neg (by omega);have hi:=x4n h3;clear h1 h3;go_enter Tryz.func82,Tryz.ntmps82;go_wp2_with fail;refine(q3x _ _ _ _).mono ?_;rintro e w2 ⟨rfl,rfl⟩;go_wp2;go_ret2;exact⟨by rw[hz.out];rfl,rfl⟩
  ·have h2:(n % 1024 !=0)=true:=by simp[h1]
   have hz:Hid (q0w n=0):=if_neg (by omega);clear h1;go_enter Tryz.func82,Tryz.ntmps82;go_wp2;go_ret2;exact⟨by rw[hz.out];rfl,rfl⟩
def q1g (s:Int):Int:=if 1<=s/\s<=64 then 1024*s else 0
theorem q5k (s:Int) (w:World):
  Calls Tryz.prog 86 #[.int .i64 s] w fun e w'=>e= .returned (.int .u64 (q1g s))/\w=w':=by
 by_cases h:1<=s/\s<=64;·have hi:=x9t h;obtain⟨h1,h2⟩:=h;have hz:Hid (q1g s=1024*s):=if_pos ⟨h1,h2⟩;go_enter Tryz.func86,Tryz.ntmps86;go_wp2_with fail;refine(q3x _ _ _ _).mono ?_;rintro e w2 ⟨rfl,rfl⟩;go_wp2;go_ret;exact⟨by rw[hz.out];rfl,rfl⟩
 ·have hi:=x4n h;have hz:Hid (q1g s=0):=if_neg h;go_enter Tryz.func86,Tryz.ntmps86;go_wp2_with fail;refine(q3x _ _ _ _).mono ?_;rintro e w2 ⟨rfl,rfl⟩;go_wp2;go_ret;exact⟨by rw[hz.out];rfl,rfl⟩
def q0c (s c j:Int):Int:=if 1<=s/\s<=64/\0<=j/\j<q0m c then 1024*s+64+j*q0e c else 0
theorem q3d (c:Int):0<=q0m c/\q0m c<=15:=by unfold q0m;split<;>(try split)<;>(try split)<;>omega
theorem z8h (c:Int):0<=q0e c/\q0e c<=192:=by unfold q0e;split<;>omega
theorem z0l (s:Int):0<=q1g s/\q1g s<=65536:=by unfold q1g;split<;>omega
theorem z5f (c j:Int) (h0:0<=j) (h1:j<q0m c):0<=j*q0e c/\j*q0e c<=896:=by
 unfold q0m at h1;unfold q0e;split at h1;·subst c;simp;omega
 ·split at h1;·subst c;simp;omega
  ·split at h1;·subst c;simp;omega
   ·omega
theorem x7g (s c j:Int) (w:World):
  Calls Tryz.prog 71 #[.int .i64 s,.int .i64 c,.int .i64 j] w fun e w'=>e= .returned (.int .u64 (q0c s c j))/\Below w.heap.size w w':=by
 obtain⟨b1,b2⟩:=q3d c;obtain⟨b3,b4⟩:=z0l s;by_cases hs:1<=s/\s<=64
 ·have hh:q1g s=1024*s:=if_pos hs;have M:(q1g s==0)=false:=by rw[hh];simp;omega
  have Hh:=hid hh;clear hh;by_cases hj:0<=j/\j<=q0m c-1
  ·have hz:Hid (q0c s c j=q1g s+64+j*q0e c):=by
    show q0c s c j=_;rw[Hh.out];exact if_pos ⟨hs.1,hs.2,hj.1,by omega⟩
   have hi:=x9t hj;obtain⟨a1,a2⟩:=z5f c j hj.1 (by omega);go_enter Tryz.func71,Tryz.ntmps71;go_wp2_with fail;refine(q5k _ _).mono ?_;rintro e w1 ⟨rfl,rfl⟩;go_wp2_with fail;refine(q7n _ _).mono ?_;rintro e w1 ⟨rfl,I⟩;go_wp2_with fail;refine(q3x _ _ _ _).mono ?_;rintro e w2 ⟨rfl,rfl⟩;go_wp2_with fail;refine(q5k _ _).mono ?_;rintro e w2 ⟨rfl,rfl⟩;go_wp2_with fail;refine(z9s _ _).mono ?_;rintro e w2 ⟨rfl,L⟩;go_wp2;go_ret;exact⟨by rw[hz.out];rfl,I.trans (L.mono I.size)⟩
  ·have hz:Hid (q0c s c j=0):=if_neg (by omega);have hi:=x4n hj;go_enter Tryz.func71,Tryz.ntmps71;go_wp2_with fail;refine(q5k _ _).mono ?_;rintro e w1 ⟨rfl,rfl⟩;go_wp2_with fail;refine(q7n _ _).mono ?_;rintro e w1 ⟨rfl,I⟩;go_wp2_with fail;refine(q3x _ _ _ _).mono ?_;rintro e w2 ⟨rfl,rfl⟩;go_wp2;go_ret;exact⟨by rw[hz.out];rfl,I⟩
 ·have hz:Hid (q0c s c j=0):=if_neg (by omega);have hh:q1g s=0:=if_neg hs;have M:(q1g s==0)=true:=by rw[hh];rfl
  clear hh;go_enter Tryz.func71,Tryz.ntmps71;go_wp2_with fail;refine(q5k _ _).mono ?_;rintro e w1 ⟨rfl,rfl⟩;go_wp2;go_ret;exact⟨by rw[hz.out];rfl,Below.refl _ _⟩
end Go.Proofs.YtibiekfjbibpbaaGreat
