import Derived.Test.YtibiekfjbibpbaaGreatPmU
import Derived.Deep.RegionHeld3
set_option maxHeartbeats 800000
set_option linter.unusedVariables false
namespace Go.Proofs.YtibiekfjbibpbaaGreat
open Go.RowKit
def idxZ (a c:Int):Int:=if 1<=q1q a/\1<=c/\c<=3/\0<=a % 1024-64/\(a % 1024-64)% (64*c)=0/\(a % 1024-64)/ (64*c)<q0m c then(a % 1024-64)/ (64*c) else-1
def idxI (a c:Int):Int:=if idxZ a c= -1 then 0 else idxZ a c
def idxB (a c:Int):Bool:= !(idxZ a c== -1)
theorem x4a {a c j:Int} (h0:0<=j) (h:idxZ a c=j):idxI a c=j/\idxB a c=true:=by unfold idxI idxB;rw[h,if_neg (by omega)];exact⟨rfl,by rw[beq_eq_false_iff_ne.2 (show j≠ -1 by omega)];rfl⟩
theorem v4x {a c:Int} (h:idxZ a c= -1):idxI a c=0/\idxB a c=false:=by unfold idxI idxB;rw[h];exact⟨rfl,rfl⟩
theorem x6m (a c:Int): -1<=idxZ a c/\(0<=q0m c->idxZ a c<q0m c\/idxZ a c= -1):=by
 unfold idxZ;split;·rename_i h;have:0<=(a % 1024-64)/ (64*c):=Ci h.2.2.2.1 (by omega);omega
 ·omega
theorem z9t (a c j:Int) (h0:0<=a) (hj:0<=j) (hl:j<q0m c) (h:q0c (q1q a) c j=a) (hp:0<a):idxZ a c=j:=by
 have hs:=q5w a;have hc:c=1\/c=2\/c=3\/q0m c=0:=by unfold q0m;split<;>(try split)<;>(try split)<;>omega
 have I:1<=q1q a:=by unfold q0c at h;split at h<;>omega
 have hq:q1q a=a/1024:=by unfold q1q at I ⊢;split at I<;>(try split)<;>omega
 unfold q0c at h;rw[if_pos ⟨I,hs.2,hj,hl⟩] at h;unfold idxZ;rcases hc with rfl|rfl|rfl|hc;·simp[q0m,q0e] at hl h ⊢;rw[if_pos (by omega)];omega
 ·simp[q0m,q0e] at hl h ⊢;rw[if_pos (by omega)];omega
 ·simp[q0m,q0e] at hl h ⊢;rw[if_pos (by omega)];omega
 ·omega
theorem z2c (a c:Int) (h0:0<=a) (h:∀j,0<=j->j<q0m c->q0c (q1q a) c j≠a\/a=0):idxZ a c= -1:=by
 unfold idxZ;split
 ·rename_i hh;exfalso;obtain⟨h1,h2,h3,h4,h5,h6⟩:=hh;have hs:=q5w a;have hq:q1q a=a/1024:=by unfold q1q at h1 ⊢;split at h1<;>(try split)<;>omega
  have hk:=h ((a % 1024-64)/ (64*c)) (Ci h4 (by omega)) h6;have hc:c=1\/c=2\/c=3:=by omega
  unfold q0c at hk;rw[if_pos ⟨h1,hs.2,Ci h4 (by omega),h6⟩] at hk;rcases hc with rfl|rfl|rfl;·simp[q0e] at hk h5;omega
  ·simp[q0e] at hk h5;omega
  ·simp[q0e] at hk h5;omega
 ·rfl
theorem q8s (a c:Int) (w:World) (h0:0<=a) (h1:a<=18446744073709551615):
  Calls Tryz.prog 87 #[.int .u64 a,.int .i64 c] w fun e w'=>e= .returned (.tuple #[.int .i64 (idxI a c),.bool (idxB a c)])/\Below w.heap.size w w':=by
 obtain⟨b1,b2⟩:=q3d c;go_enter Tryz.func87,Tryz.ntmps87;go_wp2_with fail;refine(q7n _ _).mono ?_;rintro e w1 ⟨rfl,O⟩;go_wp2_with fail;go_loopw [6,7,10] (fun _ _ i wr=> ∃k:Nat,(k:Int)<=q0m c/\i= .int .i64 k/\Below w.heap.size w wr/\Hid (∀j,0<=j->j< (k:Int)->q0c (q1q a) c j≠a\/a=0)) (fun _ _ i _=>(q0m c-intOf i).toNat);case atStart=>exact⟨0,by omega,rfl,O,fun j h h'=>by omega⟩
 case round=>
  obtain⟨k,hk,rfl,hb,hN⟩:=hrel;clear O;by_cases hlt:(k:Int)<q0m c
  ·go_wp2_with fail;refine(z7m _ _ h0 h1).mono ?_;rintro e w2 ⟨rfl,rfl⟩;go_wp2_with fail;refine(x7g _ _ _ _).mono ?_;rintro e w2 ⟨rfl,M⟩;have I:=hb.trans (M.mono hb.size);clear M;by_cases he:q0c (q1q a) c k=a
   ·have S:(q0c (q1q a) c k==a)=true:=beq_iff_eq.2 he;by_cases hp:0<a
    ·have Y:0<q0c (q1q a) c k:=by omega
     have hz:=hid (x4a (by omega) (z9t a c k h0 (by omega) hlt he hp));clear he hN;go_wp2;go_ret2;exact⟨by rw[hz.out.1,hz.out.2];rfl,I⟩
    ·have Y: ¬0<q0c (q1q a) c k:=by omega
     have L:Hid (∀j,0<=j->j< ((k+1:Nat):Int)->q0c (q1q a) c j≠a\/a=0):=fun j hj U=>Or.inr (by omega);clear he hN;go_wp2;go_roundw;case rel=>exact⟨k+1,by omega,by go_num,I,L⟩
     case measure=>simp[intOf];omega
   ·have S:(q0c (q1q a) c k==a)=false:=beq_eq_false_iff_ne.2 he
    have L:Hid (∀j,0<=j->j< ((k+1:Nat):Int)->q0c (q1q a) c j≠a\/a=0):=fun j hj U=>by
     by_cases h:j=k;·subst h;exact Or.inl he
     ·exact hN.out j hj (by omega)
    clear he hN;go_wp2;go_roundw;case rel=>exact⟨k+1,by omega,by go_num,I,L⟩
    case measure=>simp[intOf];omega
  ·have hz:=hid (v4x (z2c a c h0 (fun j h h'=>hN.out j h (by omega))));clear hN;go_wp2;go_ret2;exact⟨by rw[hz.out.1,hz.out.2];rfl,hb⟩
def leB (a b:Int):Bool:=decide (a<=b)
theorem q9w (c n:Int) (p:Addr) (w:World) (hp:p.block<w.heap.size) (hc:w.cell? p=some (.int .i64 n)):
  Calls Tryz.prog 268 #[.int .i64 c,.pointer (some p)] w fun e w'=>e= .returned (.bool (leB n (q0e c-8)))/\Below w.heap.size w w':=by
 obtain⟨b1,b2⟩:=z8h c;have hw:IntKind.i64.wrap (q0e c-8)=q0e c-8:=IntWalk.i64_in _ (by omega);go_enter Tryz.func268,Tryz.ntmps268;go_wp2;go_region_with (go_at_call 90;refine(z9s _ _).mono ?_;rintro e w1 ⟨rfl,hb⟩;have I:=(hb.cell hp).trans hc);all_goals go_wp2
 all_goals go_ret
 all_goals exact⟨rfl,((Below.refl _ _).drew).trans (by assumption)⟩
def q7j (n:Int):Int:=if n<=56 then 0 else if n<=120 then 1 else-1
theorem z6y (n:Int) (b:Nat) (p:Addr) (w:World) (hb:b<w.heap.size) (hp:p.block<w.heap.size) (hc:w.cell? p=some (.int .i64 n))
  (h3:w.cell? ⟨b,0,none⟩=some (.int .i64 1)) (h5:w.cell? ⟨b,1,none⟩=some (.int .i64 2)):
  Calls Tryz.prog 269 #[.slice (some ⟨b,0,none⟩) 2 2,.func (.func 268) #[] #[.pointer (some p)]] w
   fun e w'=>e= .returned (.int .i64 (q7j n))/\Below w.heap.size w w':=by
 have e1:q0e 1-8=56:=rfl;have e2:q0e 2-8=112+8:=rfl;go_enter Tryz.func269,Tryz.ntmps269;go_wp2_with fail;go_loopw [5,8] (fun _ i wr=> ∃k:Nat,k<=2/\i= .int .i64 k/\Below w.heap.size w wr/\(1<=k->56<n)/\(2<=k->120<n)) (fun _ i _=>(2-intOf i).toNat);case atStart=>exact⟨0,by omega,rfl,Below.refl _ _,fun h=>by omega,fun h=>by omega⟩
 case round=>
  obtain⟨k,hk,rfl,hbel,M,I⟩:=hrel;have O:=(hbel.cell hp).trans hc;have h4:=(hbel.cell (p:=⟨b,0,none⟩) hb).trans h3;have h2:=(hbel.cell (p:=⟨b,1,none⟩) hb).trans h5;have S:p.block<wr.heap.size:=AL hp hbel.size;have h1:k=0\/k=1\/k=2:=by omega
  rcases h1 with rfl|rfl|rfl
  ·clear M I;by_cases hn:n<=56
   ·have hl:leB n (q0e 1-8)=true:=by rw[e1];exact AT hn
    have hz:=hid (show q7j n=0 from if_pos hn);clear e1 e2;go_wp2_with fail;refine(q9w 1 n p wr S O).mono ?_;rintro e w2 ⟨rfl,L⟩;go_wp2;go_ret;exact⟨by rw[hz.out];rfl,hbel.trans (L.mono hbel.size)⟩
   ·have hl:leB n (q0e 1-8)=false:=by rw[e1];exact AK hn
    clear e1 e2;go_wp2_with fail;refine(q9w 1 n p wr S O).mono ?_;rintro e w2 ⟨rfl,L⟩;go_wp2;go_roundw;case rel=>exact⟨1,by omega,by go_num,hbel.trans (L.mono hbel.size),fun _=>by omega,fun h=>by omega⟩
    case measure=>simp[intOf]
  ·have U:=M (by omega);clear M I;by_cases hn:n<=120
   ·have hl:leB n (q0e 2-8)=true:=by rw[e2];exact AT hn
    have hz:=hid (show q7j n=1 by unfold q7j;rw[if_neg (by omega),if_pos hn]);clear e1 e2;go_wp2_with fail;refine(q9w 2 n p wr S O).mono ?_;rintro e w2 ⟨rfl,L⟩;go_wp2;go_ret;exact⟨by rw[hz.out];rfl,hbel.trans (L.mono hbel.size)⟩
   ·have hl:leB n (q0e 2-8)=false:=by rw[e2];exact AK hn
    clear e1 e2;go_wp2_with fail;refine(q9w 2 n p wr S O).mono ?_;rintro e w2 ⟨rfl,L⟩;go_wp2;go_roundw;case rel=>exact⟨2,by omega,by go_num,hbel.trans (L.mono hbel.size),fun _=>by omega,fun h=>by omega⟩
    case measure=>simp[intOf]
  ·have U:=M (by omega);have Y:=I (by omega);have hz:=hid (show q7j n= -1 by unfold q7j;rw[if_neg (by omega),if_neg (by omega)]);clear M I e1 e2;go_wp2;go_ret;exact⟨by rw[hz.out];rfl,hbel⟩
def q2o (n:Int):Int:=if n<0 then 0 else 1+q7j n
theorem v6s (n:Int) (w:World) (L: -9223372036854775808<=n) (S:n<=9223372036854775807):
  Calls Tryz.prog 246 #[.int .i64 n] w fun e w'=>e= .returned (.int .i64 (q2o n))/\Below w.heap.size w w':=by
 by_cases h0:n<0;·have hz:Hid (q2o n=0):=if_pos h0;go_enter Tryz.func246,Tryz.ntmps246;go_wp2;go_ret;exact⟨by rw[hz.out];rfl,(Below.refl _ _).alloc (AG _) _⟩
 ·have hz:Hid (q2o n=1+q7j n):=if_neg h0;have hf: -1<=q7j n/\q7j n<=1:=by unfold q7j;split<;>(try split)<;>omega
  obtain⟨O,M⟩:=hf;go_enter Tryz.func246,Tryz.ntmps246;go_wp2_with fail;refine(z6y n (w.heap.size+1) ⟨w.heap.size,0,none⟩ _ ?_ ?_ ?_ ?_ ?_).mono ?_;·simp
  ·simp;omega
  ·go_simp
  ·go_simp
  ·go_simp
  rintro e w2 ⟨rfl,I⟩;go_wp2;go_ret;exact⟨by rw[hz.out];rfl,(((Below.refl _ _).alloc (AG _) _).alloc (by simp) _).trans (I.mono (by simp;omega))⟩
theorem q9q (c:Int) (w:World):
  Calls Tryz.prog 188 #[.int .i64 c] w fun e w'=>e= .returned (.int .i64 (q0e c))/\w=w':=by
 by_cases h1:c<1;·have hz:=hid (show q0e c=0 from if_neg (by omega));go_enter Tryz.func188,Tryz.ntmps188;go_wp2;go_ret;exact⟨by rw[hz.out];rfl,rfl⟩
 ·by_cases h2:3<c;·have hz:=hid (show q0e c=0 from if_neg (by omega));go_enter Tryz.func188,Tryz.ntmps188;go_wp2;go_ret;exact⟨by rw[hz.out];rfl,rfl⟩
  ·have hz:=hid (show q0e c=64*c from if_pos (by omega));go_enter Tryz.func188,Tryz.ntmps188;go_wp2;go_ret;exact⟨by rw[hz.out];rfl,rfl⟩
theorem x1c (n:Int) (w:World):
  Calls Tryz.prog 163 #[.int .i64 n] w fun e w'=>e= .returned (.int .i64 (q2o n))/\w=w':=by
 by_cases h1:n<0;·have hz:=hid (show q2o n=0 from if_pos h1);go_enter Tryz.func163,Tryz.ntmps163;go_wp2;go_ret;exact⟨by rw[hz.out];rfl,rfl⟩
 ·by_cases h2:n<=56;·have hz:=hid (show q2o n=1 by unfold q2o q7j;rw[if_neg h1,if_pos h2];rfl);go_enter Tryz.func163,Tryz.ntmps163;go_wp2;go_ret;exact⟨by rw[hz.out];rfl,rfl⟩
  ·by_cases h3:n<=120;·have hz:=hid (show q2o n=2 by unfold q2o q7j;rw[if_neg h1,if_neg h2,if_pos h3];rfl);go_enter Tryz.func163,Tryz.ntmps163;go_wp2;go_ret;exact⟨by rw[hz.out];rfl,rfl⟩
   ·have hz:=hid (show q2o n=0 by unfold q2o q7j;rw[if_neg h1,if_neg h2,if_neg h3];rfl);go_enter Tryz.func163,Tryz.ntmps163;go_wp2;go_ret;exact⟨by rw[hz.out];rfl,rfl⟩
theorem q3k (s:Int) (w:World):
  Calls Tryz.prog 190 #[.int .i64 s] w fun e w'=>e= .returned (.int .u64 (q1g s))/\w=w':=by
 by_cases h1:s<1;·have hz:=hid (show q1g s=0 from if_neg (by omega));go_enter Tryz.func190,Tryz.ntmps190;go_wp2;go_ret;exact⟨by rw[hz.out];rfl,rfl⟩
 ·by_cases h2:64<s;·have hz:=hid (show q1g s=0 from if_neg (by omega));go_enter Tryz.func190,Tryz.ntmps190;go_wp2;go_ret;exact⟨by rw[hz.out];rfl,rfl⟩
  ·have hz:=hid (show q1g s=1024*s from if_pos (by omega));go_enter Tryz.func190,Tryz.ntmps190;go_wp2;go_ret;exact⟨by rw[hz.out];rfl,rfl⟩
theorem v2r (c k:Int) (hc:1<=c/\c<=3) (hk:0<=k):(64+(k+1)*q0e c<=1024)=(k<q0m c):=by
 have h:c=1\/c=2\/c=3:=by omega
 rcases h with rfl|rfl|rfl<;>simp[q0e,q0m]<;>omega
theorem q6q (c:Int) (w:World):
  Calls Tryz.prog 128 #[.int .i64 c] w fun e w'=>e= .returned (.int .i64 (q0m c))/\w=w':=by
 by_cases h:1<=c/\c<=3
 ·have Y:=hid (show q0e c=64*c from if_pos h);have O:(q0e c==0)=false:=beq_eq_false_iff_ne.2 (by rw[Y.out];omega);have h2:=z8h c;obtain⟨U,S⟩:=h2;obtain⟨M,L⟩:=q3d c;go_enter Tryz.func128,Tryz.ntmps128;go_wp2_with fail;refine(q9q _ _).mono ?_;rintro e w2 ⟨rfl,rfl⟩;go_wp2_with fail;go_loop [3] (fun i=> ∃k:Nat,(k:Int)<=q0m c/\i= .int .i64 k) (fun i=>(q0m c-intOf i).toNat);case atStart=>exact⟨0,by omega,rfl⟩
  case round=>
   obtain⟨k,hk,rfl⟩:=hrel;have I:=v2r c k h (by omega);have h3:0<=((k:Int)+1)*q0e c:=Int.mul_nonneg (by omega) (by omega);have h4:((k:Int)+1)*q0e c<=16*192:=Int.mul_le_mul (by omega) S U (by omega);by_cases hlt:(k:Int)<q0m c
   ·have h1:64+((k:Int)+1)*q0e c<=1024:=by rw[I];exact hlt
    clear I;go_wp2_with fail;refine(q9q _ _).mono ?_;rintro e w2 ⟨rfl,rfl⟩;go_wp2;go_round;case rel=>exact⟨k+1,by omega,by go_num⟩
    case measure=>simp[intOf];omega
   ·have h1: ¬64+((k:Int)+1)*q0e c<=1024:=by rw[I];exact hlt
    have hz:=hid (show q0m c=k by omega);clear I;go_wp2_with fail;refine(q9q _ _).mono ?_;rintro e w2 ⟨rfl,rfl⟩;go_wp2;go_ret;exact⟨by rw[hz.out];rfl,rfl⟩
 ·have hz:=hid (show q0m c=0 by unfold q0m;rw[if_neg (by omega),if_neg (by omega),if_neg (by omega)]);have O:(q0e c==0)=true:=beq_iff_eq.2 (if_neg h);go_enter Tryz.func128,Tryz.ntmps128;go_wp2_with fail;refine(q9q _ _).mono ?_;rintro e w2 ⟨rfl,rfl⟩;go_wp2;go_ret;exact⟨by rw[hz.out];rfl,rfl⟩
theorem z1y (s c j:Int) (w:World):
  Calls Tryz.prog 130 #[.int .i64 s,.int .i64 c,.int .i64 j] w fun e w'=>e= .returned (.int .u64 (q0c s c j))/\w=w':=by
 obtain⟨b1,b2⟩:=q3d c;obtain⟨b3,b4⟩:=z0l s;by_cases hs:1<=s/\s<=64
 ·have hh:q1g s=1024*s:=if_pos hs;have I:(q1g s==0)=false:=by rw[hh];simp;omega
  have Hh:=hid hh;clear hh;by_cases hj0:j<0;·have hz:=hid (show q0c s c j=0 from if_neg (by omega));go_enter Tryz.func130,Tryz.ntmps130;go_wp2_with fail;refine(q3k _ _).mono ?_;rintro e w1 ⟨rfl,rfl⟩;go_wp2;go_ret;exact⟨by rw[hz.out];rfl,rfl⟩
  ·by_cases hj:j<q0m c
   ·have hz:=hid (show q0c s c j=q1g s+(64+j*q0e c) by
     unfold q0c;rw[if_pos ⟨hs.1,hs.2,by omega,hj⟩,Hh.out];omega)
    obtain⟨a1,a2⟩:=z5f c j (by omega) hj;go_enter Tryz.func130,Tryz.ntmps130;go_wp2_with fail;refine(q3k _ _).mono ?_;rintro e w1 ⟨rfl,rfl⟩;go_wp2_with fail;refine(q6q _ _).mono ?_;rintro e w1 ⟨rfl,rfl⟩;go_wp2_with fail;refine(q3k _ _).mono ?_;rintro e w1 ⟨rfl,rfl⟩;go_wp2_with fail;refine(q9q _ _).mono ?_;rintro e w1 ⟨rfl,rfl⟩;go_wp2;go_ret;exact⟨by rw[hz.out];rfl,rfl⟩
   ·have hz:=hid (show q0c s c j=0 from if_neg (by omega));go_enter Tryz.func130,Tryz.ntmps130;go_wp2_with fail;refine(q3k _ _).mono ?_;rintro e w1 ⟨rfl,rfl⟩;go_wp2_with fail;refine(q6q _ _).mono ?_;rintro e w1 ⟨rfl,rfl⟩;go_wp2;go_ret;exact⟨by rw[hz.out];rfl,rfl⟩
 ·have hz:=hid (show q0c s c j=0 from if_neg (by omega));have hh:q1g s=0:=if_neg hs;have I:(q1g s==0)=true:=by rw[hh];rfl
  clear hh;go_enter Tryz.func130,Tryz.ntmps130;go_wp2_with fail;refine(q3k _ _).mono ?_;rintro e w1 ⟨rfl,rfl⟩;go_wp2;go_ret;exact⟨by rw[hz.out];rfl,rfl⟩
theorem q8q (n:Int) (w:World):
  Calls Tryz.prog 125 #[.int .i64 n] w fun e w'=>e= .returned (.int .i64 (q0w n))/\w=w':=by
 go_enter Tryz.func125,Tryz.ntmps125;go_wp2_with fail;go_loop [3] (fun i=> ∃k:Int,1<=k/\k<=65/\i= .int .i64 k/\Hid (∀m,1<=m->m<k->1024+1024*m≠n)) (fun i=>(65-intOf i).toNat);case atStart=>exact⟨1,by omega,by omega,rfl,fun m h h'=>by omega⟩
 case round=>
  obtain⟨k,M,O,rfl,hN⟩:=hrel;by_cases hlt:k<=64
  ·by_cases he:1024+1024*k=n;·have I:(1024+1024*k==n)=true:=beq_iff_eq.2 he;have hz:=hid (show q0w n=k by unfold q0w;rw[if_pos (by omega)];omega);clear he hN;go_wp2;go_ret;exact⟨by rw[hz.out];rfl,rfl⟩
   ·have I:(1024+1024*k==n)=false:=beq_eq_false_iff_ne.2 he
    have L:Hid (∀m,1<=m->m<k+1->1024+1024*m≠n):=fun m h h'=>by
     by_cases h2:m=k;·subst h2;exact he
     ·exact hN.out m h (by omega)
    clear he hN;go_wp2;go_round;case rel=>exact⟨k+1,by omega,by omega,rfl,L⟩
    case measure=>simp[intOf];omega
  ·have hz:=hid (show q0w n=0 by
    unfold q0w;rw[if_neg];intro h;exact hN.out (n/1024-1) (by omega) (by omega) (by omega))
   clear hN;go_wp2;go_ret;exact⟨by rw[hz.out];rfl,rfl⟩
theorem v7w (a:Int) (w:World) (h0:0<=a) (h1:a<=18446744073709551615):
  Calls Tryz.prog 161 #[.int .u64 a] w fun e w'=>e= .returned (.int .i64 (q1q a))/\w=w':=by
 go_enter Tryz.func161,Tryz.ntmps161;go_wp2_with fail;go_loop [3] (fun i=> ∃k:Int,1<=k/\k<=65/\i= .int .i64 k/\Hid (k=1\/a<1024\/1024*k<=a)) (fun i=>(65-intOf i).toNat);case atStart=>exact⟨1,by omega,by omega,rfl,Or.inl rfl⟩
 case round=>
  obtain⟨k,L,M,rfl,hN⟩:=hrel;by_cases hlt:k<=64
  ·have hh:q1g k=1024*k:=if_pos ⟨L,hlt⟩;obtain⟨q1,q2⟩:=z0l k;by_cases hge:1024*k<=a
   ·have g1:q1g k<=a:=by omega
    by_cases hl2:a<1024*k+1024
    ·have g2:a<q1g k+1024:=by omega
     have hz:=hid (show q1q a=k by unfold q1q;rw[if_pos (by omega)];omega);clear hh hN;go_wp2_with fail;refine(q3k _ _).mono ?_;rintro e w1 ⟨rfl,rfl⟩;go_wp2_with fail;refine(q3k _ _).mono ?_;rintro e w1 ⟨rfl,rfl⟩;go_wp2;go_ret;exact⟨by rw[hz.out];rfl,rfl⟩
    ·have g2: ¬a<q1g k+1024:=by omega
     have I:Hid (k+1=1\/a<1024\/1024*(k+1)<=a):=Or.inr (Or.inr (by omega));clear hh hN;go_wp2_with fail;refine(q3k _ _).mono ?_;rintro e w1 ⟨rfl,rfl⟩;go_wp2_with fail;refine(q3k _ _).mono ?_;rintro e w1 ⟨rfl,rfl⟩;go_wp2;go_round;case rel=>exact⟨k+1,by omega,by omega,rfl,I⟩
     case measure=>simp[intOf];omega
   ·have g1: ¬q1g k<=a:=by omega
    have I:Hid (k+1=1\/a<1024\/1024*(k+1)<=a):=by have:=hN.out;exact Or.inr (Or.inl (by omega))
    clear hh hN;go_wp2_with fail;refine(q3k _ _).mono ?_;rintro e w1 ⟨rfl,rfl⟩;go_wp2;go_round;case rel=>exact⟨k+1,by omega,by omega,rfl,I⟩
    case measure=>simp[intOf];omega
  ·have hz:=hid (show q1q a=0 by
    have:=hN.out;unfold q1q;rw[if_neg (by omega)])
   clear hN;go_wp2;go_ret;exact⟨by rw[hz.out];rfl,rfl⟩
theorem z3v (i c j:Int) (hi:1<=i/\i<=64) (hj:0<=j) (hl:j<q0m c):q1q (q0c i c j)=i/\0<q0c i c j:=by obtain⟨a1,a2⟩:=z5f c j hj hl;unfold q0c;rw[if_pos ⟨hi.1,hi.2,hj,hl⟩];refine⟨?_,by omega⟩;unfold q1q;rw[if_pos (by omega)];omega
theorem x5r (a c:Int) (h0:0<=a) (h:∀i,1<=i->i<65-> ∀j,0<=j->j<q0m c->q0c i c j≠a):idxZ a c= -1:=by
 refine z2c a c h0 fun j hj hl=> ?_;have hs:=q5w a;by_cases h1:1<=q1q a;·exact Or.inl (h _ h1 (by omega) j hj hl)
 ·by_cases ha:a=0;·exact Or.inr ha
  ·left;unfold q0c;rw[if_neg (by omega)];omega
theorem v2z (a c:Int) (w:World) (h0:0<=a):
  Calls Tryz.prog 162 #[.int .u64 a,.int .i64 c] w fun e w'=>e= .returned (.int .i64 (idxZ a c))/\w=w':=by
 obtain⟨b1,b2⟩:=q3d c;go_enter Tryz.func162,Tryz.ntmps162;go_wp2_with fail;go_loop [5,6] (fun i _=> ∃k:Int,1<=k/\k<=65/\i= .int .i64 k/\Hid (∀i,1<=i->i<k-> ∀j,0<=j->j<q0m c->q0c i c j≠a)) (fun i _=>(65-intOf i).toNat);case atStart=>exact⟨1,by omega,by omega,rfl,fun i h h'=>by omega⟩
 case round=>
  obtain⟨k,O,h1,rfl,hN⟩:=hrel;by_cases hlt:k<=64
  ·go_wp2_with fail;go_loop [6] (fun i=> ∃m:Int,0<=m/\m<=q0m c/\i= .int .i64 m/\Hid (∀j,0<=j->j<m->q0c k c j≠a)) (fun i=>(q0m c-intOf i).toNat);case atStart=>exact⟨0,by omega,by omega,rfl,fun i h h'=>by omega⟩
   case round=>
    obtain⟨m,L,Y,rfl,hM⟩:=hrel;by_cases hlm:m<q0m c
    ·by_cases he:q0c k c m=a;·have M:(q0c k c m==a)=true:=beq_iff_eq.2 he;have I:=z3v k c m ⟨O,hlt⟩ L hlm;have hz:=hid (show idxZ a c=m from z9t a c m h0 L hlm (by rw[<- he,I.1]) (by omega));clear he hN hM I;go_wp2_with fail;refine(q6q _ _).mono ?_;rintro e w1 ⟨rfl,rfl⟩;go_wp2_with fail;refine(z1y _ _ _ _).mono ?_;rintro e w1 ⟨rfl,rfl⟩;go_wp2;go_ret;exact⟨by rw[hz.out];rfl,rfl⟩
     ·have M:(q0c k c m==a)=false:=beq_eq_false_iff_ne.2 he
      have U:Hid (∀j,0<=j->j<m+1->q0c k c j≠a):=fun j h h'=>by
       by_cases h2:j=m;·subst h2;exact he
       ·exact hM.out j h (by omega)
      clear he hM;go_wp2_with fail;refine(q6q _ _).mono ?_;rintro e w1 ⟨rfl,rfl⟩;go_wp2_with fail;refine(z1y _ _ _ _).mono ?_;rintro e w1 ⟨rfl,rfl⟩;go_wp2;go_round;case rel=>exact⟨m+1,by omega,by omega,rfl,U⟩
      case measure=>simp[intOf];omega
    ·have S:Hid (∀i,1<=i->i<k+1-> ∀j,0<=j->j<q0m c->q0c i c j≠a):=fun i h h'=>by
      by_cases h2:i=k;·subst h2;exact fun j hj hl=>hM.out j hj (by omega)
      ·exact hN.out i h (by omega)
     clear hM hN;go_wp2_with fail;refine(q6q _ _).mono ?_;rintro e w1 ⟨rfl,rfl⟩;go_wp2;go_round;case rel=>exact⟨k+1,by omega,by omega,rfl,S⟩
     case measure=>simp[intOf];omega
  ·have hz:=hid (x5r a c h0 fun i h h'=>hN.out i h (by omega));clear hN;go_wp2;go_ret;exact⟨by rw[hz.out];rfl,rfl⟩
end Go.Proofs.YtibiekfjbibpbaaGreat
namespace Go.Proofs.YtibiekfjbibpbaaGreat
open Go.RowKit
theorem z7d (n:Int):0<=q0w n/\q0w n<=64:=by unfold q0w;split<;>omega
end Go.Proofs.YtibiekfjbibpbaaGreat
