import Derived.Test.YtibiekfjbibpbaaGreatPmU
import Derived.Deep.RegionHeld3
set_option maxHeartbeats 800000
set_option linter.unusedVariables false
namespace Go.Proofs.YtibiekfjbibpbaaGreat
open Go.RowKit
def idxZ (a c:Int):Int:=if 1<=q1q a/\1<=c/\c<=3/\0<=a % 1024-64/\(a % 1024-64)% (64*c)=0/\(a % 1024-64)/ (64*c)<q0m c then(a % 1024-64)/ (64*c) else-1
def idxI (a c:Int):Int:=if idxZ a c= -1 then 0 else idxZ a c
def idxB (a c:Int):Bool:= !(idxZ a c== -1)
theorem x4a {a c j:Int} (h0:0<=j) (h:idxZ a c=j):idxI a c=j/\idxB a c=true:=by unfold idxI idxB;rw[h,if_neg (by omega)];exact⟨rfl,by rw[beq_eq_false_iff_ne.2 (show j≠ -1 by omega)];rfl⟩
theorem v4x {a c:Int} (h:idxZ a c= -1):idxI a c=0/\idxB a c=false:=by unfold idxI idxB;rw[h];exact⟨rfl,rfl⟩
theorem x6m (a c:Int): -1<=idxZ a c/\(0<=q0m c->idxZ a c<q0m c\/idxZ a c= -1):=by
 unfold idxZ;split;·rename_i h;have:0<=(a % 1024-64)/ (64*c):=Ci h.2.2.2.1 (by omega);omega
 ·omega
theorem z9t (a c j:Int) (h0:0<=a) (hj:0<=j) (hl:j<q0m c) (h:q0c (q1q a) c j=a) (hp:0<a):idxZ a c=j:=by
 have hs:=q5w a;have hc:c=1\/c=2\/c=3\/q0m c=0:=by unfold q0m;split<;>(try split)<;>(try split)<;>omega
 have I:1<=q1q a:=by unfold q0c at h;split at h<;>omega
 have hq:q1q a=a/1024:=by unfold q1q at I ⊢;split at I<;>(try split)<;>omega
 unfold q0c at h;rw[if_pos ⟨I,hs.2,hj,hl⟩] at h;unfold idxZ;rcases hc with rfl|rfl|rfl|hc;·simp[q0m,q0e] at hl h ⊢;rw[if_pos (by omega)];omega
 ·simp[q0m,q0e] at hl h ⊢;rw[if_pos (by omega)];omega
 ·simp[q0m,q0e] at hl h ⊢;rw[if_pos (by omega)];omega
 ·omega
theorem z2c (a c:Int) (h0:0<=a) (h:∀j,0<=j->j<q0m c->q0c (q1q a) c j≠a\/a=0):idxZ a c= -1:=by
 unfold idxZ;split
 ·rename_i hh;exfalso;obtain⟨h1,h2,h3,h4,h5,h6⟩:=hh;have hs:=q5w a;have hq:q1q a=a/1024:=by unfold q1q at h1 ⊢;split at h1<;>(try split)<;>omega
  have hk:=h ((a % 1024-64)/ (64*c)) (Ci h4 (by omega)) h6;have hc:c=1\/c=2\/c=3:=by omega
  unfold q0c at hk;rw[if_pos ⟨h1,hs.2,Ci h4 (by omega),h6⟩] at hk;rcases hc with rfl|rfl|rfl;·simp[q0e] at hk h5;omega
  ·simp[q0e] at hk h5;omega
  ·simp[q0e] at hk h5;omega
 ·rfl
theorem q8s (a c:Int) (w:World) (h0:0<=a) (h1:a<=18446744073709551615):
  Calls Tryz.prog 87 #[.int .u64 a,.int .i64 c] w fun e w'=>e= .returned (.tuple #[.int .i64 (idxI a c),.bool (idxB a c)])/\Below w.heap.size w w':=by
 obtain⟨b1,b2⟩:=q3d c;go_enter Tryz.func87,Tryz.ntmps87;go_wp2_with fail;refine(q7n _ _).mono ?_;rintro e w1 ⟨rfl,O⟩;go_wp2_with fail;go_loopw [6,7,10] (fun _ _ i wr=> ∃k:Nat,(k:Int)<=q0m c/\i= .int .i64 k/\Below w.heap.size w wr/\Hid (∀j,0<=j->j< (k:Int)->q0c (q1q a) c j≠a\/a=0)) (fun _ _ i _=>(q0m c-intOf i).toNat);case atStart=>exact⟨0,by omega,rfl,O,fun j h h'=>by omega⟩
 case round=>
  obtain⟨k,hk,rfl,hb,hN⟩:=hrel;clear O;by_cases hlt:(k:Int)<q0m c
  ·go_wp2_with fail;refine(z7m _ _ h0 h1).mono ?_;rintro e w2 ⟨rfl,rfl⟩;go_wp2_with fail;refine(x7g _ _ _ _).mono ?_;rintro e w2 ⟨rfl,M⟩;have I:=hb.trans (M.mono hb.size);clear M;by_cases he:q0c (q1q a) c k=a
   ·have S:(q0c (q1q a) c k==a)=true:=beq_iff_eq.2 he;by_cases hp:0<a
    ·have Y:0<q0c (q1q a) c k:=by omega
     have hz:=hid (x4a (by omega) (z9t a c k h0 (by omega) hlt he hp));clear he hN;go_wp2;go_ret2;exact⟨by rw[hz.out.1,hz.out.2];rfl,I⟩
    ·have Y: ¬0<q0c (q1q a) c k:=by omega
     have L:Hid (∀j,0<=j->j< ((k+1:Nat):Int)->q0c (q1q a) c j≠a\/a=0):=fun j hj U=>Or.inr (by omega);clear he hN;go_wp2;go_roundw;case rel=>exact⟨k+1,by omega,by go_num,I,L⟩
     case measure=>simp[intOf];omega
   ·have S:(q0c (q1q a) c k==a)=false:=beq_eq_false_iff_ne.2 he
    have L:Hid (∀j,0<=j->j< ((k+1:Nat):Int)->q0c (q1q a) c j≠a\/a=0):=fun j hj U=>by
     by_cases h:j=k;·subst h;exact Or.inl he
     ·exact hN.out j hj (by omega)
    clear he hN;go_wp2;go_roundw;case rel=>exact⟨k+1,by omega,by go_num,I,L⟩
    case measure=>simp[intOf];omega
  ·have hz:=hid (v4x (z2c a c h0 (fun j h h'=>hN.out j h (by omega))));clear hN;go_wp2;go_ret2;exact⟨by rw[hz.out.1,hz.out.2];rfl,hb⟩
def leB (a b:Int):Bool:=decide (a<=b)
theorem q9w (c n:Int) (p:Addr) (w:World) (hp:p.block<w.heap.size) (hc:w.cell? p=some (.int .i64 n)):
  Calls Tryz.prog 268 #[.int .i64 c,.pointer (some p)] w fun e w'=>e= .returned (.bool (leB n (q0e c-8)))/\Below w.heap.size w w':=by
 obtain⟨b1,b2⟩:=z8h c;have hw:IntKind.i64.wrap (q0e c-8)=q0e c-8:=IntWalk.i64_in _ (by omega);go_enter Tryz.func268,Tryz.ntmps268;go_wp2;go_region_with (go_at_call 90;refine(z9s _ _).mono ?_;rintro e w1 ⟨rfl,hb⟩;have I:=(hb.cell hp).trans hc);all_goals go_wp2
 all_goals go_ret
 all_goals exact⟨rfl,((Below.refl _ _).drew).trans (by assumption)⟩
def q7j (n:Int):Int:=if n<=56 then 0 else if n<=120 then 1 else-1
theorem z6y (n:Int) (b:Nat) (p:Addr) (w:World) (hb:b<w.heap.size) (hp:p.block<w.heap.size) (hc:w.cell? p=some (.int .i64 n))
  (h3:w.cell? ⟨b,0,none⟩=some (.int .i64 1)) (h5:w.cell? ⟨b,1,none⟩=some (.int .i64 2)):
  Calls Tryz.prog 269 #[.slice (some ⟨b,0,none⟩) 2 2,.func (.func 268) #[] #[.pointer (some p)]] w
   fun e w'=>e= .returned (.int .i64 (q7j n))/\Below w.heap.size w w':=by
 have e1:q0e 1-8=56:=rfl;have e2:q0e 2-8=112+8:=rfl;go_enter Tryz.func269,Tryz.ntmps269;go_wp2_with fail;go_loopw [5,8] (fun _ i wr=> ∃k:Nat,k<=2/\i= .int .i64 k/\Below w.heap.size w wr/\(1<=k->56<n)/\(2<=k->120<n)) (fun _ i _=>(2-intOf i).toNat);case atStart=>exact⟨0,by omega,rfl,Below.refl _ _,fun h=>by omega,fun h=>by omega⟩
 case round=>
  obtain⟨k,hk,rfl,hbel,M,I⟩:=hrel;have O:=(hbel.cell hp).trans hc;have h4:=(hbel.cell (p:=⟨b,0,none⟩) hb).trans h3;have h2:=(hbel.cell (p:=⟨b,1,none⟩) hb).trans h5;have S:p.block<wr.heap.size:=AL hp hbel.size;have h1:k=0\/k=1\/k=2:=by omega
  rcases h1 with rfl|rfl|rfl
  ·clear M I;by_cases hn:n<=56
   ·have hl:leB n (q0e 1-8)=true:=by rw[e1];exact AT hn
    have hz:=hid (show q7j n=0 from if_pos hn);clear e1 e2;go_wp2_with fail;refine(q9w 1 n p wr S O).mono ?_;rintro e w2 ⟨rfl,L⟩;go_wp2;go_ret;exact⟨by rw[hz.out];rfl,hbel.trans (L.mono hbel.size)⟩
   ·have hl:leB n (q0e 1-8)=false:=by rw[e1];exact AK hn
    clear e1 e2;go_wp2_with fail;refine(q9w 1 n p wr S O).mono ?_;rintro e w2 ⟨rfl,L⟩;go_wp2;go_roundw;case rel=>exact⟨1,by omega,by go_num,hbel.trans (L.mono hbel.size),fun _=>by omega,fun h=>by omega⟩
    case measure=>simp[intOf]
  ·have U:=M (by omega);clear M I;by_cases hn:n<=120
   ·have hl:leB n (q0e 2-8)=true:=by rw[e2];exact AT hn
    have hz:=hid (show q7j n=1 by unfold q7j;rw[if_neg (by omega),if_pos hn]);clear e1 e2;go_wp2_with fail;refine(q9w 2 n p wr S O).mono ?_;rintro e w2 ⟨rfl,L⟩;go_wp2;go_ret;exact⟨by rw[hz.out];rfl,hbel.trans (L.mono hbel.size)⟩
   ·have hl:leB n (q0e 2-8)=false:=by rw[e2];exact AK hn
    clear e1 e2;go_wp2_with fail;refine(q9w 2 n p wr S O).mono ?_;rintro e w2 ⟨rfl,L⟩;go_wp2;go_roundw;case rel=>exact⟨2,by omega,by go_num,hbel.trans (L.mono hbel.size),fun _=>by omega,fun h=>by omega⟩
    case measure=>simp[intOf]
  ·have U:=M (by omega);have Y:=I (by omega);have hz:=hid (show q7j n= -1 by unfold q7j;rw[if_neg (by omega),if_neg (by omega)]);clear M I e1 e2;go_wp2;go_ret;exact⟨by rw[hz.out];rfl,hbel⟩
def q2o (n:Int):Int:=if n<0 then 0 else 1+q7j n
theorem v6s (n:Int) (w:World) (L: -9223372036854775808<=n) (S:n<=9223372036854775807):
  Calls Tryz.prog 246 #[.int .i64 n] w fun e w'=>e= .returned (.int .i64 (q2o n))/\Below w.heap.size w w':=by
 by_cases h0:n<0;·have hz:Hid (q2o n=0):=if_pos h0;go_enter Tryz.func246,Tryz.ntmps246;go_wp2;go_ret;exact⟨by rw[hz.out];rfl,(Below.refl _ _).alloc (AG _) _⟩
 ·have hz:Hid (q2o n=1+q7j n):=if_neg h0;have hf: -1<=q7j n/\q7j n<=1:=by unfold q7j;split<;>(try split)<;>omega
  obtain⟨O,M⟩:=hf;go_enter Tryz.func246,Tryz.ntmps246;go_wp2_with fail;refine(z6y n (w.heap.size+1) ⟨w.heap.size,0,none⟩ _ ?_ ?_ ?_ ?_ ?_).mono ?_;·simp
  ·simp;omega
  ·go_simp
  ·go_simp
  ·go_simp
  rintro e w2 ⟨rfl,I⟩;go_wp2;go_ret;exact⟨by rw[hz.out];rfl,(((Below.refl _ _).alloc (AG _) _).alloc (by simp) _).trans (I.mono (by simp;omega))⟩
end Go.Proofs.YtibiekfjbibpbaaGreat
namespace Go.Proofs.YtibiekfjbibpbaaGreat
open Go.RowKit
end Go.Proofs.YtibiekfjbibpbaaGreat
