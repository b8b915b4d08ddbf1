import Derived.Test.YtibiekfjbibpbaaGreatGeoN
import Derived.BigQuiet
set_option maxHeartbeats 2000000
set_option linter.unusedVariables false
namespace Go.Proofs.YtibiekfjbibpbaaGreat
open Go.RowKit
def mayZ (sz r n:Int):Bool:=decide (0<q0w n)&& (sz==n)&&idxB r 3&&decide (q1q r<=q0w n)
theorem z0f {n:Int} (h:0<q0w n):0<=n/\n<=66560:=by unfold q0w at h;split at h<;>omega
theorem v7j (sz r n:Int) (w:World) (q1:0<=sz) (q2:sz<=18446744073709551615) (a1:0<=r) (a2:r<=18446744073709551615) (b1: -9223372036854775808<=n) (b2:n<=9223372036854775807):
  Calls Tryz.prog 202 #[.agg #[.int .u64 sz,.int .u64 r],.int .i64 n] w fun e w'=>e= .returned (.bool (mayZ sz r n))/\Below w.heap.size w w':=by
 have hB:∀v,Below (w.heap.size+1) (w.alloc (.cells #[.int .u64 sz,.int .u64 r] 187)) v->Below w.heap.size w v:=fun v h=>((Below.refl _ _).alloc (AG _) _).trans (h.mono (by omega));by_cases h1:0<q0w n
 ·have hp:=z0f h1;obtain⟨p1,p2⟩:=hp;by_cases h2:sz=n
  ·have e2:(sz==n)=true:=beq_iff_eq.2 h2;by_cases h3:idxB r 3=true
   ·by_cases h4:q1q r<=q0w n;·have hz:=hid (show mayZ sz r n=true by unfold mayZ;rw[AT h1,e2,h3,AT h4];rfl);clear h2;go_enter Tryz.func202,Tryz.ntmps202;go_wp2_with fail;refine(q8h _ _ b1 b2).mono ?_;rintro e w1 ⟨rfl,rfl⟩;go_wp2_with fail;refine(q8s _ _ _ a1 a2).mono ?_;rintro e v1 ⟨rfl,I⟩;have c0:=I.cell (p:=⟨w.heap.size,0,none⟩) (by simp);have c1:=I.cell (p:=⟨w.heap.size,1,none⟩) (by simp);go_wp2_with fail;refine(z7m _ _ a1 a2).mono ?_;rintro e w1 ⟨rfl,rfl⟩;go_wp2;go_ret;exact⟨by rw[hz.out];rfl,hB _ (by simpa using I)⟩
    ·have e4:decide (q1q r<=q0w n)=false:=AK h4;have hz:=hid (show mayZ sz r n=false by unfold mayZ;rw[e4];simp);clear h2;go_enter Tryz.func202,Tryz.ntmps202;go_wp2_with fail;refine(q8h _ _ b1 b2).mono ?_;rintro e w1 ⟨rfl,rfl⟩;go_wp2_with fail;refine(q8s _ _ _ a1 a2).mono ?_;rintro e v1 ⟨rfl,I⟩;have c0:=I.cell (p:=⟨w.heap.size,0,none⟩) (by simp);have c1:=I.cell (p:=⟨w.heap.size,1,none⟩) (by simp);go_wp2_with fail;refine(z7m _ _ a1 a2).mono ?_;rintro e w1 ⟨rfl,rfl⟩;go_wp2;go_ret;exact⟨by rw[hz.out];rfl,hB _ (by simpa using I)⟩
   ·have L:idxB r 3=false:=by simpa using h3
    have hz:=hid (show mayZ sz r n=false by unfold mayZ;rw[L];simp);clear h2 h3;go_enter Tryz.func202,Tryz.ntmps202;go_wp2_with fail;refine(q8h _ _ b1 b2).mono ?_;rintro e w1 ⟨rfl,rfl⟩;go_wp2_with fail;refine(q8s _ _ _ a1 a2).mono ?_;rintro e v1 ⟨rfl,I⟩;have c0:=I.cell (p:=⟨w.heap.size,0,none⟩) (by simp);have c1:=I.cell (p:=⟨w.heap.size,1,none⟩) (by simp);go_wp2;go_ret;exact⟨by rw[hz.out];rfl,hB _ (by simpa using I)⟩
  ·have e2:(sz==n)=false:=beq_eq_false_iff_ne.2 h2;have hz:=hid (show mayZ sz r n=false by unfold mayZ;rw[e2];simp);clear h2;go_enter Tryz.func202,Tryz.ntmps202;go_wp2_with fail;refine(q8h _ _ b1 b2).mono ?_;rintro e w1 ⟨rfl,rfl⟩;go_wp2_with fail;refine(q8s _ _ _ a1 a2).mono ?_;rintro e v1 ⟨rfl,I⟩;have c0:=I.cell (p:=⟨w.heap.size,0,none⟩) (by simp);have c1:=I.cell (p:=⟨w.heap.size,1,none⟩) (by simp);go_wp2;go_ret;exact⟨by rw[hz.out];rfl,hB _ (by simpa using I)⟩
 ·skip;have hz:=hid (show mayZ sz r n=false by unfold mayZ;rw[AK h1];simp);go_enter Tryz.func202,Tryz.ntmps202;go_wp2_with fail;refine(q8h _ _ b1 b2).mono ?_;rintro e w1 ⟨rfl,rfl⟩;go_wp2_with fail;refine(q8s _ _ _ a1 a2).mono ?_;rintro e v1 ⟨rfl,I⟩;have c0:=I.cell (p:=⟨w.heap.size,0,none⟩) (by simp);have c1:=I.cell (p:=⟨w.heap.size,1,none⟩) (by simp);go_wp2;go_ret;exact⟨by rw[hz.out];rfl,hB _ (by simpa using I)⟩
def q6e (a b c d e f g h:Int):Value:= .agg #[.int .u64 a,.int .u64 b,.int .u64 c,.int .u64 d,.int .u64 e,.int .u64 f,.int .u64 g,.int .u64 h]
def notZ (n:Int):Int:=18446744073709551615-n
theorem v7c (n:Int) (h0:0<=n) (h1:n<=18446744073709551615):bits .xor .u64 IntKind.u64.max n=notZ n:=by
 obtain⟨a,rfl⟩:=Bk h0;show IntKind.u64.wrap ((BitVec.ofInt 64 IntKind.u64.max^^^BitVec.ofInt 64 (a:Int)).toNat:Int)=_;have hm:BitVec.ofInt 64 IntKind.u64.max=BitVec.allOnes 64:=by decide
 rw[hm,BitVec.allOnes_xor,BitVec.toNat_not,ofInt_u64 a (by omega)];unfold notZ;simp[IntKind.wrap,IntKind.bits,IntKind.signed];omega
theorem v6d (sz r:Int) (w:World) (q1:0<=sz) (q2:sz<=18446744073709551615) (a1:0<=r) (a2:r<=18446744073709551615):
  Calls Tryz.prog 240 #[.agg #[.int .u64 sz,.int .u64 r]] w fun e w'=>e= .returned (q6e 5929342154728227142 sz r (notZ sz) 0 0 0 0)/\Below w.heap.size w w':=by
 have hx:=v7c sz q1 q2;go_enter Tryz.func240,Tryz.ntmps240;go_wp2;go_region;go_wp2;refine bodyPost_ret (v:=q6e 5929342154728227142 sz r (notZ sz) 0 0 0 0) ?_ rfl ?_;·simp[results,Tryz.results240,go_sem,q6e]
 ·exact⟨rfl,by repeat(first|exact Below.refl _ _|(refine Below.drew ?_)|(refine Below.alloc ?_ (by simp;try omega) _)|(refine Below.setCell ?_ (by simp;try omega) _))⟩
def q3p (a b c d e f g h:Int):Bool:=(a==5929342154728227142)&& (d==notZ b)&& (e==0)&& (f==0)&& (g==0)&& (h==0)
def at8 (a b c d e f g h:Int) (k:Nat):Int:=[a,b,c,d,e,f,g,h].getD k 0
theorem v8h (w:World) (T:TypeId) (a b c d e f g h:Int) (k:Nat) (hk:k<8):
  (w.alloc (.cells #[.int .u64 a,.int .u64 b,.int .u64 c,.int .u64 d,.int .u64 e,.int .u64 f,.int .u64 g,.int .u64 h] T)).cell? ⟨w.heap.size,k,none⟩=some (.int .u64 (at8 a b c d e f g h k)):=by
 have h8:k=0\/k=1\/k=2\/k=3\/k=4\/k=5\/k=6\/k=7:=by omega
 rcases h8 with rfl|rfl|rfl|rfl|rfl|rfl|rfl|rfl<;>simp[at8]
def ofV (a b c d e f g h:Int):Value:=if q3p a b c d e f g h=true then .tuple #[.agg #[.int .u64 b,.int .u64 c],.int .i64 0] else .tuple #[.agg #[.int .u64 0,.int .u64 0],.int .i64 6]
theorem x8m {a b c d e f g h:Int} (hh:q3p a b c d e f g h=true):ofV a b c d e f g h= .tuple #[.agg #[.int .u64 b,.int .u64 c],.int .i64 0]:=if_pos hh
theorem v4w {a b c d e f g h:Int} (hh:q3p a b c d e f g h=false):ofV a b c d e f g h= .tuple #[.agg #[.int .u64 0,.int .u64 0],.int .i64 6]:=if_neg (by rw[hh];decide)
theorem x3o {a b c d e f g h:Int} (hN:∀i,i<8->at8 a b c d e f g h i=at8 5929342154728227142 b c (notZ b) 0 0 0 0 i):q3p a b c d e f g h=true:=by have h0:=hN 0 (by omega);have h3:=hN 3 (by omega);have h4:=hN 4 (by omega);have h5:=hN 5 (by omega);have h6:=hN 6 (by omega);have h7:=hN 7 (by omega);simp[at8] at h0 h3 h4 h5 h6 h7;unfold q3p;rw[h0,h3,h4,h5,h6,h7];simp
theorem z9l {a b c d e f g h:Int} {k:Nat} (hk:k<8) (hN: ¬at8 a b c d e f g h k=at8 5929342154728227142 b c (notZ b) 0 0 0 0 k):q3p a b c d e f g h=false:=by
 cases hh:q3p a b c d e f g h with
 | false=>rfl
 | true=>exfalso;apply hN;unfold q3p at hh;simp only[Bool.and_eq_true,beq_iff_eq] at hh;obtain⟨⟨⟨⟨⟨r0,r3⟩,r4⟩,r5⟩,r6⟩,r7⟩:=hh;subst r0 r4 r5 r6 r7;rw[r3]
structure z9p (B D:Nat) (a b c d e f g h:Int) (wr:World):Prop where
 arg:∀k,k<8->wr.cell? ⟨B,k,none⟩=some (.int .u64 (at8 a b c d e f g h k))
 want:∀k,k<8->wr.cell? ⟨D,k,none⟩=some (.int .u64 (at8 5929342154728227142 b c (notZ b) 0 0 0 0 k))
 r0:wr.cell? ⟨B+1,0,none⟩=some (.int .u64 0)
 r1:wr.cell? ⟨B+1,1,none⟩=some (.int .u64 0)
 f0:wr.frozen? ⟨B+1,0,none⟩=false
 f1:wr.frozen? ⟨B+1,1,none⟩=false
 s0:wr.cell? ⟨B+1+1,0,none⟩=some (.int .u64 b)
 s1:wr.cell? ⟨B+1+1,1,none⟩=some (.int .u64 c)
theorem z9p.drew {B D:Nat} {a b c d e f g h:Int} {wr:World} (m:z9p B D a b c d e f g h wr):z9p B D a b c d e f g h wr.drew:=⟨m.arg,m.want,m.r0,m.r1,m.f0,m.f1,m.s0,m.s1⟩
theorem z9p.start (w v1:World) (T U V:TypeId) (a b c d e f g h:Int)
  (I:Below (((w.alloc (.cells #[.int .u64 a,.int .u64 b,.int .u64 c,.int .u64 d,.int .u64 e,.int .u64 f,.int .u64 g,.int .u64 h] T)).alloc (.cells #[.int .u64 0,.int .u64 0] U)).alloc (.cells #[.int .u64 b,.int .u64 c] U)).heap.size
   (((w.alloc (.cells #[.int .u64 a,.int .u64 b,.int .u64 c,.int .u64 d,.int .u64 e,.int .u64 f,.int .u64 g,.int .u64 h] T)).alloc (.cells #[.int .u64 0,.int .u64 0] U)).alloc (.cells #[.int .u64 b,.int .u64 c] U)) v1):
  z9p w.heap.size v1.heap.size a b c d e f g h (v1.alloc (.cells #[.int .u64 5929342154728227142,.int .u64 b,.int .u64 c,.int .u64 (notZ b),.int .u64 0,.int .u64 0,.int .u64 0,.int .u64 0] T)):=by
 have hz:=I.size;simp at hz;refine⟨fun k hk=> ?_,fun k hk=>v8h v1 T _ _ _ _ _ _ _ _ k hk,?_,?_,?_,?_,?_,?_⟩;·rw[World.cell?_alloc_old _ _ _ (show w.heap.size≠v1.heap.size by omega),I.cell (by first|omega|simp<;>omega),World.cell?_alloc_old _ _ _ (by simp;omega),World.cell?_alloc_old _ _ _ (by simp),v8h w T a b c d e f g h k hk]
 ·rw[World.cell?_alloc_old _ _ _ (show w.heap.size+1≠v1.heap.size by omega),I.cell (by first|omega|simp<;>omega)];go_simp
 ·rw[World.cell?_alloc_old _ _ _ (show w.heap.size+1≠v1.heap.size by omega),I.cell (by first|omega|simp<;>omega)];go_simp
 ·rw[World.frozen?_alloc_old _ _ _ (show w.heap.size+1≠v1.heap.size by omega),I.frozen (by first|omega|simp<;>omega)];go_simp
 ·rw[World.frozen?_alloc_old _ _ _ (show w.heap.size+1≠v1.heap.size by omega),I.frozen (by first|omega|simp<;>omega)];go_simp
 ·rw[World.cell?_alloc_old _ _ _ (show w.heap.size+1+1≠v1.heap.size by omega),I.cell (by first|omega|simp<;>omega)];go_simp
 ·rw[World.cell?_alloc_old _ _ _ (show w.heap.size+1+1≠v1.heap.size by omega),I.cell (by first|omega|simp<;>omega)];go_simp
theorem Of_z (a b c d e f g h:Int) (w:World) (b1:0<=b) (b2:b<=18446744073709551615) (c1:0<=c) (c2:c<=18446744073709551615):
  Calls Tryz.prog 201 #[q6e a b c d e f g h] w fun en w'=>en= .returned (ofV a b c d e f g h)/\Below w.heap.size w w':=by
 unfold q6e;go_enter Tryz.func201,Tryz.ntmps201;go_wp2_with fail;refine(v6d _ _ _ b1 b2 c1 c2).mono ?_;rintro e v1 ⟨rfl,I⟩;unfold q6e;have hM:=hid (z9p.start w v1 _ _ 0 a b c d e f g h I);have hB:Below w.heap.size w v1:=by(repeat(first|exact Below.refl _ _|(refine ba ?_ _)|(refine Below.drew ?_)|(refine below_drewN ?_ _)|(refine Below.alloc ?_ (by first|omega|simp<;>omega) _)|(refine Below.setCell ?_ (by first|omega|simp<;>omega) _)|(refine bx ?_ (by assumption))|(refine Below.trans ?_ (Below.mono (by assumption) (by first|omega|simp<;>omega)))))
 have x1:=I.cell (p:=⟨w.heap.size+1,0,none⟩) (by first|omega|simp<;>omega);go_wp2_with fail;go_loopw [6,14] (fun _ i wr=> ∃k:Nat,k<=8/\i= .int .i64 k/\Below w.heap.size w wr/\z9p w.heap.size v1.heap.size a b c d e f g h wr/\Hid (∀i,i<k->at8 a b c d e f g h i=at8 5929342154728227142 b c (notZ b) 0 0 0 0 i)) (fun _ i _=>(8-intOf i).toNat);case atStart=>exact⟨0,by omega,rfl,hB.alloc hB.size _,hM.out,fun i hi=>by omega⟩
 case round=>
  clear I hM hB x1;obtain⟨k,hk,rfl,hB,hM,hN⟩:=hrel;by_cases hlt:k<8
  ·have g1:=hM.arg k hlt;have g2:=hM.want k hlt;by_cases he:at8 a b c d e f g h k=at8 5929342154728227142 b c (notZ b) 0 0 0 0 k
   ·have e1:(at8 a b c d e f g h k !=at8 5929342154728227142 b c (notZ b) 0 0 0 0 k)=false:=by simp[he]
    have L:Hid (∀i,i<k+1->at8 a b c d e f g h i=at8 5929342154728227142 b c (notZ b) 0 0 0 0 i):=fun i hi=>by
     by_cases h2:i=k;·subst h2;exact he
     ·exact hN.out i (by omega)
    clear he hN;go_wp2;go_region;go_wp2;go_roundw;case rel=>exact⟨k+1,by omega,by go_num,hB.drew,hM.drew,L⟩
    case measure=>simp[intOf];omega
   ·have e1:(at8 a b c d e f g h k !=at8 5929342154728227142 b c (notZ b) 0 0 0 0 k)=true:=by simp[he]
    have hz:=hid (v4w (z9l hlt he));obtain⟨-,-,r0,r1,f0,f1,-,-⟩:=hM;clear he hN;go_wp2;go_region;go_wp2;refine bodyPost_ret (v:= .tuple #[.agg #[.int .u64 0,.int .u64 0],.int .i64 6]) ?_ rfl ?_;·simp[results,Tryz.results201,go_sem,r0,r1]
    ·exact⟨by rw[hz.out],by(repeat(first|exact Below.refl _ _|(refine ba ?_ _)|(refine Below.drew ?_)|(refine below_drewN ?_ _)|(refine Below.alloc ?_ (by first|omega|simp<;>omega) _)|(refine Below.setCell ?_ (by first|omega|simp<;>omega) _)|(refine bx ?_ (by assumption))|(refine Below.trans ?_ (Below.mono (by assumption) (by first|omega|simp<;>omega)))))⟩
  ·have hz:=hid (x8m (x3o fun i hi=>hN.out i (by omega)));obtain⟨-,-,r0,r1,f0,f1,s0,s1⟩:=hM;clear hN;go_wp2;refine bodyPost_ret (v:= .tuple #[.agg #[.int .u64 b,.int .u64 c],.int .i64 0]) ?_ rfl ?_;·simp[results,Tryz.results201,go_sem,r0,r1]
   ·exact⟨by rw[hz.out],by(repeat(first|exact Below.refl _ _|(refine ba ?_ _)|(refine Below.drew ?_)|(refine below_drewN ?_ _)|(refine Below.alloc ?_ (by first|omega|simp<;>omega) _)|(refine Below.setCell ?_ (by first|omega|simp<;>omega) _)|(refine bx ?_ (by assumption))|(refine Below.trans ?_ (Below.mono (by assumption) (by first|omega|simp<;>omega)))))⟩
end Go.Proofs.YtibiekfjbibpbaaGreat
