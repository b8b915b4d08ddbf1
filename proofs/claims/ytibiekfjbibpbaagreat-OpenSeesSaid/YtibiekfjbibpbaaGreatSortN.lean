import Derived.Test.YtibiekfjbibpbaaGreatSortM
import Derived.Lib.ItoaNum
import Derived.Lib.Strings
import Derived.Lib.Slices
import Derived.Lib.Small
import Derived.Lib.Walk
import Derived.Sort.LotD5
import Derived.Sort.Row
set_option maxRecDepth 1000000
set_option maxHeartbeats 8000000
set_option linter.unusedVariables false
set_option linter.unusedSimpArgs false
namespace Go.Proofs.YtibiekfjbibpbaaGreat
open Go.RowKit
section
open Go.Sort (swp ltInt scanSorted shiftDown shiftUp fixDown fixUp partialIns partialInsertionSort)
theorem x7j (d:Array Int) (b t q:Nat) (hq:t=q+1) (h:t<b) (hp:ltInt d[t]! d[q]! =false):scanSorted ltInt d b t=scanSorted ltInt d b (t+1):=by subst hq;rw[scanSorted,if_pos (by simp[h,hp])]
theorem z2g (d:Array Int) (b t q:Nat) (hq:t=q+1) (h:t<b->ltInt d[t]! d[q]! =true):scanSorted ltInt d b t=t:=by subst hq;rw[scanSorted,if_neg];intro hc;simp at hc;rw[h hc.1] at hc;simp at hc
theorem v0x (d:Array Int) (j:Nat) (h:ltInt d[j+1]! d[j]! =true):shiftDown ltInt (j+1) d=shiftDown ltInt j (swp d (j+1) j):=by rw[shiftDown,if_neg (by simp[h])]
theorem x4e (d:Array Int) (j:Nat) (h:ltInt d[j+1]! d[j]! =false):shiftDown ltInt (j+1) d=d:=by rw[shiftDown,if_pos (by simp[h])]
theorem v8c (d:Array Int) (b j:Nat) (hb:j+1<b) (h:ltInt d[j+1]! d[j]! =true):shiftUp ltInt b (j+1) d=shiftUp ltInt b (j+2) (swp d (j+1) j):=by rw[shiftUp,if_pos hb,if_neg (by simp[h])];rfl
theorem x2q (d:Array Int) (b j:Nat) (h:j+1<b->ltInt d[j+1]! d[j]! =false):shiftUp ltInt b (j+1) d=d:=by
 rw[shiftUp];by_cases hb:j+1<b;·rw[if_pos hb,if_pos (by simp[h hb])]
 ·rw[if_neg hb]
theorem x8l (d:Array Int) (b:Nat):∀(m i:Nat),b-i=m->i<=b->i<=scanSorted ltInt d b i/\scanSorted ltInt d b i<=b:=by
 intro m
 induction m with
 | zero=>intro i hm hi;rw[scanSorted,if_neg (by simp;omega)];exact⟨AG _,hi⟩
 | succ m ih=>
  intro i hm hi;rw[scanSorted];split;·have:=ih (i+1) (by omega) (by omega);omega
  ·exact⟨AG _,hi⟩
theorem x6j (g n cap:Nat) (d:Array Int) (tl:List Value) (a b:Nat) (k0:a<b) (hb:b<=n) (hn:n<=1000000000) (w:World) (h:RowS w g n d tl):
  Calls Tryz.prog 227 #[.slice (some ⟨g,0,none⟩) n cap,.int .i64 (a:Int),.int .i64 (b:Int)] w fun e w'=>e= .returned (.bool (partialInsertionSort ltInt d a b).2)/\RowS w' g n (partialInsertionSort ltInt d a b).1 tl/\Only [g] w w':=by
 have a9:(a:Int)<=1000000000:=by omega
 have b9:(b:Int)<=1000000000:=by omega
 have H:=hid h;have AB:=hid k0;have BN:=hid hb;have HN:=hid hn;clear h k0 hb hn;go_enter Tryz.func227,Tryz.ntmps227;go_wp2
 go_loopw [7,8] (fun vi vj wr=> ∃(i s:Nat) (dk:Array Int),vi= .int .i64 i/\vj= .int .i64 ((5-s:Nat):Int)/\Hid (a<i/\i<=b/\s<=5)/\Hid (RowS wr g n dk tl)/\Hid (Only [g] w wr)/\
   Hid (partialIns ltInt a b s i dk=partialInsertionSort ltInt d a b)) (fun vi vj _=>5- (intOf vj).toNat)
 case atStart=>exact⟨a+1,5,d,by go_num,rfl,(by have:=AB.out;omega:a<a+1/\a+1<=b/\5<=5),H,Only.refl _ _,rfl⟩
 case round=>
  obtain⟨i,s,dk,rfl,rfl,h9,hR,hO,hI⟩:=hrel;have k9:=HN.out;cases s with
  | zero=>have e:Hid ((dk,false)=partialInsertionSort ltInt d a b):=hI;go_wp2;go_ret;rw[<- e.out];exact⟨rfl,hR.out,hO.out⟩
  | succ s=>
   obtain⟨z,hz⟩:∃z,z=5- (s+1):=⟨_,rfl⟩;rw[<- hz];have z9:(z:Int)<5:=by omega
   have z0:(0:Int)<=(z:Int):=by omega
   have HZ:=hid hz;clear hz;go_upto_block 2 with fail;go_cut [7] (fun s9 wc=> ∃i2:Nat,s9= .int .i64 i2/\Hid (i2=scanSorted ltInt dk b i)/\Hid (RowS wc g n dk tl)/\Hid (Only [g] w wc))
   case first=>
    go_wp2_with fail;go_loopw [7] (fun vi wx=> ∃(t:Nat),vi= .int .i64 t/\Hid (i<=t/\t<=b)/\Hid (RowS wx g n dk tl)/\Hid (Only [g] w wx)/\Hid (scanSorted ltInt dk b t=scanSorted ltInt dk b i)) (fun vi _=>b- (intOf vi).toNat);case atStart=>exact⟨i,rfl,(⟨AG _,h9.out.2.1⟩:i<=i/\i<=b),hR,hO,rfl⟩
    case round=>
     obtain⟨t,rfl,ht,he,hj,hT⟩:=hrel;obtain⟨q,hq⟩:∃q,t=q+1:=⟨t-1,by have:=ht.out.1;have:=h9.out.1;omega⟩;have e1:(t:Int)-1=(q:Int):=by omega
     have t9:(t:Int)<=1000000000:=by have:=ht.out.2;omega
     have t0:(0:Int)<=(t:Int):=by omega
     have q0:(0:Int)<=(q:Int):=by omega
     have wq:=q2s (q:=q) (by omega);have HQ:=hid hq;by_cases htj:t<b
     ·have d1:decide ((t:Int)< (b:Int))=true:=by simp;omega
      have d2:(t:Int)< (b:Int):=by omega
      have bt:t<n:=by have:=BN.out;omega
      have tn:(t:Int)< (n:Int):=by omega
      have qn:(q:Int)< (n:Int):=by omega
      obtain⟨x0,I⟩:∃x,x=dk[t]! :=⟨_,rfl⟩;obtain⟨xq,M⟩:∃x,x=dk[q]! :=⟨_,rfl⟩;have c0:wr.cell? ⟨g,t,none⟩=some (.int .u64 x0):=by rw[I];exact he.out.cell bt
      have cq:wr.cell? ⟨g,q,none⟩=some (.int .u64 xq):=by rw[M];exact he.out.cell (by omega)
      have L:=hid I;have O:=hid M;have hh:=hid htj;clear I M htj bt hq;go_wp2_with fail;go_quiet (first|(go_at_call 228;exact Calls.quiet_of_same (q2n _ _ _)));go_wp2
      ·have hl:ltInt x0 xq=false:=x3f (by assumption);go_roundw;case rel=>refine⟨t+1,by go_num,(by have:=ht.out;have:=hh.out;omega:i<=t+1/\t+1<=b),he.out.drewN _,hj.out.drewN _,?_⟩;show scanSorted ltInt dk b (t+1)=_;rw[<- hT.out,<- x7j dk b t q HQ.out hh.out (by rw[<- L.out,<- O.out];exact hl)]
       case measure=>first|(simp[intOf];done)|(simp[intOf];omega)
      ·have hl:ltInt x0 xq=true:=x3u (by assumption);go_meet;case rel=>refine⟨t,rfl,?_,he.out.drewN _,hj.out.drewN _⟩;show t=_;rw[<- hT.out,z2g dk b t q HQ.out (fun _=>by rw[<- L.out,<- O.out];exact hl)]
     ·have d1:decide ((t:Int)< (b:Int))=false:=by simp;omega
      have d2:decide (t<b)=false:=by simp;omega
      have hh:=hid htj;clear htj hq;go_wp2_with fail;go_quiet (first|(go_at_call 228;exact Calls.quiet_of_same (q2n _ _ _)));go_wp2;go_meet;case rel=>refine⟨t,rfl,?_,he.out.drewN _,hj.out.drewN _⟩;show t=_;rw[<- hT.out,z2g dk b t q HQ.out (fun h=>absurd h hh.out)]
   case rest=>
    obtain⟨i2,rfl,k1,h5,hi⟩:=hcut;have hm:Hid (i<=i2/\i2<=b):=by have:=x8l dk b _ i rfl h9.out.2.1;rw[<- k1.out] at this;exact this
    have ha:=hid (Go.Sort.partialIns_succ (lt:=ltInt) a b s i dk);rw[<- k1.out] at ha;by_cases hend:i2=b
    ·have d1:((i2:Int)==(b:Int))=true:=by simp[hend]
     have e:=ha.out;rw[if_pos hend,hI.out] at e;have E:=hid e;clear e hend;go_wp2;go_ret;rw[E.out];exact⟨rfl,h5.out,hi.out⟩
    ·have d1:((i2:Int)==(b:Int))=false:=by simp;omega
     have k4:=hid hend;by_cases h50:b-a<50
     ·have d2:(b:Int)- (a:Int)<50:=by have:=AB.out;omega
      have e:=ha.out;rw[if_neg hend,if_pos h50,hI.out] at e;have E:=hid e;clear e hend h50;go_wp2;go_ret;rw[E.out];exact⟨rfl,h5.out,hi.out⟩
     ·have d2: ¬(b:Int)- (a:Int)<50:=by have:=AB.out;omega
      have e:=ha.out;rw[if_neg hend,if_neg h50,hI.out] at e;have E:=hid e;obtain⟨q,hq⟩:∃q,i2=q+1:=⟨i2-1,by have:=hm.out.1;have:=h9.out.1;omega⟩;have e1:(i2:Int)-1=(q:Int):=by omega
      have bi:i2<n:=by have:=hm.out.2;have:=BN.out;omega
      have bq:q<n:=by omega
      have kb:(0:Int)<=(i2:Int):=by omega
      have kc:(i2:Int)<=1000000000:=by omega
      have k8:(i2:Int)< (n:Int):=by omega
      have q0:(0:Int)<=(q:Int):=by omega
      have qn:(q:Int)< (n:Int):=by omega
      have wq:=q2s (q:=q) (by omega);have HQ:=hid hq;obtain⟨x0,I⟩:∃x,x=dk[i2]! :=⟨_,rfl⟩;obtain⟨xq,M⟩:∃x,x=dk[q]! :=⟨_,rfl⟩;have c0:wc.cell? ⟨g,i2,none⟩=some (.int .u64 x0):=by rw[I];exact h5.out.cell bi
      have cq:wc.cell? ⟨g,q,none⟩=some (.int .u64 xq):=by rw[M];exact h5.out.cell bq
      have f0:=h5.out.frozen i2;have fq:=h5.out.frozen q;obtain⟨yq,hp⟩:∃y,(wc.setCell ⟨g,i2,none⟩ (.int .u64 xq)).cell? ⟨g,q,none⟩=some (.int .u64 y):=⟨_,(h5.out.set_ xq bi).cell bq⟩;have hy:=(h5.out.set_ xq bi).frozen q;have L:=hid I;have O:=hid M;have BI:=hid bi;have BQ:=hid bq;have hk:=hid (show a<i2/\i2<b by have:=hm.out;have:=h9.out;omega);clear I M bi bq hq e hend h50 ha hI hR hO;go_upto_region 11 with fail;go_region;obtain⟨Y,h8⟩:∃D,D=swp dk i2 q:=⟨_,rfl⟩;have R3:=hid (RowS.swpV h5.out.drew BI.out BQ.out L.out O.out);have O3:=hid (hi.out.drew.trans (q2q _ g i2 q (Value.int .u64 xq) (Value.int .u64 x0)) (fun x hx=>Or.inl hx));rw[<- h8] at R3;have E2:Hid (partialIns ltInt a b s i2 (fixUp ltInt b i2 (fixDown ltInt a i2 Y))=partialInsertionSort ltInt d a b):=by show partialIns ltInt a b s i2 (fixUp ltInt b i2 (fixDown ltInt a i2 Y))=_;rw[E.out,h8,show i2-1=q by have:=HQ.out;omega]
      clear h8 E h5 hi c0 cq f0 fq hp hy L O;go_upto_if 61 with fail;go_cut [] (fun wc=>Hid (RowS wc g n (fixDown ltInt a i2 Y) tl)/\Hid (Only [g] w wc))
      case first=>
       by_cases h2:i2-a≥2
       ·have d3:(i2:Int)- (a:Int)≥2:=by omega
        have ef:Hid (fixDown ltInt a i2 Y=shiftDown ltInt q Y):=by show fixDown ltInt a i2 Y=_;unfold fixDown;rw[if_pos h2,show i2-1=q by have:=HQ.out;omega]
        clear h2;go_wp2;go_loopw [9] (fun vj wx=> ∃(t:Nat) (dt:Array Int),vj= .int .i64 t/\Hid (t<=q)/\Hid (RowS wx g n dt tl)/\Hid (Only [g] w wx)/\Hid (shiftDown ltInt t dt=shiftDown ltInt q Y)) (fun vj _=>(intOf vj).toNat);case atStart=>exact⟨q,Y,rfl,AG _,R3,O3,rfl⟩
        case round=>
         obtain⟨t,dt,rfl,ht,U,h6,hT⟩:=hrel;by_cases ht0:t=0;·subst ht0;have k5:Hid (dt=shiftDown ltInt q Y):=hT;go_wp2;go_meet;case rel=>refine⟨?_,h6⟩;rw[ef.out,<- k5.out];exact U
         ·obtain⟨r,hr⟩:∃r,t=r+1:=⟨t-1,by omega⟩;have e2:(t:Int)-1=(r:Int):=by omega
          have bt:t<n:=by have:=ht.out;have:=BQ.out;omega
          have br:r<n:=by omega
          have t1:(1:Int)<=(t:Int):=by omega
          have k7:(t:Int)≥1:=by omega
          have t9:(t:Int)<=1000000000:=by omega
          have tn:(t:Int)< (n:Int):=by omega
          have r0:(0:Int)<=(r:Int):=by omega
          have rn:(r:Int)< (n:Int):=by omega
          have k3:=q2s (q:=r) (by omega);obtain⟨x0,I⟩:∃x,x=dt[t]! :=⟨_,rfl⟩;obtain⟨xq,M⟩:∃x,x=dt[r]! :=⟨_,rfl⟩;have c0:wr.cell? ⟨g,t,none⟩=some (.int .u64 x0):=by rw[I];exact U.out.cell bt
          have cq:wr.cell? ⟨g,r,none⟩=some (.int .u64 xq):=by rw[M];exact U.out.cell br
          have L:=hid I;have O:=hid M;have BT:=hid bt;have BR:=hid br;have S:=hid hr;clear I M bt br hr ht0;go_wp2_with fail;go_quiet (first|(go_at_call 228;exact Calls.quiet_of_same (q2n _ _ _)));go_wp2_with fail;·have hl:ltInt x0 xq=false:=x3f (by assumption);go_meet;case rel=>refine⟨?_,h6.out.drewN _⟩;rw[ef.out,<- hT.out,S.out,x4e dt r (by rw[<- O.out];have:=L.out;rw[S.out] at this;rw[<- this];exact hl)];exact U.out.drewN _
          ·have hl:ltInt x0 xq=true:=x3u (by assumption);have HL:=hid hl;clear hl;revert nq;intro h3;have R5:Hid (RowS (wr.drewN h3) g n dt tl):=U.out.drewN h3;have O5:Hid (Only [g] w (wr.drewN h3)):=h6.out.drewN h3;clear c0 cq U h6;generalize wr.drewN h3=wr2 at R5 O5 ⊢;have c0:wr2.cell? ⟨g,t,none⟩=some (.int .u64 x0):=by rw[L.out];exact R5.out.cell BT.out
           have cq:wr2.cell? ⟨g,r,none⟩=some (.int .u64 xq):=by rw[O.out];exact R5.out.cell BR.out
           have f0:=R5.out.frozen t;have fq:=R5.out.frozen r;obtain⟨yq,hp⟩:∃y,(wr2.setCell ⟨g,t,none⟩ (.int .u64 xq)).cell? ⟨g,r,none⟩=some (.int .u64 y):=⟨_,(R5.out.set_ xq BT.out).cell BR.out⟩;have hy:=(R5.out.set_ xq BT.out).frozen r;go_region;all_goals go_wp2
           go_roundw;case rel=>refine⟨r,_,rfl,(by have:=ht.out;have:=S.out;omega:r<=q),RowS.swpV R5.out.drew BT.out BR.out L.out O.out,O5.out.drew.trans (q2q _ g _ _ _ _) (fun x hx=>Or.inl hx),?_⟩;show shiftDown ltInt r (swp dt t r)=_;rw[<- hT.out,S.out,<- v0x dt r (by rw[<- O.out];have:=L.out;rw[S.out] at this;rw[<- this];exact HL.out)]
           case measure=>have:=S.out;first|(simp[intOf];done)|(simp[intOf];omega)
       ·have d3: ¬(i2:Int)- (a:Int)≥2:=by omega
        have ef:Hid (fixDown ltInt a i2 Y=Y):=by show fixDown ltInt a i2 Y=_;unfold fixDown;rw[if_neg h2]
        clear h2;go_wp2;go_meet;case rel=>refine⟨?_,O3⟩;rw[ef.out];exact R3
      case rest=>
       obtain⟨R6,O6⟩:=hcut;clear R3 O3;obtain⟨h7,hg⟩:∃D,D=fixDown ltInt a i2 Y:=⟨_,rfl⟩;rw[<- hg] at E2 R6;clear hg;have ho:Hid (∀W,RowS W g n (fixUp ltInt b i2 h7) tl->Only [g] w W-> ∃i' s' dk',Value.int .i64 (i2:Int)= .int .i64 (i':Nat)/\Value.int .i64 ((z:Int)+1)= .int .i64 ((5-s':Nat):Int)/\Hid (a<i'/\i'<=b/\s'<=5)/\Hid (RowS W g n dk' tl)/\Hid (Only [g] w W)/\Hid (partialIns ltInt a b s' i' dk'=partialInsertionSort ltInt d a b)):=by intro W h1 h2;have hz:=HZ.out;have hs:=h9.out.2.2;refine⟨i2,s,_,rfl,by congr 1;omega,(by have:=hk.out;omega:a<i2/\i2<=b/\s<=5),h1,h2,E2.out⟩
       by_cases h2:b-i2≥2
       ·have d4:(b:Int)- (i2:Int)≥2:=by omega
        have ef:Hid (fixUp ltInt b i2 h7=shiftUp ltInt b (i2+1) h7):=by show fixUp ltInt b i2 h7=_;unfold fixUp;rw[if_pos h2]
        clear h2;go_wp2;go_loopw [10] (fun vj wx=> ∃(t:Nat) (dt:Array Int),vj= .int .i64 t/\Hid (i2<t/\t<=b)/\Hid (RowS wx g n dt tl)/\Hid (Only [g] w wx)/\Hid (shiftUp ltInt b t dt=shiftUp ltInt b (i2+1) h7)) (fun vj _=>b- (intOf vj).toNat);case atStart=>exact⟨i2+1,h7,by go_num,(by have:=hk.out;omega:i2<i2+1/\i2+1<=b),R6,O6,rfl⟩
        case round=>
         obtain⟨t,dt,rfl,ht,U,h6,hT⟩:=hrel;obtain⟨r,hr⟩:∃r,t=r+1:=⟨t-1,by have:=ht.out;omega⟩;have S:=hid hr;by_cases h4:t<b
         ·have d5:(t:Int)< (b:Int):=by omega
          have e2:(t:Int)-1=(r:Int):=by omega
          have bt:t<n:=by have:=BN.out;omega
          have br:r<n:=by omega
          have t0:(0:Int)<=(t:Int):=by omega
          have t9:(t:Int)<=1000000000:=by omega
          have tn:(t:Int)< (n:Int):=by omega
          have r0:(0:Int)<=(r:Int):=by omega
          have rn:(r:Int)< (n:Int):=by omega
          have k3:=q2s (q:=r) (by omega);obtain⟨x0,I⟩:∃x,x=dt[t]! :=⟨_,rfl⟩;obtain⟨xq,M⟩:∃x,x=dt[r]! :=⟨_,rfl⟩;have c0:wr.cell? ⟨g,t,none⟩=some (.int .u64 x0):=by rw[I];exact U.out.cell bt
          have cq:wr.cell? ⟨g,r,none⟩=some (.int .u64 xq):=by rw[M];exact U.out.cell br
          have L:=hid I;have O:=hid M;have BT:=hid bt;have BR:=hid br;have hf:=hid h4;clear I M bt br hr h4;go_wp2_with fail;go_quiet (first|(go_at_call 228;exact Calls.quiet_of_same (q2n _ _ _)));go_wp2_with fail
          ·have hl:ltInt x0 xq=false:=x3f (by assumption);go_roundw;case rel=>refine ho.out _ ?_ (h6.out.drewN _);rw[ef.out,<- hT.out,S.out,x2q dt b r (fun _=>by rw[<- O.out];have:=L.out;rw[S.out] at this;rw[<- this];exact hl)];exact U.out.drewN _
           case measure=>first|(simp[intOf];done)|(simp[intOf];omega)
          ·have hl:ltInt x0 xq=true:=x3u (by assumption);have HL:=hid hl;clear hl;revert nq;intro h3;have R5:Hid (RowS (wr.drewN h3) g n dt tl):=U.out.drewN h3;have O5:Hid (Only [g] w (wr.drewN h3)):=h6.out.drewN h3;clear c0 cq U h6;generalize wr.drewN h3=wr2 at R5 O5 ⊢;have c0:wr2.cell? ⟨g,t,none⟩=some (.int .u64 x0):=by rw[L.out];exact R5.out.cell BT.out
           have cq:wr2.cell? ⟨g,r,none⟩=some (.int .u64 xq):=by rw[O.out];exact R5.out.cell BR.out
           have f0:=R5.out.frozen t;have fq:=R5.out.frozen r;obtain⟨yq,hp⟩:∃y,(wr2.setCell ⟨g,t,none⟩ (.int .u64 xq)).cell? ⟨g,r,none⟩=some (.int .u64 y):=⟨_,(R5.out.set_ xq BT.out).cell BR.out⟩;have hy:=(R5.out.set_ xq BT.out).frozen r;go_region;all_goals go_wp2
           go_roundw;case rel=>refine⟨t+1,_,by go_num,(by have:=ht.out;have:=hf.out;omega:i2<t+1/\t+1<=b),RowS.swpV R5.out.drew BT.out BR.out L.out O.out,O5.out.drew.trans (q2q _ g _ _ _ _) (fun x hx=>Or.inl hx),?_⟩;show shiftUp ltInt b (t+1) (swp dt t r)=_;have h4:=hf.out;rw[S.out] at h4;rw[<- hT.out,S.out,v8c dt b r h4 (by rw[<- O.out];have:=L.out;rw[S.out] at this;rw[<- this];exact HL.out)]
           case measure=>have:=hf.out;first|(simp[intOf];done)|(simp[intOf];omega)
         ·have d5: ¬(t:Int)< (b:Int):=by omega
          have hf:=hid h4;clear hr h4;go_wp2;go_roundw;case rel=>refine ho.out _ ?_ h6.out;have h4:=hf.out;rw[S.out] at h4;rw[ef.out,<- hT.out,S.out,x2q dt b r (fun h=>absurd h h4)];exact U.out
          case measure=>first|(simp[intOf];done)|(simp[intOf];omega)
       ·have d4: ¬(b:Int)- (i2:Int)≥2:=by have:=hk.out;omega
        have ef:Hid (fixUp ltInt b i2 h7=h7):=by show fixUp ltInt b i2 h7=_;unfold fixUp;rw[if_neg h2]
        clear h2;go_wp2;go_roundw;case rel=>refine ho.out _ ?_ O6.out;rw[ef.out];exact R6.out
        case measure=>first|(simp[intOf];done)|(simp[intOf];omega)
end
section
open Go.Sort (swp ltInt)
def q7h (w:World) (sb:Nat):Prop:= ∃k:Int,Blk w sb 3 #[.int .i64 k]
theorem z4c (g n cap sb:Nat) (I:sb≠g) (d:Array Int) (tl:List Value) (a b:Nat) (ha:a<n) (hb:b<n) (hn:n<=1000000000) (w:World) (h:RowS w g n d tl) (hs:q7h w sb):
  Calls Tryz.prog 271 #[.slice (some ⟨g,0,none⟩) n cap,.int .i64 (a:Int),.int .i64 (b:Int),.pointer (some ⟨sb,0,none⟩)] w fun e w'=>(e= .returned (.tuple #[.int .i64 (a:Int),.int .i64 (b:Int)])\/e= .returned (.tuple #[.int .i64 (b:Int),.int .i64 (a:Int)]))/\RowS w' g n d tl/\q7h w' sb/\Only [sb] w w':=by
 obtain⟨k,hk⟩:=hs;obtain⟨x0,L⟩:∃x,x=d[a]! :=⟨_,rfl⟩;obtain⟨xq,M⟩:∃x,x=d[b]! :=⟨_,rfl⟩;have c0:w.cell? ⟨g,a,none⟩=some (.int .u64 x0):=by rw[L];exact h.cell ha
 have cq:w.cell? ⟨g,b,none⟩=some (.int .u64 xq):=by rw[M];exact h.cell hb
 have cs:w.cell? ⟨sb,0,none⟩=some (.int .i64 k):=hk.cell 0;have fs:=hk.frozen 0;have a0:(0:Int)<=(a:Int):=by omega
 have an:(a:Int)< (n:Int):=by omega
 have b0:(0:Int)<=(b:Int):=by omega
 have bn:(b:Int)< (n:Int):=by omega
 have H:=hid h;have HK:=hid hk;have O:=hid I;clear h hk L M ha hb I;go_enter Tryz.func271,Tryz.ntmps271;go_wp2_with fail;go_quiet (first|(go_at_call 228;exact Calls.quiet_of_same (q2n _ _ _)));go_wp2
 ·go_ret2;have hB:=HK.out.drewN nq;have hO:∀v,Only [sb] w ((w.drewN nq).setCell ⟨sb,0,none⟩ v):=fun v=>((Only.refl [sb] w).drewN nq).setCell (p:=⟨sb,0,none⟩) (Or.inl (by simp)) v;refine⟨?_,?_,?_,?_⟩;·exact Or.inr rfl
  ·exact H.out.only (hO _) (by simpa using O.out.symm)
  ·exact⟨_,hB.set_ 0 _⟩
  ·exact hO _
 ·go_ret2;exact⟨Or.inl rfl,H.out.drewN _,⟨k,HK.out.drewN _⟩,(Only.refl _ _).drewN _⟩
theorem z5p (g n cap sb:Nat) (M:sb≠g) (d:Array Int) (tl:List Value) (a b c:Nat) (ha:a<n) (hb:b<n) (hc:c<n) (hn:n<=1000000000) (w:World) (h:RowS w g n d tl) (hs:q7h w sb):
  Calls Tryz.prog 259 #[.slice (some ⟨g,0,none⟩) n cap,.int .i64 (a:Int),.int .i64 (b:Int),.int .i64 (c:Int),.pointer (some ⟨sb,0,none⟩)] w fun e w'=>(∃r:Nat,(r=a\/r=b\/r=c)/\e= .returned (.int .i64 (r:Int)))/\RowS w' g n d tl/\q7h w' sb/\Only [sb] w w':=by
 have H:=hid h;have HS:=hid hs;have L:=hid M;have HA:=hid ha;have HB:=hid hb;have HC:=hid hc;have HN:=hid hn;clear h hs M ha hb hc hn;go_enter Tryz.func259,Tryz.ntmps259;go_wp2_with fail;refine(z4c g n cap sb L.out d tl a b HA.out HB.out HN.out w H.out HS.out).mono ?_;rintro e w1 ⟨he,Y,h6,O⟩
 obtain⟨x,y,h7,rfl⟩:∃x y:Nat,Hid ((x=a/\y=b)\/(x=b/\y=a))/\e= .returned (.tuple #[.int .i64 (x:Int),.int .i64 (y:Int)]):=by
  rcases he with rfl|rfl;·exact⟨a,b,Or.inl ⟨rfl,rfl⟩,rfl⟩
  ·exact⟨b,a,Or.inr ⟨rfl,rfl⟩,rfl⟩
 have I:Hid (x<n/\y<n):=by
  have h1:=HA.out;have h2:=HB.out;rcases h7.out with⟨rfl,rfl⟩|⟨rfl,rfl⟩;·exact⟨h1,h2⟩
  ·exact⟨h2,h1⟩
 have R1:=hid Y;have S1:=hid h6;have O1:=hid O;clear Y h6 O he;go_wp2_with fail;refine(z4c g n cap sb L.out d tl y c I.out.2 HC.out HN.out w1 R1.out S1.out).mono ?_;rintro e w2 ⟨he,h8,h9,hf⟩
 obtain⟨u,v,h4,rfl⟩:∃u v:Nat,Hid ((u=y/\v=c)\/(u=c/\v=y))/\e= .returned (.tuple #[.int .i64 (u:Int),.int .i64 (v:Int)]):=by
  rcases he with rfl|rfl;·exact⟨y,c,Or.inl ⟨rfl,rfl⟩,rfl⟩
  ·exact⟨c,y,Or.inr ⟨rfl,rfl⟩,rfl⟩
 have hg:Hid (u<n):=by
  have h1:=I.out.2;have h2:=HC.out;rcases h4.out with⟨rfl,rfl⟩|⟨rfl,rfl⟩;·exact h1
  ·exact h2
 have R2:=hid h8;have S2:=hid h9;have O2:=hid (O1.out.trans hf (fun x hx=>Or.inl hx));clear h8 h9 hf he;go_wp2_with fail;refine(z4c g n cap sb L.out d tl x u I.out.1 hg.out HN.out w2 R2.out S2.out).mono ?_;rintro e w3 ⟨he,U,S,h5⟩
 obtain⟨p,q,hh,rfl⟩:∃p q:Nat,Hid (q=u\/q=x)/\e= .returned (.tuple #[.int .i64 (p:Int),.int .i64 (q:Int)]):=by
  rcases he with rfl|rfl;·exact⟨x,u,Or.inl rfl,rfl⟩
  ·exact⟨u,x,Or.inr rfl,rfl⟩
 have R3:=hid U;have S3:=hid S;have O3:=hid (O2.out.trans h5 (fun x hx=>Or.inl hx));clear U S h5 he;go_wp2;go_ret;refine⟨⟨q,?_,rfl⟩,R3.out,S3.out,O3.out⟩;have h1:=h7.out;have h2:=h4.out;have h3:=hh.out;omega
theorem q8o (g n cap sb:Nat) (I:sb≠g) (d:Array Int) (tl:List Value) (a:Nat) (h1:1<=a) (ha:a+1<n) (hn:n<=1000000000) (w:World) (h:RowS w g n d tl) (hs:q7h w sb):
  Calls Tryz.prog 258 #[.slice (some ⟨g,0,none⟩) n cap,.int .i64 (a:Int),.pointer (some ⟨sb,0,none⟩)] w fun e w'=>(∃r:Nat,(a-1<=r/\r<=a+1)/\e= .returned (.int .i64 (r:Int)))/\RowS w' g n d tl/\q7h w' sb/\Only [sb] w w':=by
 obtain⟨p,hp⟩:∃p,p=a-1:=⟨_,rfl⟩;obtain⟨q,hq⟩:∃q,q=a+1:=⟨_,rfl⟩;have e1:(a:Int)-1=(p:Int):=by omega
 have e2:(a:Int)+1=(q:Int):=by omega
 have w1:=q2s (q:=p) (by omega);have w2:=q2s (q:=q) (by omega);have hc:=(z5p g n cap sb I d tl p a q (by omega) (by omega) (by omega) hn w h hs);have HC:=hid hc;have HP:=hid hp;have HQ:=hid hq;have H1:=hid h1;clear hc hp hq h1 ha h hs;go_enter Tryz.func258,Tryz.ntmps258;go_wp2_with fail;refine HC.out.mono ?_;rintro e w3 ⟨⟨r,hr,rfl⟩,h2⟩;have R:=hid hr;have H2:=hid h2;clear hr h2;go_wp2;go_ret;refine⟨⟨r,?_,rfl⟩,H2.out⟩;have:=R.out;have:=HP.out;have:=HQ.out;have:=H1.out;omega
theorem x8v {w W0 W1:World} {sb:Nat} (h:Below w.heap.size w W0) (o:Only [sb] W0 W1) (hn:w.heap.size<=sb):Below w.heap.size w W1:=h.trans (o.below (by simpa using hn) h.size)
theorem v7p (g n cap:Nat) (d:Array Int) (tl:List Value) (a b:Nat) (Y:a<b) (hb:b<=n) (hn:n<=1000000000) (w:World) (h:RowS w g n d tl):
  Calls Tryz.prog 225 #[.slice (some ⟨g,0,none⟩) n cap,.int .i64 (a:Int),.int .i64 (b:Int)] w fun e w'=>(∃(r:Nat) (L:Int),(a<=r/\r<b)/\(L=0\/L=1\/L=2)/\e= .returned (.tuple #[.int .i64 (r:Int),.int .i64 L]))/\Below w.heap.size w w':=by
 obtain⟨m,hm⟩:∃m,m=b-a:=⟨_,rfl⟩;obtain⟨q,hq⟩:∃q,q=m/4:=⟨_,rfl⟩;obtain⟨i,hi⟩:∃i,i=a+q:=⟨_,rfl⟩;obtain⟨j,hj⟩:∃j,j=a+2*q:=⟨_,rfl⟩;obtain⟨k,hk⟩:∃k,k=a+3*q:=⟨_,rfl⟩;have e1:(b:Int)- (a:Int)=(m:Int):=by omega
 have e2:((m:Int)).tdiv 4=(q:Int):=by rw[Bg (by omega)];omega
 have e3:(q:Int)*1=(q:Int):=by omega
 have e4:(q:Int)*2=((2*q:Nat):Int):=by omega
 have e5:(q:Int)*3=((3*q:Nat):Int):=by omega
 obtain⟨q2,S⟩:∃q2,q2=2*q:=⟨_,rfl⟩;obtain⟨q3,h1⟩:∃q3,q3=3*q:=⟨_,rfl⟩;rw[<- S] at e4;rw[<- h1] at e5;have e6:(a:Int)+(q:Int)=(i:Int):=by omega
 have e7:(a:Int)+(q2:Int)=(j:Int):=by omega
 have e8:(a:Int)+(q3:Int)=(k:Int):=by omega
 have w1:=q2s (q:=m) (by omega);have w2:=q2s (q:=q) (by omega);have w3:=q2s (q:=q2) (by omega);have w4:=q2s (q:=q3) (by omega);have w5:=q2s (q:=i) (by omega);have w6:=q2s (q:=j) (by omega);have w7:=q2s (q:=k) (by omega);have m0:(0:Int)<=(m:Int):=by omega
 have F:=hid (show a<b/\b<=n/\m=b-a/\q=m/4/\i=a+q/\j=a+2*q/\k=a+3*q from⟨Y,hb,hm,hq,hi,hj,hk⟩);have HN:=hid hn;have H:=hid h;have HG:=hid h.blk.lt;clear h Y hb hn hm hq hi hj hk S h1;go_enter Tryz.func225,Tryz.ntmps225;go_upto_if 32 with fail;obtain⟨sb,O⟩:∃sb,sb=w.heap.size:=⟨_,rfl⟩;obtain⟨W0,M⟩:∃W0,W0=w.alloc (.cells #[.int .i64 0] 3):=⟨_,rfl⟩;have B0:Hid (Below w.heap.size w W0):=by rw[M];exact ba (Below.refl _ _) _
 have R0:Hid (RowS W0 g n d tl):=⟨H.out.blk.bel B0.out,H.out.size⟩;have S0:Hid (q7h W0 sb):=⟨0,by rw[M,O];exact Blk.new w _ _⟩;have NE:Hid (sb≠g):=by have:=HG.out;show sb≠g;omega
 have NB:Hid (w.heap.size<=sb):=by show w.heap.size<=sb;omega
 rw[<- O,<- M];clear O M;go_cut [11] (fun h6 wc=> ∃r:Nat,h6= .int .i64 r/\Hid (a<=r/\r<b)/\Hid (q7h wc sb)/\Hid (Below w.heap.size w wc))
 case first=>
  by_cases h8:8<=m
  ·have d8:(8:Int)<=(m:Int):=by omega
   have h9:decide ((8:Int)<=(m:Int))=true:=by simp;omega
   have H8:=hid h8;by_cases h50:50<=m
   ·have h5:(50:Int)<=(m:Int):=by omega
    have h7:decide ((50:Int)<=(m:Int))=true:=by simp;omega
    have I:=hid h50;clear h8 h50;go_wp2_with fail;refine(q8o g n cap sb NE.out d tl i (by have:=F.out;have:=I.out;omega) (by have:=F.out;have:=I.out;omega) HN.out W0 R0.out S0.out).mono ?_;rintro e W1 ⟨⟨i1,U,rfl⟩,hR,hS,hO⟩;have I1:=hid U;have R1:=hid hR;have S1:=hid hS;have B1:=hid (x8v B0.out hO NB.out);clear U hR hS hO;go_wp2_with fail;refine(q8o g n cap sb NE.out d tl j (by have:=F.out;have:=I.out;omega) (by have:=F.out;have:=I.out;omega) HN.out W1 R1.out S1.out).mono ?_;rintro e W2 ⟨⟨j1,h3,rfl⟩,hR,hS,hO⟩;have I2:=hid h3;have R2:=hid hR;have S2:=hid hS;have B2:=hid (x8v B1.out hO NB.out);clear h3 hR hS hO;go_wp2_with fail;refine(q8o g n cap sb NE.out d tl k (by have:=F.out;have:=I.out;omega) (by have:=F.out;have:=I.out;omega) HN.out W2 R2.out S2.out).mono ?_;rintro e W3 ⟨⟨k1,h2,rfl⟩,hR,hS,hO⟩;have I3:=hid h2;have R3:=hid hR;have S3:=hid hS;have B3:=hid (x8v B2.out hO NB.out);clear h2 hR hS hO;go_wp2_with fail;refine(z5p g n cap sb NE.out d tl i1 j1 k1 (by have:=F.out;have:=I.out;have:=I1.out;have:=I2.out;have:=I3.out;omega) (by have:=F.out;have:=I.out;have:=I1.out;have:=I2.out;have:=I3.out;omega) (by have:=F.out;have:=I.out;have:=I1.out;have:=I2.out;have:=I3.out;omega) HN.out W3 R3.out S3.out).mono ?_;rintro e W4 ⟨⟨r,hr,rfl⟩,hR,hS,hO⟩;have I4:=hid hr;have R4:=hid hR;have S4:=hid hS;have B4:=hid (x8v B3.out hO NB.out);clear hr hR hS hO;go_wp2;go_meet;case rel=>exact⟨r,rfl,(by have:=I4.out;have:=F.out;have:=I.out;have:=I1.out;have:=I2.out;have:=I3.out;omega:a<=r/\r<b),S4,B4⟩
   ·have h5: ¬(50:Int)<=(m:Int):=by omega
    clear h8 h50;go_wp2_with fail;refine(z5p g n cap sb NE.out d tl i j k (by have:=F.out;have:=H8.out;omega) (by have:=F.out;have:=H8.out;omega) (by have:=F.out;have:=H8.out;omega) HN.out W0 R0.out S0.out).mono ?_;rintro e W4 ⟨⟨r,hr,rfl⟩,hR,hS,hO⟩;have I4:=hid hr;have R4:=hid hR;have S4:=hid hS;have B4:=hid (x8v B0.out hO NB.out);clear hr hR hS hO;go_wp2;go_meet;case rel=>exact⟨r,rfl,(by have:=I4.out;have:=F.out;have:=H8.out;omega:a<=r/\r<b),S4,B4⟩
  ·have d8: ¬(8:Int)<=(m:Int):=by omega
   clear h8;go_wp2;go_meet;case rel=>exact⟨j,rfl,(by have:=F.out;omega:a<=j/\j<b),S0,B0⟩
 case rest=>
  obtain⟨r,rfl,hr,⟨k0,h4⟩,hB⟩:=hcut;have ck:=h4.cell 0;have ck:wc.cell? ⟨sb,0,none⟩=some (.int .i64 k0):=ck;clear h4;by_cases z0:k0=0
  ·have t0:(k0==0)=true:=by simp[z0]
   clear z0;go_wp2;go_ret2;exact⟨⟨r,1,hr.out,Or.inr (Or.inl rfl),rfl⟩,hB.out⟩
  ·have t0:(k0==0)=false:=by simp[z0]
   by_cases z1:k0=12
   ·have t1:(k0==12)=true:=by simp[z1]
    clear z0 z1;go_wp2;go_ret2;exact⟨⟨r,2,hr.out,Or.inr (Or.inr rfl),rfl⟩,hB.out⟩
   ·have t1:(k0==12)=false:=by simp[z1]
    clear z0 z1;go_wp2;go_ret2;exact⟨⟨r,0,hr.out,Or.inl rfl,rfl⟩,hB.out⟩
end
section
open Go.Sort (swp ltInt PermIn permIn_refl permIn_trans swp_permIn)
theorem v5y (x:Int) (w:World) (h0:0<=x) (h1:x<=4294967295):
  Calls Tryz.prog 232 #[.int .u64 x] w fun e w'=>e= .returned (.int .i64 (Lib.bitLen x.toNat))/\w'=w:=by
 by_cases c1:65536<=x
 ·by_cases c2:16777216<=x
  ·have d1: ¬x/65536<256:=by omega
   have y0:0<=x/65536/256:=by omega
   have y1:x/65536/256<=255:=by omega
   have I:=fun w=>Lib.run_index_len8tab (P:=Tryz.prog) w 9 .u8 (x/65536/256) Tryz.underlying9 y0 y1;have l8:=Lib.bitLen_le8' (x/65536/256) y0 y1;have e8:=Lib.len8_of (x/65536/256) y0 y1;obtain⟨L,hL⟩:∃L,L=Lib.bitLen (x/65536/256).toNat:=⟨_,rfl⟩;rw[<- hL] at l8 e8;rw[e8] at I
   have fin:Hid (Lib.bitLen x.toNat=24+L):=by
    show Lib.bitLen x.toNat=24+L;rw[hL];have e:(x/65536/256).toNat=x.toNat/16777216:=by omega
    rw[e];exact Lib.bitLen_shift24 x.toNat (by omega) (by omega)
   have O:(L:Int)<=8:=by omega
   have M:(0:Int)<=(L:Int):=by omega
   clear hL e8 l8;go_enter Tryz.func232,Tryz.ntmps232;go_wp2;go_ret;rw[fin.out];exact⟨rfl,rfl⟩
  ·have d1:x/65536<256:=by omega
   have y0:0<=x/65536:=by omega
   have y1:x/65536<=255:=by omega
   have I:=fun w=>Lib.run_index_len8tab (P:=Tryz.prog) w 9 .u8 (x/65536) Tryz.underlying9 y0 y1;have l8:=Lib.bitLen_le8' (x/65536) y0 y1;have e8:=Lib.len8_of (x/65536) y0 y1;obtain⟨L,hL⟩:∃L,L=Lib.bitLen (x/65536).toNat:=⟨_,rfl⟩;rw[<- hL] at l8 e8;rw[e8] at I
   have fin:Hid (Lib.bitLen x.toNat=16+L):=by
    show Lib.bitLen x.toNat=16+L;rw[hL];have e:(x/65536).toNat=x.toNat/65536:=by omega
    rw[e];exact Lib.bitLen_shift16 x.toNat (by omega) (by omega)
   have O:(L:Int)<=8:=by omega
   have M:(0:Int)<=(L:Int):=by omega
   clear hL e8 l8;go_enter Tryz.func232,Tryz.ntmps232;go_wp2;go_ret;rw[fin.out];exact⟨rfl,rfl⟩
 ·by_cases c2:256<=x
  ·have d1: ¬x<256:=by omega
   have y0:0<=x/256:=by omega
   have y1:x/256<=255:=by omega
   have I:=fun w=>Lib.run_index_len8tab (P:=Tryz.prog) w 9 .u8 (x/256) Tryz.underlying9 y0 y1;have l8:=Lib.bitLen_le8' (x/256) y0 y1;have e8:=Lib.len8_of (x/256) y0 y1;obtain⟨L,hL⟩:∃L,L=Lib.bitLen (x/256).toNat:=⟨_,rfl⟩;rw[<- hL] at l8 e8;rw[e8] at I
   have fin:Hid (Lib.bitLen x.toNat=8+L):=by
    show Lib.bitLen x.toNat=8+L;rw[hL];have e:(x/256).toNat=x.toNat/256:=by omega
    rw[e];exact Lib.bitLen_shift8 x.toNat (by omega) (by omega)
   have O:(L:Int)<=8:=by omega
   have M:(0:Int)<=(L:Int):=by omega
   clear hL e8 l8;go_enter Tryz.func232,Tryz.ntmps232;go_wp2;go_ret;rw[fin.out];exact⟨rfl,rfl⟩
  ·have d1:x<256:=by omega
   have y0:0<=x:=by omega
   have y1:x<=255:=by omega
   have I:=fun w=>Lib.run_index_len8tab (P:=Tryz.prog) w 9 .u8 (x) Tryz.underlying9 y0 y1;have l8:=Lib.bitLen_le8' (x) y0 y1;have e8:=Lib.len8_of (x) y0 y1;obtain⟨L,hL⟩:∃L,L=Lib.bitLen (x).toNat:=⟨_,rfl⟩;rw[<- hL] at l8 e8;rw[e8] at I;have fin:Hid (Lib.bitLen x.toNat=L):=by show Lib.bitLen x.toNat=L;rw[hL]
   have O:(L:Int)<=8:=by omega
   have M:(0:Int)<=(L:Int):=by omega
   clear hL e8 l8;go_enter Tryz.func232,Tryz.ntmps232;go_wp2;go_ret;rw[fin.out];exact⟨rfl,rfl⟩
theorem v5q (x:Int) (w:World) (h0:0<=x) (h1:x<=4294967295):
  Calls Tryz.prog 193 #[.int .u64 x] w fun e w'=>e= .returned (.int .i64 (Lib.bitLen x.toNat))/\w'=w:=by
 go_enter Tryz.func193,Tryz.ntmps193;go_wp2_with (go_at_call 232;refine(v5y x _ h0 h1).mono ?_;rintro e w' ⟨rfl,rfl⟩);go_ret;exact⟨rfl,rfl⟩
theorem x0l (x:Nat) (h:x<2^64):Lib.bitLen x=Go.Sort.bitsLen x:=by
 have h0:=fun k=>Go.Sort.bitsLen_le_iff x k;by_cases hx:x=0;·subst hx;rfl
 ·obtain⟨h1,h2,h3⟩:=Lib.bitLenAux_bounds 64 x (by simpa using h) hx;have h4:Lib.bitLen x=Lib.bitLenAux 64 x:=rfl;rw[h4];generalize Lib.bitLenAux 64 x=q at*;have a1:Go.Sort.bitsLen x<=q:=(h0 q).2 h3;by_cases a2:q<=Go.Sort.bitsLen x;·omega
  ·exfalso;have a3:=(h0 (q-1)).1 (by omega);omega
theorem x5n (k:Nat) (hk:k<=62):IntKind.u64.wrap ((2:Int)^k)=((2^k:Nat):Int):=by have h:(2:Nat)^k<=2^62:=As (by decide) hk;rw[IntKind.wrap_u64,show((2:Int)^k)=((2^k:Nat):Int) by push_cast;rfl];generalize(2:Nat)^k=p at h;omega
theorem x9q (m:Nat) (hm:m<=1000000000) (w:World):
  Calls Tryz.prog 256 #[.int .i64 (m:Int)] w fun e w'=>e= .returned (.int .u64 ((2^Go.Sort.bitsLen m:Nat):Int))/\w'=w:=by
 have hc:=v5q (m:Int) w (by omega) (by omega);rw[BG,x0l m (by omega)] at hc;have hk:Go.Sort.bitsLen m<=62:=(Go.Sort.bitsLen_le_iff m 62).2 (by omega);have hp:=x5n (Go.Sort.bitsLen m) hk;have HC:=hid hc;have m0:(0:Int)<=(m:Int):=by omega
 have m9:(m:Int)<=1000000000:=by omega
 clear hc;go_enter Tryz.func256,Tryz.ntmps256;go_wp2_with fail;refine HC.out.mono ?_;rintro e w2 ⟨rfl,rfl⟩;go_wp2;go_ret;exact⟨rfl,rfl⟩
theorem y0y (rb X:Nat) (hX:X<18446744073709551616) (w:World) (h:Blk w rb 337 #[.int .u64 (X:Int)]):
  Calls Tryz.prog 257 #[.pointer (some ⟨rb,0,none⟩)] w fun e w'=>(∃C:Nat,C<18446744073709551616/\e= .returned (.int .u64 (C:Int))/\Blk w' rb 337 #[.int .u64 (C:Int)])/\Only [rb] w w':=by
 obtain⟨A,hA⟩:∃A:Nat,A=X^^^ (X*8192 % 18446744073709551616):=⟨_,rfl⟩;obtain⟨B,hB⟩:∃B:Nat,B=A^^^ (A/128):=⟨_,rfl⟩;obtain⟨C,hC⟩:∃C:Nat,C=B^^^ (B*131072 % 18446744073709551616):=⟨_,rfl⟩;have lA:A<18446744073709551616:=by rw[hA];exact DF (n:=64) (by omega) (by omega)
 have lB:B<18446744073709551616:=by rw[hB];exact DF (n:=64) (by omega) (by omega)
 have lC:C<18446744073709551616:=by rw[hC];exact DF (n:=64) (by omega) (by omega)
 have e1:bits .xor .u64 (X:Int) (IntKind.u64.wrap ((X:Int)*8192))=(A:Int):=by rw[IntKind.wrap_u64,show((X:Int)*8192 % 18446744073709551616)=((X*8192 % 18446744073709551616:Nat):Int) by omega,bits_xor_u64_nat _ _ hX (by omega),hA]
 have e2:bits .xor .u64 (A:Int) ((A:Int)/128)=(B:Int):=by rw[show((A:Int)/128)=((A/128:Nat):Int) by omega,bits_xor_u64_nat _ _ lA (by omega),hB]
 have e3:bits .xor .u64 (B:Int) (IntKind.u64.wrap ((B:Int)*131072))=(C:Int):=by rw[IntKind.wrap_u64,show((B:Int)*131072 % 18446744073709551616)=((B*131072 % 18446744073709551616:Nat):Int) by omega,bits_xor_u64_nat _ _ lB (by omega),hC]
 have LC:=hid lC;clear hA hB hC lA lB lC hX;have hc:w.cell? ⟨rb,0,none⟩=some (.int .u64 (X:Int)):=h.cell 0;have hf:=h.frozen 0;have I:∀v v',(w.setCell ⟨rb,0,none⟩ v).setCell ⟨rb,0,none⟩ v'=w.setCell ⟨rb,0,none⟩ v':=by intro v v';rw[Go.Sort.setCell_eq,Go.Sort.setCell_eq,Go.Sort.mapBlock_mapBlock,Go.Sort.setCell_eq];congr 1;funext c;simp
 have H:=hid h;clear h;go_enter Tryz.func257,Tryz.ntmps257;go_wp2;go_region;all_goals go_wp2
 all_goals go_region
 all_goals go_wp2
 all_goals go_region
 all_goals go_wp2
 go_ret;refine⟨⟨C,LC.out,rfl,H.out.set_ 0 _⟩,?_⟩;exact((((Only.refl [rb] w).setCell (p:=⟨rb,0,none⟩) (Or.inl (AF.2 rfl)) _).drew).drew).drew
theorem v6n (g n cap:Nat) (d:Array Int) (tl:List Value) (a b:Nat) (he:a<=b) (hb:b<=n) (hn:n<=1000000000) (w:World) (h:RowS w g n d tl):
  Calls Tryz.prog 224 #[.slice (some ⟨g,0,none⟩) n cap,.int .i64 (a:Int),.int .i64 (b:Int)] w fun e w'=>(∃r,e= .returned r)/\(∃d',RowS w' g n d' tl/\PermIn a b d d')/\Only [g] w w':=by
 obtain⟨L,hL⟩:∃L,L=b-a:=⟨_,rfl⟩;have e1:(b:Int)- (a:Int)=(L:Int):=by omega
 have w1:=q2s (q:=L) (by omega);have L0:(0:Int)<=(L:Int):=by omega
 have L9:(L:Int)<=1000000000:=by omega
 by_cases h8:8<=L
 ·have d8:(8:Int)<=(L:Int):=by omega
  have hz:decide ((8:Int)<=(L:Int))=true:=by simp;omega
  have hk:=hid (x9q L (by omega));have H:=hid h;have HF:=hid (show a<=b/\b<=n/\n<=1000000000/\L=b-a/\8<=L from⟨he,hb,hn,hL,h8⟩);clear h he hb hn hL;go_enter Tryz.func224,Tryz.ntmps224;obtain⟨rb,h6⟩:∃rb,rb=w.heap.size:=⟨_,rfl⟩;obtain⟨M,hM⟩:∃M,M=2^Go.Sort.bitsLen L:=⟨_,rfl⟩;have ho:1<=M:=by rw[hM];exact Nat.two_pow_pos _
  have hp:M<=2*L:=by rw[hM];exact Go.Sort.two_pow_bitsLen_le (by omega)
  rw[<- hM] at hk;obtain⟨q,hq⟩:∃q,q=L/4:=⟨_,rfl⟩;obtain⟨q2,hg⟩:∃q2,q2=2*q:=⟨_,rfl⟩;obtain⟨q3,hi⟩:∃q3,q3=a+q2:=⟨_,rfl⟩;obtain⟨i0,hh⟩:∃i,i=q3-1:=⟨_,rfl⟩;obtain⟨i2,hr⟩:∃i,i=q3+1:=⟨_,rfl⟩;have e2:((L:Int)).tdiv 4=(q:Int):=by rw[Bg (by omega)];omega
  have e3:(q:Int)*2=(q2:Int):=by omega
  have e4:(a:Int)+(q2:Int)=(q3:Int):=by omega
  have e5:(q3:Int)-1=(i0:Int):=by have:=HF.out;omega
  have e6:(q3:Int)+1=(i2:Int):=by omega
  have wq:=q2s (q:=q) (by omega);have k1:=q2s (q:=q2) (by omega);have k4:=q2s (q:=q3) (by have:=HF.out;omega);have k3:=q2s (q:=i0) (by have:=HF.out;omega);have k0:=q2s (q:=i2) (by have:=HF.out;omega);have HQ:=hid (show q=L/4/\q2=2*q/\q3=a+q2/\i0=q3-1/\i2=q3+1 from⟨hq,hg,hi,hh,hr⟩);have HM:=hid (show 1<=M/\M<=2*L from⟨ho,hp⟩);obtain⟨W0,h2⟩:∃W0,W0=w.alloc (.cells #[.int .u64 (L:Int)] 337):=⟨_,rfl⟩;have O0:Hid (Only [g] w W0):=by rw[h2];exact(Only.refl _ _).alloc _
  have R0:Hid (RowS W0 g n d tl):=by rw[h2];exact H.out.only ((Only.refl [] w).alloc _) (by simp)
  have X0:Hid (Blk W0 rb 337 #[.int .u64 (L:Int)]):=by rw[h2,h6];exact Blk.new w _ _
  have NE:Hid (rb≠g/\w.heap.size<=rb):=by have:=H.out.blk.lt;exact⟨by omega,by omega⟩
  clear hq hg hi hh hr hM ho hp h8;go_wp2_with fail;refine(hk.out _).mono ?_;rintro e w2 ⟨rfl,rfl⟩;rw[<- h6,<- h2];clear h6 h2;go_wp2;go_loopw [9] (fun vi wr=> ∃(i v:Nat) (dk:Array Int),vi= .int .i64 (i:Int)/\Hid (i0<=i/\i<=i2+1)/\Hid (v<18446744073709551616/\Blk wr rb 337 #[.int .u64 (v:Int)])/\Hid (RowS wr g n dk tl)/\Hid (PermIn a b d dk)/\Hid (Only [g,rb] W0 wr)) (fun vi _=>i2+1- (intOf vi).toNat);case atStart=>exact⟨i0,L,d,rfl,(by have:=HQ.out;omega:i0<=i0/\i0<=i2+1),⟨by have:=HF.out;omega,X0.out⟩,R0,permIn_refl d a b,Only.refl _ _⟩
  case round=>
   obtain⟨i,v,dk,rfl,HI,hX,hR,hP,hO⟩:=hrel;by_cases hle:i<=i2
   ·have d1:(i:Int)<=(i2:Int):=by omega
    have h5:=hid hle;clear hle;go_wp2_with fail;refine(y0y rb v hX.out.1 wr hX.out.2).mono ?_;rintro e w1 ⟨⟨C,hC,rfl,h4⟩,h1⟩;obtain⟨O,hf⟩:∃O:Nat,O=C&&& (M-1):=⟨_,rfl⟩;have lO:O<=M-1:=by rw[hf];exact Nat.and_le_right
    have eM:(M:Int)-1=((M-1:Nat):Int):=by have:=HM.out;omega
    have wM:IntKind.u64.wrap ((M:Int)-1)=((M:Int)-1):=by rw[IntKind.wrap_u64];have:=HM.out;have:=HF.out;omega
    have hs:bits .and .u64 (C:Int) ((M:Int)-1)=(O:Int):=by rw[eM,bits_and_u64_nat _ _ hC (by have:=HM.out;have:=HF.out;omega),hf]
    have wO:=q2s (q:=O) (by have:=HM.out;have:=HF.out;omega);have oM:O<M:=by have:=HM.out;omega
    clear hf eM lO;by_cases hLO:L<=O
    ·have dO:(L:Int)<=(O:Int):=by omega
     obtain⟨j,hj⟩:∃j,j=a+(O-L):=⟨_,rfl⟩;have eO:(O:Int)- (L:Int)=((O-L:Nat):Int):=by omega
     have ht:=q2s (q:=O-L) (by have:=HM.out;have:=HF.out;omega);have hm:O-L<L:=by have:=HM.out;omega
     obtain⟨o2,hl⟩:∃o2,o2=O-L:=⟨_,rfl⟩;rw[<- hl] at eO ht hm hj;have ej:(a:Int)+(o2:Int)=(j:Int):=by omega
     clear hl oM;have wj:=q2s (q:=j) (by have:=HF.out;omega);have bi:i<n:=by have:=HI.out;have:=HQ.out;have:=HF.out;omega
     have bj:j<n:=by have:=HF.out;omega
     have ip:(0:Int)<=(i:Int):=by omega
     have hy:(i:Int)< (n:Int):=by omega
     have i9:(i:Int)<=1000000000:=by have:=HF.out;omega
     have jp:(0:Int)<=(j:Int):=by omega
     have jn:(j:Int)< (n:Int):=by omega
     have I:=hid (hR.out.only h1 (by simpa using NE.out.1.symm));obtain⟨x0,S⟩:∃x,x=dk[i]! :=⟨_,rfl⟩;obtain⟨xq,U⟩:∃x,x=dk[j]! :=⟨_,rfl⟩;have c0:w1.cell? ⟨g,i,none⟩=some (.int .u64 x0):=by rw[S];exact I.out.cell bi
     have cq:w1.cell? ⟨g,j,none⟩=some (.int .u64 xq):=by rw[U];exact I.out.cell bj
     have f0:=I.out.frozen i;have fq:=I.out.frozen j;have h7:=hid S;have Y:=hid U;have B0:=hid bi;have BQ:=hid bj;have ha:=hid h4;have h9:=hid (hO.out.trans h1 (fun x hx=>Or.inl (by simp at hx;simp[hx])));have HJ:=hid (show a<=j/\j<b by have:=HF.out;omega);have h3:=hid (show a<=i/\i<b by have:=HI.out;have:=HQ.out;have:=HF.out;omega);have HC:=hid hC;clear S U bi bj h4 h1 hj hC;by_cases hEq:i=j
     all_goals
      go_wp2;go_region;all_goals go_wp2
      go_roundw
      case rel=>
       refine⟨i+1,C,swp dk i j,by go_num,(⟨by have:=HI.out;omega,by have:=HI.out;have:=h5.out;omega⟩:i0<=i+1/\i+1<=i2+1),⟨HC.out,?_⟩,?_,?_,?_⟩;·exact((q2q w1 g _ _ _ _).drew).blk ha.out (by simpa using NE.out.1)
       ·first|exact(RowS.swpV I.out B0.out BQ.out h7.out Y.out).drew|(subst hEq;exact(RowS.swpV I.out B0.out BQ.out Y.out Y.out).drew)
       ·exact permIn_trans _ _ _ a b hP.out (swp_permIn dk a b i j h3.out.1 h3.out.2 HJ.out.1 HJ.out.2 (by rw[hR.out.size];exact HF.out.2.1))
       ·exact h9.out.trans ((q2q w1 g _ _ _ _).drew) (fun x hx=>Or.inl (by simp at hx;simp[hx]))
      case measure=>simp[intOf];have:=h5.out;omega
    ·have dO: ¬(L:Int)<=(O:Int):=by omega
     obtain⟨j,hj⟩:∃j,j=a+O:=⟨_,rfl⟩;have hm:O<L:=by omega
     have ej:(a:Int)+(O:Int)=(j:Int):=by omega
     have wj:=q2s (q:=j) (by have:=HF.out;omega);have bi:i<n:=by have:=HI.out;have:=HQ.out;have:=HF.out;omega
     have bj:j<n:=by have:=HF.out;omega
     have ip:(0:Int)<=(i:Int):=by omega
     have hy:(i:Int)< (n:Int):=by omega
     have i9:(i:Int)<=1000000000:=by have:=HF.out;omega
     have jp:(0:Int)<=(j:Int):=by omega
     have jn:(j:Int)< (n:Int):=by omega
     have I:=hid (hR.out.only h1 (by simpa using NE.out.1.symm));obtain⟨x0,S⟩:∃x,x=dk[i]! :=⟨_,rfl⟩;obtain⟨xq,U⟩:∃x,x=dk[j]! :=⟨_,rfl⟩;have c0:w1.cell? ⟨g,i,none⟩=some (.int .u64 x0):=by rw[S];exact I.out.cell bi
     have cq:w1.cell? ⟨g,j,none⟩=some (.int .u64 xq):=by rw[U];exact I.out.cell bj
     have f0:=I.out.frozen i;have fq:=I.out.frozen j;have h7:=hid S;have Y:=hid U;have B0:=hid bi;have BQ:=hid bj;have ha:=hid h4;have h9:=hid (hO.out.trans h1 (fun x hx=>Or.inl (by simp at hx;simp[hx])));have HJ:=hid (show a<=j/\j<b by have:=HF.out;omega);have h3:=hid (show a<=i/\i<b by have:=HI.out;have:=HQ.out;have:=HF.out;omega);have HC:=hid hC;clear S U bi bj h4 h1 hj hC;by_cases hEq:i=j
     all_goals
      go_wp2;go_region;all_goals go_wp2
      go_roundw
      case rel=>
       refine⟨i+1,C,swp dk i j,by go_num,(⟨by have:=HI.out;omega,by have:=HI.out;have:=h5.out;omega⟩:i0<=i+1/\i+1<=i2+1),⟨HC.out,?_⟩,?_,?_,?_⟩;·exact((q2q w1 g _ _ _ _).drew).blk ha.out (by simpa using NE.out.1)
       ·first|exact(RowS.swpV I.out B0.out BQ.out h7.out Y.out).drew|(subst hEq;exact(RowS.swpV I.out B0.out BQ.out Y.out Y.out).drew)
       ·exact permIn_trans _ _ _ a b hP.out (swp_permIn dk a b i j h3.out.1 h3.out.2 HJ.out.1 HJ.out.2 (by rw[hR.out.size];exact HF.out.2.1))
       ·exact h9.out.trans ((q2q w1 g _ _ _ _).drew) (fun x hx=>Or.inl (by simp at hx;simp[hx]))
      case measure=>simp[intOf];have:=h5.out;omega
   ·have d1: ¬(i:Int)<=(i2:Int):=by omega
    clear hle;go_wp2;go_end0;exact⟨⟨_,rfl⟩,⟨dk,hR.out,hP.out⟩,O0.out.trans hO.out (fun x hx=>by simp at hx;rcases hx with rfl|rfl;exact Or.inl (by simp);exact Or.inr NE.out.2)⟩
 ·have d8: ¬(8:Int)<=(L:Int):=by omega
  have H:=hid h;clear h he hb hn hL;go_enter Tryz.func224,Tryz.ntmps224;go_wp2;go_end0;exact⟨⟨_,rfl⟩,⟨d,H.out,permIn_refl d a b⟩,Only.refl _ _⟩
end
section
open Go.Sort (swp ltInt PermIn SortedIn permIn_refl permIn_trans swp_permIn permIn_mono swo_ltInt insertionSort insertionSort_holds heapSort heapSort_holds reverseRange reverseRange_holds partialInsertionSort partialInsertionSort_holds partition partition_holds partitionEqual partitionEqual_holds round_eq round_part)
structure PS (w0:World) (g n:Nat) (tl:List Value) (d0:Array Int) (a0 b0 a b:Nat) (dk:Array Int) (wr:World):Prop where
 row:RowS wr g n dk tl
 only:Only [g] w0 wr
 bel:Go.Sort.Below ltInt a b dk
 rng:a<=b/\b<=n
 fin:∀R,PermIn a b dk R->SortedIn ltInt a b R->PermIn a0 b0 d0 R/\SortedIn ltInt a0 b0 R
section
variable {w0 wr wr':World} {g n:Nat} {tl:List Value} {d0 dk dk':Array Int} {a0 b0 a b:Nat}
theorem PS.bd (h:PS w0 g n tl d0 a0 b0 a b dk wr):b<=dk.size:=by rw[h.row.size];exact h.rng.2
theorem PS.perm (h:PS w0 g n tl d0 a0 b0 a b dk wr) (hr:RowS wr' g n dk' tl) (ho:Only [g] wr wr') (hp:PermIn a b dk dk'):PS w0 g n tl d0 a0 b0 a b dk' wr':=⟨hr,h.only.trans ho (fun x hx=>Or.inl hx),h.bel.perm h.bd hp,h.rng,fun R h1 h2=>h.fin R (permIn_trans _ _ _ a b hp h1) h2⟩
theorem PS.same (h:PS w0 g n tl d0 a0 b0 a b dk wr) (ho:Only [] wr wr'):PS w0 g n tl d0 a0 b0 a b dk wr':=⟨h.row.only ho (by simp),h.only.trans ho (fun x hx=>by simp at hx),h.bel,h.rng,h.fin⟩
theorem PS.done (h:PS w0 g n tl d0 a0 b0 a b dk wr) (hr:RowS wr' g n dk' tl) (ho:Only [g] wr wr') (hp:PermIn a b dk dk') (hs:SortedIn ltInt a b dk'):
  (∃d',RowS wr' g n d' tl/\PermIn a0 b0 d0 d'/\SortedIn ltInt a0 b0 d')/\Only [g] w0 wr':=
 ⟨⟨dk',hr,h.fin dk' hp hs⟩,h.only.trans ho (fun x hx=>Or.inl hx)⟩
theorem PS.eqs (h:PS w0 g n tl d0 a0 b0 a b dk wr) {p I:Nat} {d4:Array Int} (h0:0<a) (h1:a<=p) (h2:p<b) (hn:ltInt dk[a-1]! dk[p]! =false) (hx:partitionEqual ltInt dk a b p=(I,d4))
  (hr:RowS wr' g n d4 tl) (ho:Only [g] wr wr'):a<I/\I<=b/\PS w0 g n tl d0 a0 b0 I b d4 wr':=by
 obtain⟨r1,r2,r3,r4,r5⟩:=round_eq swo_ltInt (partitionEqual_holds ltInt) h0 h1 h2 h.bd h.bel hn hx;exact⟨r1,r2,hr,h.only.trans ho (fun x hx=>Or.inl hx),r4,⟨r2,h.rng.2⟩,fun R q1 q2=>by obtain⟨q3,q4⟩:=r5 R q1 q2;exact h.fin R q3 q4⟩
end
theorem PS.left {w0 wr wr':World} {g n:Nat} {tl:List Value} {d0 dk d4:Array Int} {a0 b0 a b p I:Nat} {ap:Bool} (h:PS w0 g n tl d0 a0 b0 a b dk wr) (h1:a<=p) (h2:p<b) (hx:partition ltInt dk a b p=(I,ap,d4)) (hr:RowS wr' g n d4 tl) (ho:Only [g] wr wr'):
  a<=I/\I<b/\Go.Sort.Below ltInt a I d4/\Go.Sort.Below ltInt (I+1) b d4/\
  (∀L w2,PermIn a I d4 L->SortedIn ltInt a I L->RowS w2 g n L tl->Only [g] wr' w2->PS w0 g n tl d0 a0 b0 (I+1) b L w2)/\
  (∀L w2,PermIn (I+1) b d4 L->SortedIn ltInt (I+1) b L->RowS w2 g n L tl->Only [g] wr' w2->PS w0 g n tl d0 a0 b0 a I L w2):=by
 obtain⟨r1,r2,r3,r4,r5,r6,r7⟩:=round_part swo_ltInt (partition_holds ltInt) h1 h2 h.bd h.bel hx;have hO:=h.only.trans ho (fun x hx=>Or.inl hx);have hb:=h.rng.2;refine⟨r1,r2,r4,r5,fun L w2 q1 q2 q3 q4=> ?_,fun L w2 q1 q2 q3 q4=> ?_⟩;·obtain⟨s1,s2⟩:=r6 L q1 q2;exact⟨q3,hO.trans q4 (fun x hx=>Or.inl hx),s1,⟨by omega,hb⟩,fun R t1 t2=>by obtain⟨t3,t4⟩:=s2 R t1 t2;exact h.fin R t3 t4⟩
 ·obtain⟨s1,s2⟩:=r7 L q1 q2;exact⟨q3,hO.trans q4 (fun x hx=>Or.inl hx),s1,⟨by omega,by omega⟩,fun R t1 t2=>by obtain⟨t3,t4⟩:=s2 R t1 t2;exact h.fin R t3 t4⟩
theorem v9o:∀(N g n cap:Nat) (tl:List Value) (a b S:Nat) (d:Array Int) (w:World),b-a<N->RowS w g n d tl->a<=b->b<=n->n<=1000000000->S<=1000000000->Go.Sort.Below ltInt a b d->
  Calls Tryz.prog 192 #[.slice (some ⟨g,0,none⟩) n cap,.int .i64 (a:Int),.int .i64 (b:Int),.int .i64 (S:Int)] w fun e w'=>(∃r,e= .returned r)/\(∃d',RowS w' g n d' tl/\PermIn a b d d'/\SortedIn ltInt a b d')/\Only [g] w w':=by
 intro N
 induction N with
 | zero=>intro _ _ _ _ _ _ _ _ _ h;exact absurd h (BP _)
 | succ N ih=>
  intro g n cap tl a b S d w hN hs kh hb hn k0 hbel;have P0:=hid (show PS w g n tl d a b a b d w from⟨hs,Only.refl _ _,hbel,⟨kh,hb⟩,fun R h1 h2=>⟨h1,h2⟩⟩);have Y:=hid hn;have kc:=hid k0;have kn:=hid hN;have IH:=hid ih;clear hs kh hb hn k0 hbel hN ih;go_enter Tryz.func192,Tryz.ntmps192;go_wp2
  go_loopg [1,2,3,8,9] (b-a) (fun k s1 s2 s3 s8 s9 wr=> ∃(a' b' lim:Nat) (wb wp:Bool) (dk:Array Int),s1= .int .i64 (a':Int)/\s2= .int .i64 (b':Int)/\s3= .int .i64 (lim:Int)/\s8= .bool wb/\s9= .bool wp/\
   Hid (b'-a'<=k/\k<=b-a/\lim<=S)/\Hid (PS w g n tl d a b a' b' dk wr))
  case atStart=>exact⟨a,b,S,true,true,d,rfl,rfl,rfl,rfl,rfl,⟨AG _,AG _,AG _⟩,P0⟩
  case round=>
   obtain⟨a',b',lim,wb,wp,dk,rfl,rfl,rfl,rfl,rfl,hk,hP⟩:=hrel;obtain⟨L,hL⟩:∃L,L=b'-a':=⟨_,rfl⟩;have R9:b'<=1000000000/\a'<=b'/\lim<=1000000000:=by have:=hP.out.rng;have:=Y.out;have:=kc.out;have:=hk.out;omega
   have e1:(b':Int)- (a':Int)=(L:Int):=by omega
   have w1:=q2s (q:=L) (by omega);have a0:(0:Int)<=(a':Int):=by omega
   have a9:(a':Int)<=1000000000:=by omega
   have b9:(b':Int)<=1000000000:=by omega
   have U:=hid R9;have HL:=hid hL;by_cases h12:L<=12
   ·have k9:(L:Int)<=12:=by omega
    have hc:=hid (z9z g n cap dk tl a' b' (by omega) hP.out.rng.2 Y.out wr hP.out.row);clear R9 h12 hL;go_wp2_with fail;refine hc.out.mono ?_;rintro e w1 ⟨⟨r,rfl⟩,h3,h6⟩;have hi:=insertionSort_holds (lt:=ltInt) swo_ltInt dk a' b' (by have:=U.out;omega) hP.out.bd;have hd:=hid (hP.out.done h3 h6 hi.1 hi.2);clear h3 h6 hi hc;go_wp2
    (try simp only[Exit.inBlock,Exit.then]);refine bodyPost_ret (results_none rfl _ _ _) rfl ?_
    exact⟨⟨_,rfl⟩,hd.out⟩
   ·have k9: ¬((L:Int)<=12):=by omega
    by_cases hl0:lim=0
    ·subst hl0;have hc:=hid (x4c g n cap dk tl a' b' (by omega) hP.out.rng.2 Y.out wr hP.out.row);clear R9 h12 hL;go_wp2_with fail;refine hc.out.mono ?_;rintro e w1 ⟨⟨r,rfl⟩,h3,h6⟩;have hi:=heapSort_holds (lt:=ltInt) swo_ltInt dk a' b' (by have:=U.out;omega) hP.out.bd;have hd:=hid (hP.out.done h3 h6 hi.1 hi.2);clear h3 h6 hi hc;go_wp2
     (try simp only[Exit.inBlock,Exit.then]);refine bodyPost_ret (results_none rfl _ _ _) rfl ?_
     exact⟨⟨_,rfl⟩,hd.out⟩
    ·have zc:((lim:Int)==0)=false:=by simp;omega
     have zd: ¬((lim:Int)=0):=by omega
     have wl:=q2s (q:=lim-1) (by omega);have el:(lim:Int)-1=((lim-1:Nat):Int):=by omega
     have kb:=hid h12;clear R9 h12 hL hl0;go_upto_if 35 with fail;go_cut [3] from 19 (fun s3 wc=> ∃(O:Nat) (d2:Array Int),s3= .int .i64 (O:Int)/\Hid (O<=lim)/\Hid (PS w g n tl d a b a' b' d2 wc))
     case first=>
      cases wb;·have hc:=hid (v6n g n cap dk tl a' b' (by have:=U.out;omega) hP.out.rng.2 Y.out wr hP.out.row);go_wp2_with fail;refine hc.out.mono ?_;rintro e w1 ⟨⟨r,rfl⟩,⟨d2,h3,ko⟩,h6⟩;have hd:=hid (hP.out.perm h3 h6 ko);clear h3 h6 ko hc;go_wp2;go_meet;case rel=>exact⟨lim-1,d2,by go_num,(by omega:lim-1<=lim),hd⟩
      ·go_wp2_with fail;go_meet;case rel=>exact⟨lim,dk,rfl,AG _,hP⟩
     case rest=>
      obtain⟨O,d2,rfl,hj,k4⟩:=hcut;clear wl el;have hy:=hid (v7p g n cap d2 tl a' b' (by have:=HL.out;have:=kb.out;omega) k4.out.rng.2 Y.out wc k4.out.row);go_wp2_with fail;refine hy.out.mono ?_;rintro e w2 ⟨⟨p,I,hp,hh,rfl⟩,kq⟩;go_upto_if 50 with fail;have k5:=hid (k4.out.same (Only.of_below kq []));have HP:=hid hp;have HH:=hid hh;clear hp kq hy;go_cut [11,12] from 19 (fun ky z9 wc=> ∃(p:Nat) (I:Int) (d3:Array Int),ky= .int .i64 (p:Int)/\z9= .int .i64 I/\Hid (a'<=p/\p<b')/\Hid (PS w g n tl d a b a' b' d3 wc))
      case first=>
       by_cases h2:I=2
       ·have hc:=hid (x6z g n cap d2 tl a' b' (by have:=U.out;omega) k4.out.rng.2 Y.out w2 k5.out.row);have t2:(I==2)=true:=by simp[h2]
        obtain⟨q,hq⟩:∃q,q=(b'-1)- (p-a'):=⟨_,rfl⟩;have kj:(b':Int)-1- ((p:Int)- (a':Int))=(q:Int):=by have:=HP.out;omega
        have wq:=q2s (q:=q) (by have:=U.out;omega);have zk:=q2s (q:=b'-1) (by have:=U.out;omega);have zh:=q2s (q:=p-a') (by have:=U.out;have:=HP.out;omega);have zg:(b':Int)-1=((b'-1:Nat):Int):=by have:=HP.out;omega
        have ze:(p:Int)- (a':Int)=((p-a':Nat):Int):=by have:=HP.out;omega
        have zf:((b'-1:Nat):Int)- ((p-a':Nat):Int)=(q:Int):=by have:=HP.out;omega
        have HQ:=hid hq;have zi:=hid h2;clear hq h2 kj;go_wp2_with fail;refine hc.out.mono ?_;rintro e w3 ⟨⟨r,rfl⟩,kp,kf⟩;have hd:=hid (k5.out.perm kp kf (reverseRange_holds d2 a' b' (by have:=U.out;omega) k5.out.bd));clear kp kf hc;go_wp2;go_meet;case rel=>exact⟨q,1,_,rfl,rfl,(by have:=HQ.out;have:=HP.out;omega:a'<=q/\q<b'),hd⟩
       ·have t2:(I==2)=false:=by simp[h2]
        clear h2;go_wp2_with fail;go_meet;case rel=>exact⟨p,I,d2,rfl,rfl,HP,k5⟩
      case rest=>
       obtain⟨p,I,d3,rfl,rfl,hp,h7⟩:=hcut;go_upto_region 15 with fail;go_cut [68] from 19 (fun z5 wx=> ∃t:Bool,z5= .bool t/\wx=wc)
       case first=>
        by_cases h1:I=1
        ·have t1:(I==1)=true:=by simp[h1]
         clear h1
         cases wb<;>cases wp<;>
          (go_wp2_with fail
           go_meet;exact⟨_,rfl,rfl⟩)
        ·have t1:(I==1)=false:=by simp[h1]
         clear h1
         cases wb<;>cases wp<;>
          (go_wp2_with fail
           go_meet;exact⟨_,rfl,rfl⟩)
       case rest=>
        obtain⟨t,rfl,rfl⟩:=hcut;go_upto_if 68 with fail;go_cut [] from 19 (fun wx=> ∃d4:Array Int,Hid (PS w g n tl d a b a' b' d4 wx))
        case first=>
         cases t;·go_wp2_with fail;go_meet;case rel=>exact⟨d3,h7⟩
         ·have hc:=hid (x6j g n cap d3 tl a' b' (by have:=HL.out;have:=kb.out;omega) h7.out.rng.2 Y.out _ h7.out.row);have k1:=hid (partialInsertionSort_holds (lt:=ltInt) swo_ltInt d3 a' b' (by have:=HL.out;have:=kb.out;omega) h7.out.bd h7.out.bel);obtain⟨rr,km⟩:∃rr,rr=partialInsertionSort ltInt d3 a' b':=⟨_,rfl⟩;rw[<- km] at hc k1;clear km;obtain⟨d4,r⟩:=rr;go_wp2_with fail;refine hc.out.mono ?_;rintro e w4 ⟨rfl,ki,kd⟩;have ke:=hid ki;have kk:=hid kd;clear hc ki kd;cases r;·go_wp2;go_meet;exact⟨d4,h7.out.perm ke.out kk.out k1.out.1⟩
          ·have hd:=hid (h7.out.done ke.out kk.out k1.out.1 (k1.out.2 rfl));go_wp2
           (try simp only[Exit.inBlock,Exit.then]);refine bodyPost_ret (results_none rfl _ _ _) rfl ?_
           exact⟨⟨_,rfl⟩,hd.out⟩
        case rest=>
         obtain⟨d4,ha⟩:=hcut;obtain⟨xp,hr⟩:∃x,x=d4[p]! :=⟨_,rfl⟩;obtain⟨q,hq⟩:∃q,q=a'-1:=⟨_,rfl⟩;obtain⟨xq,hm⟩:∃x,x=d4[q]! :=⟨_,rfl⟩;have za:=hid hr;have z6:=hid hm;go_upto_region 17 with fail;go_cut [87] from 19 (fun z7 wx=> ∃t:Bool,z7= .bool t/\Hid (t=true->0<a'/\ltInt d4[a'-1]! d4[p]! =false)/\Hid (PS w g n tl d a b a' b' d4 wx))
         case first=>
          rcases Bt a' with k3|k3;·have k7:decide ((0:Int)< (a':Int))=false:=AK (by omega);have k8:decide (0<a')=false:=AK (by omega);clear hr hm hq k3;go_wp2_with fail;go_quiet (first|(go_at_call 228;exact Calls.quiet_of_same (q2n _ _ _)));go_wp2_with fail;go_meet;case rel=>exact⟨false,rfl,(fun h=>by cases h),ha.out.same ((Only.refl _ _).drewN _)⟩
          ·have k7:decide ((0:Int)< (a':Int))=true:=AT (by omega);have k8:decide (0<a')=true:=AT (by omega);have zb:(0:Int)< (a':Int):=by omega
           have kj:(a':Int)-1=(q:Int):=by omega
           have wq:=q2s (q:=q) (by omega);have qn:(q:Int)< (n:Int):=by have:=ha.out.rng;omega
           have q0:(0:Int)<=(q:Int):=by omega
           have pn:(p:Int)< (n:Int):=by have:=ha.out.rng;have:=hp.out;omega
           have p0:(0:Int)<=(p:Int):=by omega
           have cq:wc.cell? ⟨g,q,none⟩=some (.int .u64 xq):=by rw[hm];exact ha.out.row.cell (by omega)
           have cp:wc.cell? ⟨g,p,none⟩=some (.int .u64 xp):=by rw[hr];exact ha.out.row.cell (by omega)
           have HQ:=hid hq;have z8:=hid k3;clear hr hm hq k3;go_wp2_with fail;go_quiet (first|(go_at_call 228;exact Calls.quiet_of_same (q2n _ _ _)));go_wp2_with fail;go_meet;case rel=>exact⟨_,rfl,(fun h=>⟨z8.out,by rw[<- HQ.out,<- z6.out,<- za.out];simpa using h⟩),ha.out.same ((Only.refl _ _).drewN _)⟩
         case rest=>
          obtain⟨t,rfl,ht,h5⟩:=hcut;clear hr hm hq;replace ht:t=true->Hid (0<a'/\ltInt d4[a'-1]! d4[p]! =false):=ht.out;cases t
          ·obtain⟨M,ap,d5,hx⟩:∃M ap d5,partition ltInt d4 a' b' p=(M,ap,d5):=⟨_,_,_,rfl⟩;have hc:=v8f g n cap d4 tl a' b' p hp.out.1 hp.out.2 h5.out.rng.2 Y.out _ h5.out.row;rw[hx] at hc;have HC:=hid hc;have HX:=hid hx;clear hc hx;go_wp2_with fail;refine HC.out.mono ?_;rintro e w7 ⟨rfl,hg,h8⟩;obtain⟨m1,m2,m3,m4,mL,mR⟩:=h5.out.left hp.out.1 hp.out.2 HX.out hg h8;have kx:=hid hg;have zm:=hid h8;have HM:=hid (show a'<=M/\M<b' from⟨m1,m2⟩);have ML:=hid mL;have MR:=hid mR;have M3:=hid m3;have M4:=hid m4;obtain⟨ll,kr⟩:∃ll,ll=M-a':=⟨_,rfl⟩;obtain⟨lr,kg⟩:∃lr,lr=b'-M:=⟨_,rfl⟩;obtain⟨th,z0⟩:∃th,th=L/8:=⟨_,rfl⟩;have v1:(M:Int)- (a':Int)=(ll:Int):=by omega
           have v2:(b':Int)- (M:Int)=(lr:Int):=by omega
           have v3:((L:Int)).tdiv 8=(th:Int):=by rw[Bg (by omega)];omega
           have z1:=q2s (q:=ll) (by have:=U.out;omega);have z2:=q2s (q:=lr) (by have:=U.out;omega);have z3:=q2s (q:=th) (by have:=U.out;have:=HL.out;omega);obtain⟨mm,kt⟩:∃mm,mm=M+1:=⟨_,rfl⟩;have z4:=q2s (q:=mm) (by have:=U.out;have:=HM.out;omega);have e4:(M:Int)+1=(mm:Int):=by omega
           have hf:=hid kt;have zj:=hid kr;have zl:=hid kg;clear hg h8 m1 m2 m3 m4 mL mR kr kg z0 HC kt;by_cases h4:ll<lr
           ·have kz:(ll:Int)< (lr:Int):=by omega
            have ho:=hid (IH.out g n cap tl a' M O d5 w7 (by have:=HM.out;have:=kn.out;have:=hk.out;omega) kx.out HM.out.1 (by have:=HM.out;have:=h5.out.rng;omega) Y.out (by have:=hj.out;have:=U.out;omega) M3.out);clear h4;go_wp2_with fail;refine ho.out.mono ?_;rintro e w8 ⟨⟨r8,rfl⟩,⟨d6,hz,h9,he⟩,hl⟩;have M8:=hid (ML.out d6 w8 h9 he hz hl);clear ho hz h9 he hl;go_wp2;go_roundg (b'- (M+1));case measure=>have:=HM.out;have:=hk.out;omega
            case rel=>exact⟨mm,b',O,_,ap,d6,rfl,rfl,rfl,rfl,rfl,⟨by have:=hf.out;omega,by have:=HM.out;have:=hk.out;omega,AH hj.out hk.out.2.2⟩,by rw[hf.out];exact M8⟩
           ·have kz: ¬(ll:Int)< (lr:Int):=by omega
            have ho:=hid (IH.out g n cap tl mm b' O d5 w7 (by have:=HM.out;have:=hf.out;have:=kn.out;have:=hk.out;omega) kx.out (by have:=HM.out;have:=hf.out;omega) h5.out.rng.2 Y.out (by have:=hj.out;have:=U.out;omega) (by rw[hf.out];exact M4.out));clear h4;go_wp2_with fail;refine ho.out.mono ?_;rintro e w8 ⟨⟨r8,rfl⟩,⟨d6,hz,h9,he⟩,hl⟩;rw[hf.out] at h9 he;have M8:=hid (MR.out d6 w8 h9 he hz hl);clear ho hz h9 he hl;go_wp2;go_roundg (M-a');case measure=>have:=HM.out;have:=hk.out;omega
            case rel=>exact⟨a',M,O,_,ap,d6,rfl,rfl,rfl,rfl,rfl,⟨AG _,by have:=HM.out;have:=hk.out;omega,AH hj.out hk.out.2.2⟩,M8⟩
          ·have HT:=ht rfl;clear ht;obtain⟨M,d5,hx⟩:∃M d5,partitionEqual ltInt d4 a' b' p=(M,d5):=⟨_,_,rfl⟩;have hc:=v3p g n cap d4 tl a' b' p hp.out.1 hp.out.2 h5.out.rng.2 Y.out _ h5.out.row;rw[hx] at hc;have HC:=hid hc;have HX:=hid hx;clear hc hx;go_wp2_with fail;refine HC.out.mono ?_;rintro e w7 ⟨rfl,hg,h8⟩;obtain⟨m1,m2,m3⟩:=h5.out.eqs HT.out.1 hp.out.1 hp.out.2 HT.out.2 HX.out hg h8;have HM:=hid (show a'<M/\M<=b' from⟨m1,m2⟩);have M3:=hid m3;clear hg h8 m1 m2 m3 HC;go_wp2;go_roundg (b'-M);case measure=>have:=HM.out;have:=hk.out;omega
           case rel=>exact⟨M,b',O,wb,wp,d5,rfl,rfl,rfl,rfl,rfl,⟨AG _,by have:=HM.out;have:=hk.out;omega,AH hj.out hk.out.2.2⟩,M3⟩
theorem v8n (g n cap:Nat) (tl:List Value) (d:Array Int) (w:World) (h:RowS w g n d tl) (hn:n<=1000000000):
  Calls Tryz.prog 133 #[.slice (some ⟨g,0,none⟩) n cap] w fun e w'=>(∃r,e= .returned r)/\(∃d',RowS w' g n d' tl/\PermIn 0 n d d'/\SortedIn ltInt 0 n d')/\Only [g] w w':=by
 have hL:=hid (v5q (n:Int) w (by omega) (by omega));have I:Lib.bitLen (n:Int).toNat<=1000000000:=by rw[BG,x0l n (by omega)];have:=(Go.Sort.bitsLen_le_iff n 62).2 (by omega);omega
 obtain⟨lb,L⟩:∃lb,lb=Lib.bitLen (n:Int).toNat:=⟨_,rfl⟩;rw[<- L] at hL I;have hP:=hid (v9o (n+1) g n cap tl 0 n lb d w (by omega) h (Af _) (AG _) hn I (Or.inl rfl));have n0:(0:Int)<=(n:Int):=by omega
 have n9:(n:Int)<=1000000000:=by omega
 clear L h hn I;go_enter Tryz.func133,Tryz.ntmps133;go_wp2_with fail;refine hL.out.mono ?_;rintro e w1 ⟨rfl,rfl⟩;go_wp2_with fail;refine hP.out.mono ?_;rintro e w2 ⟨⟨r,rfl⟩,h2⟩;have H2:=hid h2;clear h2;go_wp2;go_end0;exact⟨⟨_,rfl⟩,H2.out⟩
theorem z9h (w:World):Calls Tryz.prog 222 #[.slice none 0 0,.int .i64 0,.int .i64 0] w fun e w'=>(∃r,e= .returned r)/\w=w':=by
 go_enter Tryz.func222,Tryz.ntmps222;go_wp2;go_loopw [6] (fun v wr=>v= .int .i64 1/\w=wr) (fun _ _=>0);case atStart=>exact⟨rfl,rfl⟩
 case round=>obtain⟨rfl,rfl⟩:=hrel;go_wp2;go_end0;exact⟨⟨_,rfl⟩,rfl⟩
theorem v0d (w:World) (k:Int):Calls Tryz.prog 192 #[.slice none 0 0,.int .i64 0,.int .i64 0,.int .i64 k] w fun e w'=>(∃r,e= .returned r)/\w=w':=by
 go_enter Tryz.func192,Tryz.ntmps192;go_wp2;go_loopg [1,2,3,8,9] 0 (fun n s1 s2 s3 s8 s9 wr=>s1= .int .i64 0/\s2= .int .i64 0/\s3= .int .i64 k/\s8= .bool true/\s9= .bool true/\w=wr);case atStart=>exact⟨rfl,rfl,rfl,rfl,rfl,rfl⟩
 case round=>
  obtain⟨rfl,rfl,rfl,rfl,rfl,rfl⟩:=hrel;go_wp2_with fail;refine(z9h w).mono ?_;rintro e w1 ⟨⟨r,rfl⟩,rfl⟩;go_wp2
  (try simp only[Exit.inBlock,Exit.then]);refine bodyPost_ret (results_none rfl _ _ _) rfl ?_
  exact⟨⟨_,rfl⟩,rfl⟩
theorem x7r (w:World):Calls Tryz.prog 133 #[.slice none 0 0] w fun e w'=>(∃r,e= .returned r)/\w=w':=by have hL:=hid (v5q 0 w (by omega) (by omega));obtain⟨lb,I⟩:∃lb,lb=Lib.bitLen (0:Int).toNat:=⟨_,rfl⟩;rw[<- I] at hL;clear I;go_enter Tryz.func133,Tryz.ntmps133;go_wp2_with fail;refine hL.out.mono ?_;rintro e w1 ⟨rfl,rfl⟩;go_wp2_with fail;refine(v0d _ _).mono ?_;rintro e w2 ⟨⟨r,rfl⟩,rfl⟩;go_wp2;go_end0;exact⟨⟨_,rfl⟩,rfl⟩
theorem x0q (d d':Array Int) (n:Nat) (hn:d.size=n) (h1:PermIn 0 n d d') (h2:SortedIn ltInt 0 n d'):d'.toList.Perm d.toList/\d'.toList.Pairwise (· <= ·):=by
 subst hn;obtain⟨s1,s2,s3⟩:=h1;have e1:(d'.extract 0 d.size).toList=d'.toList:=by rw[<- s1];simp
 have e2:(d.extract 0 d.size).toList=d.toList:=by simp
 rw[e1,e2] at s3;refine⟨s3,CX.2 fun i j hi hj I=> ?_⟩;simp only[Array.length_toList] at hi hj;have h3:=h2 i j (Af _) I (by omega);rw[getElem!_pos d' j hj,getElem!_pos d' i hi] at h3;simp only[ltInt,decide_eq_false_iff_not] at h3;simp only[Array.getElem_toList];omega
end
end Go.Proofs.YtibiekfjbibpbaaGreat
