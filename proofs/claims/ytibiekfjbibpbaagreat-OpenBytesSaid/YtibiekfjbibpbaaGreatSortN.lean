/- A row of addresses sorted: a few out of place. -/
import Derived.Test.YtibiekfjbibpbaaGreatSortM
import Derived.Lib.BitFns
import Derived.Lib.ItoaNum
import Derived.Lib.Strings
import Derived.Lib.Slices
import Derived.Lib.Small
import Derived.Lib.Walk
import Derived.Laws.Bits64b
import Derived.Sort.LotD5
import Derived.Sort.Row
import Derived.Deep.Cut
set_option maxRecDepth 1000000
set_option maxHeartbeats 8000000
set_option linter.unusedVariables false
set_option linter.unusedSimpArgs false
namespace Go.Proofs.YtibiekfjbibpbaaGreat
open Go.RowKit
section
open Go.Sort (swp ltInt scanSorted shiftDown shiftUp fixDown fixUp partialIns partialInsertionSort)
theorem sorted_go (d:Array Int) (b t q:Nat) (hq:t=q+1) (h:t<b) (hp:ltInt d[t]! d[q]! =false):scanSorted ltInt d b t=scanSorted ltInt d b (t+1):=by
 subst hq;rw[scanSorted,if_pos (by simp[h,hp])]
theorem sorted_stop (d:Array Int) (b t q:Nat) (hq:t=q+1) (h:t<b→ltInt d[t]! d[q]! =true):scanSorted ltInt d b t=t:=by
 subst hq;rw[scanSorted,if_neg];intro hc;simp at hc;rw[h hc.1] at hc;simp at hc
theorem down_go2 (d:Array Int) (j:Nat) (h:ltInt d[j+1]! d[j]! =true):shiftDown ltInt (j+1) d=shiftDown ltInt j (swp d (j+1) j):=by rw[shiftDown,if_neg (by simp[h])]
theorem down_stop2 (d:Array Int) (j:Nat) (h:ltInt d[j+1]! d[j]! =false):shiftDown ltInt (j+1) d=d:=by rw[shiftDown,if_pos (by simp[h])]
theorem up_go2 (d:Array Int) (b j:Nat) (hb:j+1<b) (h:ltInt d[j+1]! d[j]! =true):shiftUp ltInt b (j+1) d=shiftUp ltInt b (j+2) (swp d (j+1) j):=by rw[shiftUp,if_pos hb,if_neg (by simp[h])];rfl
theorem up_stop2 (d:Array Int) (b j:Nat) (h:j+1<b→ltInt d[j+1]! d[j]! =false):shiftUp ltInt b (j+1) d=d:=by
 rw[shiftUp]
 by_cases hb:j+1<b
 ·rw[if_pos hb,if_pos (by simp[h hb])]
 ·rw[if_neg hb]
theorem sorted_ge (d:Array Int) (b:Nat): ∀(m i:Nat),b-i=m→i≤b→i≤scanSorted ltInt d b i∧scanSorted ltInt d b i≤b:=by
 intro m
 induction m with
 | zero=>
  intro i hm hi
  rw[scanSorted,if_neg (by simp;omega)]
  exact⟨Nat.le_refl _,hi⟩
 | succ m ih=>
  intro i hm hi
  rw[scanSorted]
  split
  ·have:=ih (i+1) (by omega) (by omega)
   omega
  ·exact⟨Nat.le_refl _,hi⟩
theorem partial_s (g n cap:Nat) (d:Array Int) (tl:List Value) (a b:Nat) (hab:a<b) (hb:b≤n) (hn:n≤1000000000) (w:World) (h:RowS w g n d tl):
  Calls Tryz.prog 227 #[.slice (some ⟨g,0,none⟩) n cap,.int .i64 (a:Int),.int .i64 (b:Int)] w fun e w'=>
   e= .returned (.bool (partialInsertionSort ltInt d a b).2)∧RowS w' g n (partialInsertionSort ltInt d a b).1 tl∧Only [g] w w':=by
 have a9:(a:Int)≤1000000000:=by omega
 have b9:(b:Int)≤1000000000:=by omega
 have H:=hid h
 have AB:=hid hab
 have BN:=hid hb
 have HN:=hid hn
 clear h hab hb hn
 go_enter Tryz.func227,Tryz.ntmps227
 go_wp2
 go_loopw [7,8] (fun vi vj wr=> ∃(i s:Nat) (dk:Array Int),vi= .int .i64 i∧vj= .int .i64 ((5-s:Nat):Int)∧Hid (a<i∧i≤b∧s≤5)∧Hid (RowS wr g n dk tl)∧Hid (Only [g] w wr)∧
   Hid (partialIns ltInt a b s i dk=partialInsertionSort ltInt d a b)) (fun vi vj _=>5- (intOf vj).toNat)
 case atStart=>exact⟨a+1,5,d,by go_num,rfl,(by have:=AB.out;omega:a<a+1∧a+1≤b∧5≤5),H,Only.refl _ _,rfl⟩
 case round=>
  obtain⟨i,s,dk,rfl,rfl,hij,hR,hO,hI⟩:=hrel
  have hnl:=HN.out
  cases s with
  | zero=>
   have e:Hid ((dk,false)=partialInsertionSort ltInt d a b):=hI
   go_wp2
   go_ret
   rw[←e.out]
   exact⟨rfl,hR.out,hO.out⟩
  | succ s=>
   obtain⟨z,hz⟩: ∃z,z=5- (s+1):=⟨_,rfl⟩
   rw[←hz]
   have z9:(z:Int)<5:=by omega
   have z0:(0:Int)≤(z:Int):=by omega
   have HZ:=hid hz
   clear hz
   go_upto_block 2 with fail
   go_cut [7] (fun s9 wc=> ∃i2:Nat,s9= .int .i64 i2∧Hid (i2=scanSorted ltInt dk b i)∧Hid (RowS wc g n dk tl)∧Hid (Only [g] w wc))
   case first=>
    go_wp2_with fail
    go_loopw [7] (fun vi wx=> ∃(t:Nat),vi= .int .i64 t∧Hid (i≤t∧t≤b)∧Hid (RowS wx g n dk tl)∧Hid (Only [g] w wx)∧Hid (scanSorted ltInt dk b t=scanSorted ltInt dk b i)) (fun vi _=>b- (intOf vi).toNat)
    case atStart=>exact⟨i,rfl,(⟨Nat.le_refl _,hij.out.2.1⟩:i≤i∧i≤b),hR,hO,rfl⟩
    case round=>
     obtain⟨t,rfl,ht,hR1,hO1,hT⟩:=hrel
     obtain⟨q,hq⟩: ∃q,t=q+1:=⟨t-1,by have:=ht.out.1;have:=hij.out.1;omega⟩
     have e1:(t:Int)-1=(q:Int):=by omega
     have t9:(t:Int)≤1000000000:=by have:=ht.out.2;omega
     have t0:(0:Int)≤(t:Int):=by omega
     have q0:(0:Int)≤(q:Int):=by omega
     have wq:=wrapN (q:=q) (by omega)
     have HQ:=hid hq
     by_cases htj:t<b
     ·have d1:decide ((t:Int)< (b:Int))=true:=by simp;omega
      have d2:(t:Int)< (b:Int):=by omega
      have bt:t<n:=by have:=BN.out;omega
      have tn:(t:Int)< (n:Int):=by omega
      have qn:(q:Int)< (n:Int):=by omega
      obtain⟨x0,hx0⟩: ∃x,x=dk[t]! :=⟨_,rfl⟩
      obtain⟨xq,hxq⟩: ∃x,x=dk[q]! :=⟨_,rfl⟩
      have c0:wr.cell? ⟨g,t,none⟩=some (.int .u64 x0):=by rw[hx0];exact hR1.out.cell bt
      have cq:wr.cell? ⟨g,q,none⟩=some (.int .u64 xq):=by rw[hxq];exact hR1.out.cell (by omega)
      have HX0:=hid hx0
      have HXQ:=hid hxq
      have HTJ:=hid htj
      clear hx0 hxq htj bt hq
      go_wp2_with fail
      go_quiet (first | (go_at_call 228;exact Calls.quiet_of_same (Less_s _ _ _)))
      go_wp2
      ·have hl:ltInt x0 xq=false:=not_t (by assumption)
       go_roundw
       case rel=>
        refine⟨t+1,by go_num,(by have:=ht.out;have:=HTJ.out;omega:i≤t+1∧t+1≤b),hR1.out.drewN _,hO1.out.drewN _,?_⟩
        show scanSorted ltInt dk b (t+1)=_
        rw[←hT.out,←sorted_go dk b t q HQ.out HTJ.out (by rw[←HX0.out,←HXQ.out];exact hl)]
       case measure=>first | (simp[intOf];done) | (simp[intOf];omega)
      ·have hl:ltInt x0 xq=true:=not_f (by assumption)
       go_meet
       case rel=>
        refine⟨t,rfl,?_,hR1.out.drewN _,hO1.out.drewN _⟩
        show t=_
        rw[←hT.out,sorted_stop dk b t q HQ.out (fun _=>by rw[←HX0.out,←HXQ.out];exact hl)]
     ·have d1:decide ((t:Int)< (b:Int))=false:=by simp;omega
      have d2:decide (t<b)=false:=by simp;omega
      have HTJ:=hid htj
      clear htj hq
      go_wp2_with fail
      go_quiet (first | (go_at_call 228;exact Calls.quiet_of_same (Less_s _ _ _)))
      go_wp2
      go_meet
      case rel=>
       refine⟨t,rfl,?_,hR1.out.drewN _,hO1.out.drewN _⟩
       show t=_
       rw[←hT.out,sorted_stop dk b t q HQ.out (fun h=>absurd h HTJ.out)]
   case rest=>
    obtain⟨i2,rfl,hi2,hR2,hO2⟩:=hcut
    have hib:Hid (i≤i2∧i2≤b):=by
     have:=sorted_ge dk b _ i rfl hij.out.2.1
     rw[←hi2.out] at this
     exact this
    have heq:=hid (Go.Sort.partialIns_succ (lt:=ltInt) a b s i dk)
    rw[←hi2.out] at heq
    by_cases hend:i2=b
    ·have d1:((i2:Int)==(b:Int))=true:=by simp[hend]
     have e:=heq.out
     rw[if_pos hend,hI.out] at e
     have E:=hid e
     clear e hend
     go_wp2
     go_ret
     rw[E.out]
     exact⟨rfl,hR2.out,hO2.out⟩
    ·have d1:((i2:Int)==(b:Int))=false:=by simp;omega
     have HEND:=hid hend
     by_cases h50:b-a<50
     ·have d2:(b:Int)- (a:Int)<50:=by have:=AB.out;omega
      have e:=heq.out
      rw[if_neg hend,if_pos h50,hI.out] at e
      have E:=hid e
      clear e hend h50
      go_wp2
      go_ret
      rw[E.out]
      exact⟨rfl,hR2.out,hO2.out⟩
     ·have d2: ¬(b:Int)- (a:Int)<50:=by have:=AB.out;omega
      have e:=heq.out
      rw[if_neg hend,if_neg h50,hI.out] at e
      have E:=hid e
      obtain⟨q,hq⟩: ∃q,i2=q+1:=⟨i2-1,by have:=hib.out.1;have:=hij.out.1;omega⟩
      have e1:(i2:Int)-1=(q:Int):=by omega
      have bi:i2<n:=by have:=hib.out.2;have:=BN.out;omega
      have bq:q<n:=by omega
      have i20:(0:Int)≤(i2:Int):=by omega
      have i29:(i2:Int)≤1000000000:=by omega
      have i2n:(i2:Int)< (n:Int):=by omega
      have q0:(0:Int)≤(q:Int):=by omega
      have qn:(q:Int)< (n:Int):=by omega
      have wq:=wrapN (q:=q) (by omega)
      have HQ:=hid hq
      obtain⟨x0,hx0⟩: ∃x,x=dk[i2]! :=⟨_,rfl⟩
      obtain⟨xq,hxq⟩: ∃x,x=dk[q]! :=⟨_,rfl⟩
      have c0:wc.cell? ⟨g,i2,none⟩=some (.int .u64 x0):=by rw[hx0];exact hR2.out.cell bi
      have cq:wc.cell? ⟨g,q,none⟩=some (.int .u64 xq):=by rw[hxq];exact hR2.out.cell bq
      have f0:=hR2.out.frozen i2
      have fq:=hR2.out.frozen q
      obtain⟨yq,hyq⟩: ∃y,(wc.setCell ⟨g,i2,none⟩ (.int .u64 xq)).cell? ⟨g,q,none⟩=some (.int .u64 y):=⟨_,(hR2.out.set_ xq bi).cell bq⟩
      have fq2:=(hR2.out.set_ xq bi).frozen q
      have HX0:=hid hx0
      have HXQ:=hid hxq
      have BI:=hid bi
      have BQ:=hid bq
      have HI2:=hid (show a<i2∧i2<b by have:=hib.out;have:=hij.out;omega)
      clear hx0 hxq bi bq hq e hend h50 heq hI hR hO
      go_upto_region 11 with fail
      go_region
      obtain⟨d1k,hd1k⟩: ∃D,D=swp dk i2 q:=⟨_,rfl⟩
      have R3:=hid (RowS.swpV hR2.out.drew BI.out BQ.out HX0.out HXQ.out)
      have O3:=hid (hO2.out.drew.trans (only_two _ g i2 q (Value.int .u64 xq) (Value.int .u64 x0)) (fun x hx=>Or.inl hx))
      rw[←hd1k] at R3
      have E2:Hid (partialIns ltInt a b s i2 (fixUp ltInt b i2 (fixDown ltInt a i2 d1k))=partialInsertionSort ltInt d a b):=by
       show partialIns ltInt a b s i2 (fixUp ltInt b i2 (fixDown ltInt a i2 d1k))=_
       rw[E.out,hd1k,show i2-1=q by have:=HQ.out;omega]
      clear hd1k E hR2 hO2 c0 cq f0 fq hyq fq2 HX0 HXQ
      go_upto_if 61 with fail
      go_cut [] (fun wc=>Hid (RowS wc g n (fixDown ltInt a i2 d1k) tl)∧Hid (Only [g] w wc))
      case first=>
       by_cases h2:i2-a≥2
       ·have d3:(i2:Int)- (a:Int)≥2:=by omega
        have ef:Hid (fixDown ltInt a i2 d1k=shiftDown ltInt q d1k):=by
         show fixDown ltInt a i2 d1k=_
         unfold fixDown
         rw[if_pos h2,show i2-1=q by have:=HQ.out;omega]
        clear h2
        go_wp2
        go_loopw [9] (fun vj wx=> ∃(t:Nat) (dt:Array Int),vj= .int .i64 t∧Hid (t≤q)∧Hid (RowS wx g n dt tl)∧Hid (Only [g] w wx)∧Hid (shiftDown ltInt t dt=shiftDown ltInt q d1k)) (fun vj _=>(intOf vj).toNat)
        case atStart=>exact⟨q,d1k,rfl,Nat.le_refl _,R3,O3,rfl⟩
        case round=>
         obtain⟨t,dt,rfl,ht,hR4,hO4,hT⟩:=hrel
         by_cases ht0:t=0
         ·subst ht0
          have hT0:Hid (dt=shiftDown ltInt q d1k):=hT
          go_wp2
          go_meet
          case rel=>
           refine⟨?_,hO4⟩
           rw[ef.out,←hT0.out];exact hR4
         ·obtain⟨r,hr⟩: ∃r,t=r+1:=⟨t-1,by omega⟩
          have e2:(t:Int)-1=(r:Int):=by omega
          have bt:t<n:=by have:=ht.out;have:=BQ.out;omega
          have br:r<n:=by omega
          have t1:(1:Int)≤(t:Int):=by omega
          have t1':(t:Int)≥1:=by omega
          have t9:(t:Int)≤1000000000:=by omega
          have tn:(t:Int)< (n:Int):=by omega
          have r0:(0:Int)≤(r:Int):=by omega
          have rn:(r:Int)< (n:Int):=by omega
          have wr_:=wrapN (q:=r) (by omega)
          obtain⟨x0,hx0⟩: ∃x,x=dt[t]! :=⟨_,rfl⟩
          obtain⟨xq,hxq⟩: ∃x,x=dt[r]! :=⟨_,rfl⟩
          have c0:wr.cell? ⟨g,t,none⟩=some (.int .u64 x0):=by rw[hx0];exact hR4.out.cell bt
          have cq:wr.cell? ⟨g,r,none⟩=some (.int .u64 xq):=by rw[hxq];exact hR4.out.cell br
          have HX0:=hid hx0
          have HXQ:=hid hxq
          have BT:=hid bt
          have BR:=hid br
          have HR_:=hid hr
          clear hx0 hxq bt br hr ht0
          go_wp2_with fail
          go_quiet (first | (go_at_call 228;exact Calls.quiet_of_same (Less_s _ _ _)))
          go_wp2_with fail
          ·have hl:ltInt x0 xq=false:=not_t (by assumption)
           go_meet
           case rel=>
            refine⟨?_,hO4.out.drewN _⟩
            rw[ef.out,←hT.out,HR_.out,down_stop2 dt r (by rw[←HXQ.out];have:=HX0.out;rw[HR_.out] at this;rw[←this];exact hl)]
            exact hR4.out.drewN _
          ·have hl:ltInt x0 xq=true:=not_f (by assumption)
           have HL:=hid hl
           clear hl
           revert nq
           intro nq1
           have R5:Hid (RowS (wr.drewN nq1) g n dt tl):=hR4.out.drewN nq1
           have O5:Hid (Only [g] w (wr.drewN nq1)):=hO4.out.drewN nq1
           clear c0 cq hR4 hO4
           generalize wr.drewN nq1=wr2 at R5 O5 ⊢
           have c0:wr2.cell? ⟨g,t,none⟩=some (.int .u64 x0):=by rw[HX0.out];exact R5.out.cell BT.out
           have cq:wr2.cell? ⟨g,r,none⟩=some (.int .u64 xq):=by rw[HXQ.out];exact R5.out.cell BR.out
           have f0:=R5.out.frozen t
           have fq:=R5.out.frozen r
           obtain⟨yq,hyq⟩: ∃y,(wr2.setCell ⟨g,t,none⟩ (.int .u64 xq)).cell? ⟨g,r,none⟩=some (.int .u64 y):=⟨_,(R5.out.set_ xq BT.out).cell BR.out⟩
           have fq2:=(R5.out.set_ xq BT.out).frozen r
           go_region
           all_goals go_wp2
           go_roundw
           case rel=>
            refine⟨r,_,rfl,(by have:=ht.out;have:=HR_.out;omega:r≤q),RowS.swpV R5.out.drew BT.out BR.out HX0.out HXQ.out,O5.out.drew.trans (only_two _ g _ _ _ _) (fun x hx=>Or.inl hx),?_⟩
            show shiftDown ltInt r (swp dt t r)=_
            rw[←hT.out,HR_.out,←down_go2 dt r (by rw[←HXQ.out];have:=HX0.out;rw[HR_.out] at this;rw[←this];exact HL.out)]
           case measure=>have:=HR_.out;first | (simp[intOf];done) | (simp[intOf];omega)
       ·have d3: ¬(i2:Int)- (a:Int)≥2:=by omega
        have ef:Hid (fixDown ltInt a i2 d1k=d1k):=by
         show fixDown ltInt a i2 d1k=_
         unfold fixDown
         rw[if_neg h2]
        clear h2
        go_wp2
        go_meet
        case rel=>
         refine⟨?_,O3⟩
         rw[ef.out];exact R3
      case rest=>
       obtain⟨R6,O6⟩:=hcut
       clear R3 O3
       obtain⟨d2k,hd2k⟩: ∃D,D=fixDown ltInt a i2 d1k:=⟨_,rfl⟩
       rw[←hd2k] at E2 R6
       clear hd2k
       have OUT:Hid (∀W,RowS W g n (fixUp ltInt b i2 d2k) tl→Only [g] w W→ ∃i' s' dk',Value.int .i64 (i2:Int)= .int .i64 (i':Nat)∧Value.int .i64 ((z:Int)+1)= .int .i64 ((5-s':Nat):Int)∧Hid (a<i'∧i'≤b∧s'≤5)∧Hid (RowS W g n dk' tl)∧Hid (Only [g] w W)∧Hid (partialIns ltInt a b s' i' dk'=partialInsertionSort ltInt d a b)):=by
        intro W h1 h2
        have hz:=HZ.out
        have hs:=hij.out.2.2
        refine⟨i2,s,_,rfl,by congr 1;omega,(by have:=HI2.out;omega:a<i2∧i2≤b∧s≤5),h1,h2,E2.out⟩
       by_cases h2:b-i2≥2
       ·have d4:(b:Int)- (i2:Int)≥2:=by omega
        have ef:Hid (fixUp ltInt b i2 d2k=shiftUp ltInt b (i2+1) d2k):=by
         show fixUp ltInt b i2 d2k=_
         unfold fixUp
         rw[if_pos h2]
        clear h2
        go_wp2
        go_loopw [10] (fun vj wx=> ∃(t:Nat) (dt:Array Int),vj= .int .i64 t∧Hid (i2<t∧t≤b)∧Hid (RowS wx g n dt tl)∧Hid (Only [g] w wx)∧Hid (shiftUp ltInt b t dt=shiftUp ltInt b (i2+1) d2k)) (fun vj _=>b- (intOf vj).toNat)
        case atStart=>exact⟨i2+1,d2k,by go_num,(by have:=HI2.out;omega:i2<i2+1∧i2+1≤b),R6,O6,rfl⟩
        case round=>
         obtain⟨t,dt,rfl,ht,hR4,hO4,hT⟩:=hrel
         obtain⟨r,hr⟩: ∃r,t=r+1:=⟨t-1,by have:=ht.out;omega⟩
         have HR_:=hid hr
         by_cases htb:t<b
         ·have d5:(t:Int)< (b:Int):=by omega
          have e2:(t:Int)-1=(r:Int):=by omega
          have bt:t<n:=by have:=BN.out;omega
          have br:r<n:=by omega
          have t0:(0:Int)≤(t:Int):=by omega
          have t9:(t:Int)≤1000000000:=by omega
          have tn:(t:Int)< (n:Int):=by omega
          have r0:(0:Int)≤(r:Int):=by omega
          have rn:(r:Int)< (n:Int):=by omega
          have wr_:=wrapN (q:=r) (by omega)
          obtain⟨x0,hx0⟩: ∃x,x=dt[t]! :=⟨_,rfl⟩
          obtain⟨xq,hxq⟩: ∃x,x=dt[r]! :=⟨_,rfl⟩
          have c0:wr.cell? ⟨g,t,none⟩=some (.int .u64 x0):=by rw[hx0];exact hR4.out.cell bt
          have cq:wr.cell? ⟨g,r,none⟩=some (.int .u64 xq):=by rw[hxq];exact hR4.out.cell br
          have HX0:=hid hx0
          have HXQ:=hid hxq
          have BT:=hid bt
          have BR:=hid br
          have HTB:=hid htb
          clear hx0 hxq bt br hr htb
          go_wp2_with fail
          go_quiet (first | (go_at_call 228;exact Calls.quiet_of_same (Less_s _ _ _)))
          go_wp2_with fail
          ·have hl:ltInt x0 xq=false:=not_t (by assumption)
           go_roundw
           case rel=>
            refine OUT.out _ ?_ (hO4.out.drewN _)
            rw[ef.out,←hT.out,HR_.out,up_stop2 dt b r (fun _=>by rw[←HXQ.out];have:=HX0.out;rw[HR_.out] at this;rw[←this];exact hl)]
            exact hR4.out.drewN _
           case measure=>first | (simp[intOf];done) | (simp[intOf];omega)
          ·have hl:ltInt x0 xq=true:=not_f (by assumption)
           have HL:=hid hl
           clear hl
           revert nq
           intro nq1
           have R5:Hid (RowS (wr.drewN nq1) g n dt tl):=hR4.out.drewN nq1
           have O5:Hid (Only [g] w (wr.drewN nq1)):=hO4.out.drewN nq1
           clear c0 cq hR4 hO4
           generalize wr.drewN nq1=wr2 at R5 O5 ⊢
           have c0:wr2.cell? ⟨g,t,none⟩=some (.int .u64 x0):=by rw[HX0.out];exact R5.out.cell BT.out
           have cq:wr2.cell? ⟨g,r,none⟩=some (.int .u64 xq):=by rw[HXQ.out];exact R5.out.cell BR.out
           have f0:=R5.out.frozen t
           have fq:=R5.out.frozen r
           obtain⟨yq,hyq⟩: ∃y,(wr2.setCell ⟨g,t,none⟩ (.int .u64 xq)).cell? ⟨g,r,none⟩=some (.int .u64 y):=⟨_,(R5.out.set_ xq BT.out).cell BR.out⟩
           have fq2:=(R5.out.set_ xq BT.out).frozen r
           go_region
           all_goals go_wp2
           go_roundw
           case rel=>
            refine⟨t+1,_,by go_num,(by have:=ht.out;have:=HTB.out;omega:i2<t+1∧t+1≤b),RowS.swpV R5.out.drew BT.out BR.out HX0.out HXQ.out,O5.out.drew.trans (only_two _ g _ _ _ _) (fun x hx=>Or.inl hx),?_⟩
            show shiftUp ltInt b (t+1) (swp dt t r)=_
            have htb:=HTB.out
            rw[HR_.out] at htb
            rw[←hT.out,HR_.out,up_go2 dt b r htb (by rw[←HXQ.out];have:=HX0.out;rw[HR_.out] at this;rw[←this];exact HL.out)]
           case measure=>have:=HTB.out;first | (simp[intOf];done) | (simp[intOf];omega)
         ·have d5: ¬(t:Int)< (b:Int):=by omega
          have HTB:=hid htb
          clear hr htb
          go_wp2
          go_roundw
          case rel=>
           refine OUT.out _ ?_ hO4.out
           have htb:=HTB.out
           rw[HR_.out] at htb
           rw[ef.out,←hT.out,HR_.out,up_stop2 dt b r (fun h=>absurd h htb)]
           exact hR4.out
          case measure=>first | (simp[intOf];done) | (simp[intOf];omega)
       ·have d4: ¬(b:Int)- (i2:Int)≥2:=by have:=HI2.out;omega
        have ef:Hid (fixUp ltInt b i2 d2k=d2k):=by
         show fixUp ltInt b i2 d2k=_
         unfold fixUp
         rw[if_neg h2]
        clear h2
        go_wp2
        go_roundw
        case rel=>
         refine OUT.out _ ?_ O6.out
         rw[ef.out];exact R6.out
        case measure=>first | (simp[intOf];done) | (simp[intOf];omega)
end
section
open Go.Sort (swp ltInt)
def SwapsAt (w:World) (sb:Nat):Prop:= ∃k:Int,Blk w sb 3 #[.int .i64 k]
theorem order2_s (g n cap sb:Nat) (hsb:sb≠g) (d:Array Int) (tl:List Value) (a b:Nat) (ha:a<n) (hb:b<n) (hn:n≤1000000000) (w:World) (h:RowS w g n d tl) (hs:SwapsAt w sb):
  Calls Tryz.prog 271 #[.slice (some ⟨g,0,none⟩) n cap,.int .i64 (a:Int),.int .i64 (b:Int),.pointer (some ⟨sb,0,none⟩)] w fun e w'=>
   (e= .returned (.tuple #[.int .i64 (a:Int),.int .i64 (b:Int)])∨e= .returned (.tuple #[.int .i64 (b:Int),.int .i64 (a:Int)]))∧RowS w' g n d tl∧SwapsAt w' sb∧Only [sb] w w':=by
 obtain⟨k,hk⟩:=hs
 obtain⟨x0,hx0⟩: ∃x,x=d[a]! :=⟨_,rfl⟩
 obtain⟨xq,hxq⟩: ∃x,x=d[b]! :=⟨_,rfl⟩
 have c0:w.cell? ⟨g,a,none⟩=some (.int .u64 x0):=by rw[hx0];exact h.cell ha
 have cq:w.cell? ⟨g,b,none⟩=some (.int .u64 xq):=by rw[hxq];exact h.cell hb
 have cs:w.cell? ⟨sb,0,none⟩=some (.int .i64 k):=hk.cell 0
 have fs:=hk.frozen 0
 have a0:(0:Int)≤(a:Int):=by omega
 have an:(a:Int)< (n:Int):=by omega
 have b0:(0:Int)≤(b:Int):=by omega
 have bn:(b:Int)< (n:Int):=by omega
 have H:=hid h
 have HK:=hid hk
 have HSB:=hid hsb
 clear h hk hx0 hxq ha hb hsb
 go_enter Tryz.func271,Tryz.ntmps271
 go_wp2_with fail
 go_quiet (first | (go_at_call 228;exact Calls.quiet_of_same (Less_s _ _ _)))
 go_wp2
 ·go_ret2
  have hB:=HK.out.drewN nq
  have hO: ∀v,Only [sb] w ((w.drewN nq).setCell ⟨sb,0,none⟩ v):=fun v=>((Only.refl [sb] w).drewN nq).setCell (p:=⟨sb,0,none⟩) (Or.inl (by simp)) v
  refine⟨?_,?_,?_,?_⟩
  ·exact Or.inr rfl
  ·exact H.out.only (hO _) (by simpa using HSB.out.symm)
  ·exact⟨_,hB.set_ 0 _⟩
  ·exact hO _
 ·go_ret2
  exact⟨Or.inl rfl,H.out.drewN _,⟨k,HK.out.drewN _⟩,(Only.refl _ _).drewN _⟩
theorem median_s (g n cap sb:Nat) (hsb:sb≠g) (d:Array Int) (tl:List Value) (a b c:Nat) (ha:a<n) (hb:b<n) (hc:c<n) (hn:n≤1000000000) (w:World) (h:RowS w g n d tl) (hs:SwapsAt w sb):
  Calls Tryz.prog 259 #[.slice (some ⟨g,0,none⟩) n cap,.int .i64 (a:Int),.int .i64 (b:Int),.int .i64 (c:Int),.pointer (some ⟨sb,0,none⟩)] w fun e w'=>
   (∃r:Nat,(r=a∨r=b∨r=c)∧e= .returned (.int .i64 (r:Int)))∧RowS w' g n d tl∧SwapsAt w' sb∧Only [sb] w w':=by
 have H:=hid h
 have HS:=hid hs
 have HSB:=hid hsb
 have HA:=hid ha
 have HB:=hid hb
 have HC:=hid hc
 have HN:=hid hn
 clear h hs hsb ha hb hc hn
 go_enter Tryz.func259,Tryz.ntmps259
 go_wp2_with fail
 refine(order2_s g n cap sb HSB.out d tl a b HA.out HB.out HN.out w H.out HS.out).mono ?_
 rintro e w1 ⟨he,hR1,hS1,hO1⟩
 obtain⟨x,y,hxy,rfl⟩: ∃x y:Nat,Hid ((x=a∧y=b)∨(x=b∧y=a))∧e= .returned (.tuple #[.int .i64 (x:Int),.int .i64 (y:Int)]):=by
  rcases he with rfl | rfl
  ·exact⟨a,b,Or.inl ⟨rfl,rfl⟩,rfl⟩
  ·exact⟨b,a,Or.inr ⟨rfl,rfl⟩,rfl⟩
 have hxn:Hid (x<n∧y<n):=by
  have h1:=HA.out;have h2:=HB.out
  rcases hxy.out with⟨rfl,rfl⟩ | ⟨rfl,rfl⟩
  ·exact⟨h1,h2⟩
  ·exact⟨h2,h1⟩
 have R1:=hid hR1
 have S1:=hid hS1
 have O1:=hid hO1
 clear hR1 hS1 hO1 he
 go_wp2_with fail
 refine(order2_s g n cap sb HSB.out d tl y c hxn.out.2 HC.out HN.out w1 R1.out S1.out).mono ?_
 rintro e w2 ⟨he,hR2,hS2,hO2⟩
 obtain⟨u,v,huv,rfl⟩: ∃u v:Nat,Hid ((u=y∧v=c)∨(u=c∧v=y))∧e= .returned (.tuple #[.int .i64 (u:Int),.int .i64 (v:Int)]):=by
  rcases he with rfl | rfl
  ·exact⟨y,c,Or.inl ⟨rfl,rfl⟩,rfl⟩
  ·exact⟨c,y,Or.inr ⟨rfl,rfl⟩,rfl⟩
 have hun:Hid (u<n):=by
  have h1:=hxn.out.2;have h2:=HC.out
  rcases huv.out with⟨rfl,rfl⟩ | ⟨rfl,rfl⟩
  ·exact h1
  ·exact h2
 have R2:=hid hR2
 have S2:=hid hS2
 have O2:=hid (O1.out.trans hO2 (fun x hx=>Or.inl hx))
 clear hR2 hS2 hO2 he
 go_wp2_with fail
 refine(order2_s g n cap sb HSB.out d tl x u hxn.out.1 hun.out HN.out w2 R2.out S2.out).mono ?_
 rintro e w3 ⟨he,hR3,hS3,hO3⟩
 obtain⟨p,q,hpq,rfl⟩: ∃p q:Nat,Hid (q=u∨q=x)∧e= .returned (.tuple #[.int .i64 (p:Int),.int .i64 (q:Int)]):=by
  rcases he with rfl | rfl
  ·exact⟨x,u,Or.inl rfl,rfl⟩
  ·exact⟨u,x,Or.inr rfl,rfl⟩
 have R3:=hid hR3
 have S3:=hid hS3
 have O3:=hid (O2.out.trans hO3 (fun x hx=>Or.inl hx))
 clear hR3 hS3 hO3 he
 go_wp2
 go_ret
 refine⟨⟨q,?_,rfl⟩,R3.out,S3.out,O3.out⟩
 have h1:=hxy.out;have h2:=huv.out;have h3:=hpq.out
 omega
theorem medianAdj_s (g n cap sb:Nat) (hsb:sb≠g) (d:Array Int) (tl:List Value) (a:Nat) (h1:1≤a) (ha:a+1<n) (hn:n≤1000000000) (w:World) (h:RowS w g n d tl) (hs:SwapsAt w sb):
  Calls Tryz.prog 258 #[.slice (some ⟨g,0,none⟩) n cap,.int .i64 (a:Int),.pointer (some ⟨sb,0,none⟩)] w fun e w'=>
   (∃r:Nat,(a-1≤r∧r≤a+1)∧e= .returned (.int .i64 (r:Int)))∧RowS w' g n d tl∧SwapsAt w' sb∧Only [sb] w w':=by
 obtain⟨p,hp⟩: ∃p,p=a-1:=⟨_,rfl⟩
 obtain⟨q,hq⟩: ∃q,q=a+1:=⟨_,rfl⟩
 have e1:(a:Int)-1=(p:Int):=by omega
 have e2:(a:Int)+1=(q:Int):=by omega
 have w1:=wrapN (q:=p) (by omega)
 have w2:=wrapN (q:=q) (by omega)
 have hc:=(median_s g n cap sb hsb d tl p a q (by omega) (by omega) (by omega) hn w h hs)
 have HC:=hid hc
 have HP:=hid hp
 have HQ:=hid hq
 have H1:=hid h1
 clear hc hp hq h1 ha h hs
 go_enter Tryz.func258,Tryz.ntmps258
 go_wp2_with fail
 refine HC.out.mono ?_
 rintro e w3 ⟨⟨r,hr,rfl⟩,h2⟩
 have R:=hid hr
 have H2:=hid h2
 clear hr h2
 go_wp2
 go_ret
 refine⟨⟨r,?_,rfl⟩,H2.out⟩
 have:=R.out;have:=HP.out;have:=HQ.out;have:=H1.out
 omega
theorem bOnly {w W0 W1:World} {sb:Nat} (h:Below w.heap.size w W0) (o:Only [sb] W0 W1) (hn:w.heap.size≤sb):Below w.heap.size w W1:=h.trans (o.below (by simpa using hn) h.size)
theorem pivot_s (g n cap:Nat) (d:Array Int) (tl:List Value) (a b:Nat) (hab:a<b) (hb:b≤n) (hn:n≤1000000000) (w:World) (h:RowS w g n d tl):
  Calls Tryz.prog 225 #[.slice (some ⟨g,0,none⟩) n cap,.int .i64 (a:Int),.int .i64 (b:Int)] w fun e w'=>
   (∃(r:Nat) (hint:Int),(a≤r∧r<b)∧(hint=0∨hint=1∨hint=2)∧e= .returned (.tuple #[.int .i64 (r:Int),.int .i64 hint]))∧Below w.heap.size w w':=by
 obtain⟨m,hm⟩: ∃m,m=b-a:=⟨_,rfl⟩
 obtain⟨q,hq⟩: ∃q,q=m/4:=⟨_,rfl⟩
 obtain⟨i,hi⟩: ∃i,i=a+q:=⟨_,rfl⟩
 obtain⟨j,hj⟩: ∃j,j=a+2*q:=⟨_,rfl⟩
 obtain⟨k,hk⟩: ∃k,k=a+3*q:=⟨_,rfl⟩
 have e1:(b:Int)- (a:Int)=(m:Int):=by omega
 have e2:((m:Int)).tdiv 4=(q:Int):=by rw[Int.tdiv_eq_ediv_of_nonneg (by omega)];omega
 have e3:(q:Int)*1=(q:Int):=by omega
 have e4:(q:Int)*2=((2*q:Nat):Int):=by omega
 have e5:(q:Int)*3=((3*q:Nat):Int):=by omega
 obtain⟨q2,hq2⟩: ∃q2,q2=2*q:=⟨_,rfl⟩
 obtain⟨q3,hq3⟩: ∃q3,q3=3*q:=⟨_,rfl⟩
 rw[←hq2] at e4
 rw[←hq3] at e5
 have e6:(a:Int)+(q:Int)=(i:Int):=by omega
 have e7:(a:Int)+(q2:Int)=(j:Int):=by omega
 have e8:(a:Int)+(q3:Int)=(k:Int):=by omega
 have w1:=wrapN (q:=m) (by omega)
 have w2:=wrapN (q:=q) (by omega)
 have w3:=wrapN (q:=q2) (by omega)
 have w4:=wrapN (q:=q3) (by omega)
 have w5:=wrapN (q:=i) (by omega)
 have w6:=wrapN (q:=j) (by omega)
 have w7:=wrapN (q:=k) (by omega)
 have m0:(0:Int)≤(m:Int):=by omega
 have F:=hid (show a<b∧b≤n∧m=b-a∧q=m/4∧i=a+q∧j=a+2*q∧k=a+3*q from⟨hab,hb,hm,hq,hi,hj,hk⟩)
 have HN:=hid hn
 have H:=hid h
 have HG:=hid h.blk.lt
 clear h hab hb hn hm hq hi hj hk hq2 hq3
 go_enter Tryz.func225,Tryz.ntmps225
 go_upto_if 32 with fail
 obtain⟨sb,hsb⟩: ∃sb,sb=w.heap.size:=⟨_,rfl⟩
 obtain⟨W0,hW0⟩: ∃W0,W0=w.alloc (.cells #[.int .i64 0] 3):=⟨_,rfl⟩
 have B0:Hid (Below w.heap.size w W0):=by rw[hW0];exact ba (Below.refl _ _) _
 have R0:Hid (RowS W0 g n d tl):=⟨H.out.blk.bel B0.out,H.out.size⟩
 have S0:Hid (SwapsAt W0 sb):=⟨0,by rw[hW0,hsb];exact Blk.new w _ _⟩
 have NE:Hid (sb≠g):=by have:=HG.out;show sb≠g;omega
 have NB:Hid (w.heap.size≤sb):=by show w.heap.size≤sb;omega
 rw[←hsb,←hW0]
 clear hsb hW0
 go_cut [11] (fun s11 wc=> ∃r:Nat,s11= .int .i64 r∧Hid (a≤r∧r<b)∧Hid (SwapsAt wc sb)∧Hid (Below w.heap.size w wc))
 case first=>
  by_cases h8:8≤m
  ·have d8:(8:Int)≤(m:Int):=by omega
   have d8':decide ((8:Int)≤(m:Int))=true:=by simp;omega
   have H8:=hid h8
   by_cases h50:50≤m
   ·have d50:(50:Int)≤(m:Int):=by omega
    have d50':decide ((50:Int)≤(m:Int))=true:=by simp;omega
    have H50:=hid h50
    clear h8 h50
    go_wp2_with fail
    refine(medianAdj_s g n cap sb NE.out d tl i (by have:=F.out;have:=H50.out;omega) (by have:=F.out;have:=H50.out;omega) HN.out W0 R0.out S0.out).mono ?_
    rintro e W1 ⟨⟨i1,hi1,rfl⟩,hR,hS,hO⟩
    have I1:=hid hi1
    have R1:=hid hR
    have S1:=hid hS
    have B1:=hid (bOnly B0.out hO NB.out)
    clear hi1 hR hS hO
    go_wp2_with fail
    refine(medianAdj_s g n cap sb NE.out d tl j (by have:=F.out;have:=H50.out;omega) (by have:=F.out;have:=H50.out;omega) HN.out W1 R1.out S1.out).mono ?_
    rintro e W2 ⟨⟨j1,hj1,rfl⟩,hR,hS,hO⟩
    have I2:=hid hj1
    have R2:=hid hR
    have S2:=hid hS
    have B2:=hid (bOnly B1.out hO NB.out)
    clear hj1 hR hS hO
    go_wp2_with fail
    refine(medianAdj_s g n cap sb NE.out d tl k (by have:=F.out;have:=H50.out;omega) (by have:=F.out;have:=H50.out;omega) HN.out W2 R2.out S2.out).mono ?_
    rintro e W3 ⟨⟨k1,hk1,rfl⟩,hR,hS,hO⟩
    have I3:=hid hk1
    have R3:=hid hR
    have S3:=hid hS
    have B3:=hid (bOnly B2.out hO NB.out)
    clear hk1 hR hS hO
    go_wp2_with fail
    refine(median_s g n cap sb NE.out d tl i1 j1 k1 (by have:=F.out;have:=H50.out;have:=I1.out;have:=I2.out;have:=I3.out;omega) (by have:=F.out;have:=H50.out;have:=I1.out;have:=I2.out;have:=I3.out;omega) (by have:=F.out;have:=H50.out;have:=I1.out;have:=I2.out;have:=I3.out;omega) HN.out W3 R3.out S3.out).mono ?_
    rintro e W4 ⟨⟨r,hr,rfl⟩,hR,hS,hO⟩
    have I4:=hid hr
    have R4:=hid hR
    have S4:=hid hS
    have B4:=hid (bOnly B3.out hO NB.out)
    clear hr hR hS hO
    go_wp2
    go_meet
    case rel=>exact⟨r,rfl,(by have:=I4.out;have:=F.out;have:=H50.out;have:=I1.out;have:=I2.out;have:=I3.out;omega:a≤r∧r<b),S4,B4⟩
   ·have d50: ¬(50:Int)≤(m:Int):=by omega
    clear h8 h50
    go_wp2_with fail
    refine(median_s g n cap sb NE.out d tl i j k (by have:=F.out;have:=H8.out;omega) (by have:=F.out;have:=H8.out;omega) (by have:=F.out;have:=H8.out;omega) HN.out W0 R0.out S0.out).mono ?_
    rintro e W4 ⟨⟨r,hr,rfl⟩,hR,hS,hO⟩
    have I4:=hid hr
    have R4:=hid hR
    have S4:=hid hS
    have B4:=hid (bOnly B0.out hO NB.out)
    clear hr hR hS hO
    go_wp2
    go_meet
    case rel=>exact⟨r,rfl,(by have:=I4.out;have:=F.out;have:=H8.out;omega:a≤r∧r<b),S4,B4⟩
  ·have d8: ¬(8:Int)≤(m:Int):=by omega
   clear h8
   go_wp2
   go_meet
   case rel=>exact⟨j,rfl,(by have:=F.out;omega:a≤j∧j<b),S0,B0⟩
 case rest=>
  obtain⟨r,rfl,hr,⟨k0,hk0⟩,hB⟩:=hcut
  have ck:=hk0.cell 0
  have ck:wc.cell? ⟨sb,0,none⟩=some (.int .i64 k0):=ck
  clear hk0
  by_cases z0:k0=0
  ·have t0:(k0==0)=true:=by simp[z0]
   clear z0
   go_wp2
   go_ret2
   exact⟨⟨r,1,hr.out,Or.inr (Or.inl rfl),rfl⟩,hB.out⟩
  ·have t0:(k0==0)=false:=by simp[z0]
   by_cases z1:k0=12
   ·have t1:(k0==12)=true:=by simp[z1]
    clear z0 z1
    go_wp2
    go_ret2
    exact⟨⟨r,2,hr.out,Or.inr (Or.inr rfl),rfl⟩,hB.out⟩
   ·have t1:(k0==12)=false:=by simp[z1]
    clear z0 z1
    go_wp2
    go_ret2
    exact⟨⟨r,0,hr.out,Or.inl rfl,rfl⟩,hB.out⟩
end
section
open Go.Sort (swp ltInt PermIn permIn_refl permIn_trans swp_permIn)
theorem Len64_s (x:Int) (w:World) (h0:0≤x) (h1:x≤4294967295):
  Calls Tryz.prog 232 #[.int .u64 x] w fun e w'=>e= .returned (.int .i64 (Lib.bitLen x.toNat))∧w'=w:=by
 by_cases c1:65536≤x
 ·by_cases c2:16777216≤x
  ·have d1: ¬x/65536<256:=by omega
   have y0:0≤x/65536/256:=by omega
   have y1:x/65536/256≤255:=by omega
   have hix:=fun w=>Lib.run_index_len8tab (P:=Tryz.prog) w 9 .u8 (x/65536/256) Tryz.underlying9 y0 y1
   have l8:=Lib.bitLen_le8' (x/65536/256) y0 y1
   have e8:=Lib.len8_of (x/65536/256) y0 y1
   obtain⟨L,hL⟩: ∃L,L=Lib.bitLen (x/65536/256).toNat:=⟨_,rfl⟩
   rw[←hL] at l8 e8
   rw[e8] at hix
   have fin:Hid (Lib.bitLen x.toNat=24+L):=by
    show Lib.bitLen x.toNat=24+L
    rw[hL]
    have e:(x/65536/256).toNat=x.toNat/16777216:=by omega
    rw[e];exact Lib.bitLen_shift24 x.toNat (by omega) (by omega)
   have hLi:(L:Int)≤8:=by omega
   have hL0:(0:Int)≤(L:Int):=by omega
   clear hL e8 l8
   go_enter Tryz.func232,Tryz.ntmps232
   go_wp2
   go_ret
   rw[fin.out]
   exact⟨rfl,rfl⟩
  ·have d1:x/65536<256:=by omega
   have y0:0≤x/65536:=by omega
   have y1:x/65536≤255:=by omega
   have hix:=fun w=>Lib.run_index_len8tab (P:=Tryz.prog) w 9 .u8 (x/65536) Tryz.underlying9 y0 y1
   have l8:=Lib.bitLen_le8' (x/65536) y0 y1
   have e8:=Lib.len8_of (x/65536) y0 y1
   obtain⟨L,hL⟩: ∃L,L=Lib.bitLen (x/65536).toNat:=⟨_,rfl⟩
   rw[←hL] at l8 e8
   rw[e8] at hix
   have fin:Hid (Lib.bitLen x.toNat=16+L):=by
    show Lib.bitLen x.toNat=16+L
    rw[hL]
    have e:(x/65536).toNat=x.toNat/65536:=by omega
    rw[e];exact Lib.bitLen_shift16 x.toNat (by omega) (by omega)
   have hLi:(L:Int)≤8:=by omega
   have hL0:(0:Int)≤(L:Int):=by omega
   clear hL e8 l8
   go_enter Tryz.func232,Tryz.ntmps232
   go_wp2
   go_ret
   rw[fin.out]
   exact⟨rfl,rfl⟩
 ·by_cases c2:256≤x
  ·have d1: ¬x<256:=by omega
   have y0:0≤x/256:=by omega
   have y1:x/256≤255:=by omega
   have hix:=fun w=>Lib.run_index_len8tab (P:=Tryz.prog) w 9 .u8 (x/256) Tryz.underlying9 y0 y1
   have l8:=Lib.bitLen_le8' (x/256) y0 y1
   have e8:=Lib.len8_of (x/256) y0 y1
   obtain⟨L,hL⟩: ∃L,L=Lib.bitLen (x/256).toNat:=⟨_,rfl⟩
   rw[←hL] at l8 e8
   rw[e8] at hix
   have fin:Hid (Lib.bitLen x.toNat=8+L):=by
    show Lib.bitLen x.toNat=8+L
    rw[hL]
    have e:(x/256).toNat=x.toNat/256:=by omega
    rw[e];exact Lib.bitLen_shift8 x.toNat (by omega) (by omega)
   have hLi:(L:Int)≤8:=by omega
   have hL0:(0:Int)≤(L:Int):=by omega
   clear hL e8 l8
   go_enter Tryz.func232,Tryz.ntmps232
   go_wp2
   go_ret
   rw[fin.out]
   exact⟨rfl,rfl⟩
  ·have d1:x<256:=by omega
   have y0:0≤x:=by omega
   have y1:x≤255:=by omega
   have hix:=fun w=>Lib.run_index_len8tab (P:=Tryz.prog) w 9 .u8 (x) Tryz.underlying9 y0 y1
   have l8:=Lib.bitLen_le8' (x) y0 y1
   have e8:=Lib.len8_of (x) y0 y1
   obtain⟨L,hL⟩: ∃L,L=Lib.bitLen (x).toNat:=⟨_,rfl⟩
   rw[←hL] at l8 e8
   rw[e8] at hix
   have fin:Hid (Lib.bitLen x.toNat=L):=by
    show Lib.bitLen x.toNat=L
    rw[hL]
   have hLi:(L:Int)≤8:=by omega
   have hL0:(0:Int)≤(L:Int):=by omega
   clear hL e8 l8
   go_enter Tryz.func232,Tryz.ntmps232
   go_wp2
   go_ret
   rw[fin.out]
   exact⟨rfl,rfl⟩
theorem Len_s (x:Int) (w:World) (h0:0≤x) (h1:x≤4294967295):
  Calls Tryz.prog 193 #[.int .u64 x] w fun e w'=>e= .returned (.int .i64 (Lib.bitLen x.toNat))∧w'=w:=by
 go_enter Tryz.func193,Tryz.ntmps193
 go_wp2_with (go_at_call 232;refine(Len64_s x _ h0 h1).mono ?_;rintro e w' ⟨rfl,rfl⟩)
 go_ret
 exact⟨rfl,rfl⟩
theorem bitLen_z (x:Nat) (h:x<2^64):Lib.bitLen x=Go.Sort.bitsLen x:=by
 have h0:=fun k=>Go.Sort.bitsLen_le_iff x k
 by_cases hx:x=0
 ·subst hx;rfl
 ·obtain⟨h1,h2,h3⟩:=Lib.bitLenAux_bounds 64 x (by simpa using h) hx
  have h4:Lib.bitLen x=Lib.bitLenAux 64 x:=rfl
  rw[h4]
  generalize Lib.bitLenAux 64 x=q at*
  have a1:Go.Sort.bitsLen x≤q:=(h0 q).2 h3
  by_cases a2:q≤Go.Sort.bitsLen x
  ·omega
  ·exfalso
   have a3:=(h0 (q-1)).1 (by omega)
   omega
theorem two_pow_z (k:Nat) (hk:k≤62):IntKind.u64.wrap ((2:Int)^k)=((2^k:Nat):Int):=by
 have h:(2:Nat)^k≤2^62:=Nat.pow_le_pow_right (by decide) hk
 rw[IntKind.wrap_u64,show((2:Int)^k)=((2^k:Nat):Int) by push_cast;rfl]
 generalize(2:Nat)^k=p at h
 omega
theorem nextPow_s (m:Nat) (hm:m≤1000000000) (w:World):
  Calls Tryz.prog 256 #[.int .i64 (m:Int)] w fun e w'=>e= .returned (.int .u64 ((2^Go.Sort.bitsLen m:Nat):Int))∧w'=w:=by
 have hc:=Len_s (m:Int) w (by omega) (by omega)
 rw[Int.toNat_natCast,bitLen_z m (by omega)] at hc
 have hk:Go.Sort.bitsLen m≤62:=(Go.Sort.bitsLen_le_iff m 62).2 (by omega)
 have hp:=two_pow_z (Go.Sort.bitsLen m) hk
 have HC:=hid hc
 have m0:(0:Int)≤(m:Int):=by omega
 have m9:(m:Int)≤1000000000:=by omega
 clear hc
 go_enter Tryz.func256,Tryz.ntmps256
 go_wp2_with fail
 refine HC.out.mono ?_
 rintro e w2 ⟨rfl,rfl⟩
 go_wp2
 go_ret
 exact⟨rfl,rfl⟩
theorem xor_s (rb X:Nat) (hX:X<18446744073709551616) (w:World) (h:Blk w rb 337 #[.int .u64 (X:Int)]):
  Calls Tryz.prog 257 #[.pointer (some ⟨rb,0,none⟩)] w fun e w'=>(∃C:Nat,C<18446744073709551616∧e= .returned (.int .u64 (C:Int))∧Blk w' rb 337 #[.int .u64 (C:Int)])∧Only [rb] w w':=by
 obtain⟨A,hA⟩: ∃A:Nat,A=X^^^ (X*8192 % 18446744073709551616):=⟨_,rfl⟩
 obtain⟨B,hB⟩: ∃B:Nat,B=A^^^ (A/128):=⟨_,rfl⟩
 obtain⟨C,hC⟩: ∃C:Nat,C=B^^^ (B*131072 % 18446744073709551616):=⟨_,rfl⟩
 have lA:A<18446744073709551616:=by rw[hA];exact Nat.xor_lt_two_pow (n:=64) (by omega) (by omega)
 have lB:B<18446744073709551616:=by rw[hB];exact Nat.xor_lt_two_pow (n:=64) (by omega) (by omega)
 have lC:C<18446744073709551616:=by rw[hC];exact Nat.xor_lt_two_pow (n:=64) (by omega) (by omega)
 have e1:bits .xor .u64 (X:Int) (IntKind.u64.wrap ((X:Int)*8192))=(A:Int):=by
  rw[IntKind.wrap_u64,show((X:Int)*8192 % 18446744073709551616)=((X*8192 % 18446744073709551616:Nat):Int) by omega,bits_xor_u64_nat _ _ hX (by omega),hA]
 have e2:bits .xor .u64 (A:Int) ((A:Int)/128)=(B:Int):=by
  rw[show((A:Int)/128)=((A/128:Nat):Int) by omega,bits_xor_u64_nat _ _ lA (by omega),hB]
 have e3:bits .xor .u64 (B:Int) (IntKind.u64.wrap ((B:Int)*131072))=(C:Int):=by
  rw[IntKind.wrap_u64,show((B:Int)*131072 % 18446744073709551616)=((B*131072 % 18446744073709551616:Nat):Int) by omega,bits_xor_u64_nat _ _ lB (by omega),hC]
 have LC:=hid lC
 clear hA hB hC lA lB lC hX
 have hc:w.cell? ⟨rb,0,none⟩=some (.int .u64 (X:Int)):=h.cell 0
 have hf:=h.frozen 0
 have hss: ∀v v',(w.setCell ⟨rb,0,none⟩ v).setCell ⟨rb,0,none⟩ v'=w.setCell ⟨rb,0,none⟩ v':=by
  intro v v'
  rw[Go.Sort.setCell_eq,Go.Sort.setCell_eq,Go.Sort.mapBlock_mapBlock,Go.Sort.setCell_eq]
  congr 1
  funext c
  simp
 have H:=hid h
 clear h
 go_enter Tryz.func257,Tryz.ntmps257
 go_wp2
 go_region
 all_goals go_wp2
 all_goals go_region
 all_goals go_wp2
 all_goals go_region
 all_goals go_wp2
 go_ret
 refine⟨⟨C,LC.out,rfl,H.out.set_ 0 _⟩,?_⟩
 exact((((Only.refl [rb] w).setCell (p:=⟨rb,0,none⟩) (Or.inl (List.mem_singleton.2 rfl)) _).drew).drew).drew
theorem break_s (g n cap:Nat) (d:Array Int) (tl:List Value) (a b:Nat) (hab:a≤b) (hb:b≤n) (hn:n≤1000000000) (w:World) (h:RowS w g n d tl):
  Calls Tryz.prog 224 #[.slice (some ⟨g,0,none⟩) n cap,.int .i64 (a:Int),.int .i64 (b:Int)] w fun e w'=>
   (∃r,e= .returned r)∧(∃d',RowS w' g n d' tl∧PermIn a b d d')∧Only [g] w w':=by
 obtain⟨L,hL⟩: ∃L,L=b-a:=⟨_,rfl⟩
 have e1:(b:Int)- (a:Int)=(L:Int):=by omega
 have w1:=wrapN (q:=L) (by omega)
 have L0:(0:Int)≤(L:Int):=by omega
 have L9:(L:Int)≤1000000000:=by omega
 by_cases h8:8≤L
 ·have d8:(8:Int)≤(L:Int):=by omega
  have d8':decide ((8:Int)≤(L:Int))=true:=by simp;omega
  have HNP:=hid (nextPow_s L (by omega))
  have H:=hid h
  have HF:=hid (show a≤b∧b≤n∧n≤1000000000∧L=b-a∧8≤L from⟨hab,hb,hn,hL,h8⟩)
  clear h hab hb hn hL
  go_enter Tryz.func224,Tryz.ntmps224
  obtain⟨rb,hrb⟩: ∃rb,rb=w.heap.size:=⟨_,rfl⟩
  obtain⟨M,hM⟩: ∃M,M=2^Go.Sort.bitsLen L:=⟨_,rfl⟩
  have hM1:1≤M:=by rw[hM];exact Nat.two_pow_pos _
  have hM2:M≤2*L:=by rw[hM];exact Go.Sort.two_pow_bitsLen_le (by omega)
  rw[←hM] at HNP
  obtain⟨q,hq⟩: ∃q,q=L/4:=⟨_,rfl⟩
  obtain⟨q2,hq2⟩: ∃q2,q2=2*q:=⟨_,rfl⟩
  obtain⟨q3,hq3⟩: ∃q3,q3=a+q2:=⟨_,rfl⟩
  obtain⟨i0,hi0⟩: ∃i,i=q3-1:=⟨_,rfl⟩
  obtain⟨i2,hi2⟩: ∃i,i=q3+1:=⟨_,rfl⟩
  have e2:((L:Int)).tdiv 4=(q:Int):=by rw[Int.tdiv_eq_ediv_of_nonneg (by omega)];omega
  have e3:(q:Int)*2=(q2:Int):=by omega
  have e4:(a:Int)+(q2:Int)=(q3:Int):=by omega
  have e5:(q3:Int)-1=(i0:Int):=by have:=HF.out;omega
  have e6:(q3:Int)+1=(i2:Int):=by omega
  have wq:=wrapN (q:=q) (by omega)
  have wq2:=wrapN (q:=q2) (by omega)
  have wq3:=wrapN (q:=q3) (by have:=HF.out;omega)
  have wq4:=wrapN (q:=i0) (by have:=HF.out;omega)
  have wq5:=wrapN (q:=i2) (by have:=HF.out;omega)
  have HQ:=hid (show q=L/4∧q2=2*q∧q3=a+q2∧i0=q3-1∧i2=q3+1 from⟨hq,hq2,hq3,hi0,hi2⟩)
  have HM:=hid (show 1≤M∧M≤2*L from⟨hM1,hM2⟩)
  obtain⟨W0,hW0⟩: ∃W0,W0=w.alloc (.cells #[.int .u64 (L:Int)] 337):=⟨_,rfl⟩
  have O0:Hid (Only [g] w W0):=by rw[hW0];exact(Only.refl _ _).alloc _
  have R0:Hid (RowS W0 g n d tl):=by rw[hW0];exact H.out.only ((Only.refl [] w).alloc _) (by simp)
  have X0:Hid (Blk W0 rb 337 #[.int .u64 (L:Int)]):=by rw[hW0,hrb];exact Blk.new w _ _
  have NE:Hid (rb≠g∧w.heap.size≤rb):=by have:=H.out.blk.lt;exact⟨by omega,by omega⟩
  clear hq hq2 hq3 hi0 hi2 hM hM1 hM2 h8
  go_wp2_with fail
  refine(HNP.out _).mono ?_
  rintro e w2 ⟨rfl,rfl⟩
  rw[←hrb,←hW0]
  clear hrb hW0
  go_wp2
  go_loopw [9] (fun vi wr=> ∃(i v:Nat) (dk:Array Int),vi= .int .i64 (i:Int)∧Hid (i0≤i∧i≤i2+1)∧Hid (v<18446744073709551616∧Blk wr rb 337 #[.int .u64 (v:Int)])∧Hid (RowS wr g n dk tl)∧Hid (PermIn a b d dk)∧Hid (Only [g,rb] W0 wr)) (fun vi _=>i2+1- (intOf vi).toNat)
  case atStart=>exact⟨i0,L,d,rfl,(by have:=HQ.out;omega:i0≤i0∧i0≤i2+1),⟨by have:=HF.out;omega,X0.out⟩,R0,permIn_refl d a b,Only.refl _ _⟩
  case round=>
   obtain⟨i,v,dk,rfl,HI,hX,hR,hP,hO⟩:=hrel
   by_cases hle:i≤i2
   ·have d1:(i:Int)≤(i2:Int):=by omega
    have HLE:=hid hle
    clear hle
    go_wp2_with fail
    refine(xor_s rb v hX.out.1 wr hX.out.2).mono ?_
    rintro e w1 ⟨⟨C,hC,rfl,hB1⟩,hO1⟩
    obtain⟨O,hO2⟩: ∃O:Nat,O=C&&& (M-1):=⟨_,rfl⟩
    have lO:O≤M-1:=by rw[hO2];exact Nat.and_le_right
    have eM:(M:Int)-1=((M-1:Nat):Int):=by have:=HM.out;omega
    have wM:IntKind.u64.wrap ((M:Int)-1)=((M:Int)-1):=by rw[IntKind.wrap_u64];have:=HM.out;have:=HF.out;omega
    have eAnd:bits .and .u64 (C:Int) ((M:Int)-1)=(O:Int):=by
     rw[eM,bits_and_u64_nat _ _ hC (by have:=HM.out;have:=HF.out;omega),hO2]
    have wO:=wrapN (q:=O) (by have:=HM.out;have:=HF.out;omega)
    have oM:O<M:=by have:=HM.out;omega
    clear hO2 eM lO
    by_cases hLO:L≤O
    ·have dO:(L:Int)≤(O:Int):=by omega
     obtain⟨j,hj⟩: ∃j,j=a+(O-L):=⟨_,rfl⟩
     have eO:(O:Int)- (L:Int)=((O-L:Nat):Int):=by omega
     have wO2:=wrapN (q:=O-L) (by have:=HM.out;have:=HF.out;omega)
     have hoL:O-L<L:=by have:=HM.out;omega
     obtain⟨o2,ho2⟩: ∃o2,o2=O-L:=⟨_,rfl⟩
     rw[←ho2] at eO wO2 hoL hj
     have ej:(a:Int)+(o2:Int)=(j:Int):=by omega
     clear ho2 oM
     have wj:=wrapN (q:=j) (by have:=HF.out;omega)
     have bi:i<n:=by have:=HI.out;have:=HQ.out;have:=HF.out;omega
     have bj:j<n:=by have:=HF.out;omega
     have ip:(0:Int)≤(i:Int):=by omega
     have inn:(i:Int)< (n:Int):=by omega
     have i9:(i:Int)≤1000000000:=by have:=HF.out;omega
     have jp:(0:Int)≤(j:Int):=by omega
     have jn:(j:Int)< (n:Int):=by omega
     have hRn:=hid (hR.out.only hO1 (by simpa using NE.out.1.symm))
     obtain⟨x0,hx0⟩: ∃x,x=dk[i]! :=⟨_,rfl⟩
     obtain⟨xq,hxq⟩: ∃x,x=dk[j]! :=⟨_,rfl⟩
     have c0:w1.cell? ⟨g,i,none⟩=some (.int .u64 x0):=by rw[hx0];exact hRn.out.cell bi
     have cq:w1.cell? ⟨g,j,none⟩=some (.int .u64 xq):=by rw[hxq];exact hRn.out.cell bj
     have f0:=hRn.out.frozen i
     have fq:=hRn.out.frozen j
     have HX0:=hid hx0
     have HXQ:=hid hxq
     have B0:=hid bi
     have BQ:=hid bj
     have HB1:=hid hB1
     have HO1:=hid (hO.out.trans hO1 (fun x hx=>Or.inl (by simp at hx;simp[hx])))
     have HJ:=hid (show a≤j∧j<b by have:=HF.out;omega)
     have HIB:=hid (show a≤i∧i<b by have:=HI.out;have:=HQ.out;have:=HF.out;omega)
     have HC:=hid hC
     clear hx0 hxq bi bj hB1 hO1 hj hC
     by_cases hEq:i=j
     all_goals
      go_wp2
      go_region
      all_goals go_wp2
      go_roundw
      case rel=>
       refine⟨i+1,C,swp dk i j,by go_num,(⟨by have:=HI.out;omega,by have:=HI.out;have:=HLE.out;omega⟩:i0≤i+1∧i+1≤i2+1),⟨HC.out,?_⟩,?_,?_,?_⟩
       ·exact((only_two w1 g _ _ _ _).drew).blk HB1.out (by simpa using NE.out.1)
       ·first | exact(RowS.swpV hRn.out B0.out BQ.out HX0.out HXQ.out).drew | (subst hEq;exact(RowS.swpV hRn.out B0.out BQ.out HXQ.out HXQ.out).drew)
       ·exact permIn_trans _ _ _ a b hP.out (swp_permIn dk a b i j HIB.out.1 HIB.out.2 HJ.out.1 HJ.out.2 (by rw[hR.out.size];exact HF.out.2.1))
       ·exact HO1.out.trans ((only_two w1 g _ _ _ _).drew) (fun x hx=>Or.inl (by simp at hx;simp[hx]))
      case measure=>simp[intOf];have:=HLE.out;omega
    ·have dO: ¬(L:Int)≤(O:Int):=by omega
     obtain⟨j,hj⟩: ∃j,j=a+O:=⟨_,rfl⟩
     have hoL:O<L:=by omega
     have ej:(a:Int)+(O:Int)=(j:Int):=by omega
     have wj:=wrapN (q:=j) (by have:=HF.out;omega)
     have bi:i<n:=by have:=HI.out;have:=HQ.out;have:=HF.out;omega
     have bj:j<n:=by have:=HF.out;omega
     have ip:(0:Int)≤(i:Int):=by omega
     have inn:(i:Int)< (n:Int):=by omega
     have i9:(i:Int)≤1000000000:=by have:=HF.out;omega
     have jp:(0:Int)≤(j:Int):=by omega
     have jn:(j:Int)< (n:Int):=by omega
     have hRn:=hid (hR.out.only hO1 (by simpa using NE.out.1.symm))
     obtain⟨x0,hx0⟩: ∃x,x=dk[i]! :=⟨_,rfl⟩
     obtain⟨xq,hxq⟩: ∃x,x=dk[j]! :=⟨_,rfl⟩
     have c0:w1.cell? ⟨g,i,none⟩=some (.int .u64 x0):=by rw[hx0];exact hRn.out.cell bi
     have cq:w1.cell? ⟨g,j,none⟩=some (.int .u64 xq):=by rw[hxq];exact hRn.out.cell bj
     have f0:=hRn.out.frozen i
     have fq:=hRn.out.frozen j
     have HX0:=hid hx0
     have HXQ:=hid hxq
     have B0:=hid bi
     have BQ:=hid bj
     have HB1:=hid hB1
     have HO1:=hid (hO.out.trans hO1 (fun x hx=>Or.inl (by simp at hx;simp[hx])))
     have HJ:=hid (show a≤j∧j<b by have:=HF.out;omega)
     have HIB:=hid (show a≤i∧i<b by have:=HI.out;have:=HQ.out;have:=HF.out;omega)
     have HC:=hid hC
     clear hx0 hxq bi bj hB1 hO1 hj hC
     by_cases hEq:i=j
     all_goals
      go_wp2
      go_region
      all_goals go_wp2
      go_roundw
      case rel=>
       refine⟨i+1,C,swp dk i j,by go_num,(⟨by have:=HI.out;omega,by have:=HI.out;have:=HLE.out;omega⟩:i0≤i+1∧i+1≤i2+1),⟨HC.out,?_⟩,?_,?_,?_⟩
       ·exact((only_two w1 g _ _ _ _).drew).blk HB1.out (by simpa using NE.out.1)
       ·first | exact(RowS.swpV hRn.out B0.out BQ.out HX0.out HXQ.out).drew | (subst hEq;exact(RowS.swpV hRn.out B0.out BQ.out HXQ.out HXQ.out).drew)
       ·exact permIn_trans _ _ _ a b hP.out (swp_permIn dk a b i j HIB.out.1 HIB.out.2 HJ.out.1 HJ.out.2 (by rw[hR.out.size];exact HF.out.2.1))
       ·exact HO1.out.trans ((only_two w1 g _ _ _ _).drew) (fun x hx=>Or.inl (by simp at hx;simp[hx]))
      case measure=>simp[intOf];have:=HLE.out;omega
   ·have d1: ¬(i:Int)≤(i2:Int):=by omega
    clear hle
    go_wp2
    go_end0
    exact⟨⟨_,rfl⟩,⟨dk,hR.out,hP.out⟩,O0.out.trans hO.out (fun x hx=>by simp at hx;rcases hx with rfl | rfl;exact Or.inl (by simp);exact Or.inr NE.out.2)⟩
 ·have d8: ¬(8:Int)≤(L:Int):=by omega
  have H:=hid h
  clear h hab hb hn hL
  go_enter Tryz.func224,Tryz.ntmps224
  go_wp2
  go_end0
  exact⟨⟨_,rfl⟩,⟨d,H.out,permIn_refl d a b⟩,Only.refl _ _⟩
end
section
open Go.Sort (swp ltInt PermIn SortedIn permIn_refl permIn_trans swp_permIn permIn_mono swo_ltInt insertionSort insertionSort_holds heapSort heapSort_holds reverseRange reverseRange_holds partialInsertionSort partialInsertionSort_holds partition partition_holds partitionEqual partitionEqual_holds round_eq round_part)
structure PS (w0:World) (g n:Nat) (tl:List Value) (d0:Array Int) (a0 b0 a b:Nat) (dk:Array Int) (wr:World):Prop where
 row:RowS wr g n dk tl
 only:Only [g] w0 wr
 bel:Go.Sort.Below ltInt a b dk
 rng:a≤b∧b≤n
 fin: ∀R,PermIn a b dk R→SortedIn ltInt a b R→PermIn a0 b0 d0 R∧SortedIn ltInt a0 b0 R
section
variable {w0 wr wr':World} {g n:Nat} {tl:List Value} {d0 dk dk':Array Int} {a0 b0 a b:Nat}
theorem PS.bd (h:PS w0 g n tl d0 a0 b0 a b dk wr):b≤dk.size:=by rw[h.row.size];exact h.rng.2
theorem PS.perm (h:PS w0 g n tl d0 a0 b0 a b dk wr) (hr:RowS wr' g n dk' tl) (ho:Only [g] wr wr') (hp:PermIn a b dk dk'):PS w0 g n tl d0 a0 b0 a b dk' wr':=
 ⟨hr,h.only.trans ho (fun x hx=>Or.inl hx),h.bel.perm h.bd hp,h.rng,fun R h1 h2=>h.fin R (permIn_trans _ _ _ a b hp h1) h2⟩
theorem PS.same (h:PS w0 g n tl d0 a0 b0 a b dk wr) (ho:Only [] wr wr'):PS w0 g n tl d0 a0 b0 a b dk wr':=
 ⟨h.row.only ho (by simp),h.only.trans ho (fun x hx=>by simp at hx),h.bel,h.rng,h.fin⟩
theorem PS.done (h:PS w0 g n tl d0 a0 b0 a b dk wr) (hr:RowS wr' g n dk' tl) (ho:Only [g] wr wr') (hp:PermIn a b dk dk') (hs:SortedIn ltInt a b dk'):
  (∃d',RowS wr' g n d' tl∧PermIn a0 b0 d0 d'∧SortedIn ltInt a0 b0 d')∧Only [g] w0 wr':=
 ⟨⟨dk',hr,h.fin dk' hp hs⟩,h.only.trans ho (fun x hx=>Or.inl hx)⟩
theorem PS.eqs (h:PS w0 g n tl d0 a0 b0 a b dk wr) {p mid:Nat} {d4:Array Int} (h0:0<a) (h1:a≤p) (h2:p<b) (hn:ltInt dk[a-1]! dk[p]! =false) (hx:partitionEqual ltInt dk a b p=(mid,d4))
  (hr:RowS wr' g n d4 tl) (ho:Only [g] wr wr'):a<mid∧mid≤b∧PS w0 g n tl d0 a0 b0 mid b d4 wr':=by
 obtain⟨r1,r2,r3,r4,r5⟩:=round_eq swo_ltInt (partitionEqual_holds ltInt) h0 h1 h2 h.bd h.bel hn hx
 exact⟨r1,r2,hr,h.only.trans ho (fun x hx=>Or.inl hx),r4,⟨r2,h.rng.2⟩,fun R q1 q2=>by obtain⟨q3,q4⟩:=r5 R q1 q2;exact h.fin R q3 q4⟩
end
theorem PS.left {w0 wr wr':World} {g n:Nat} {tl:List Value} {d0 dk d4:Array Int} {a0 b0 a b p mid:Nat} {ap:Bool} (h:PS w0 g n tl d0 a0 b0 a b dk wr) (h1:a≤p) (h2:p<b) (hx:partition ltInt dk a b p=(mid,ap,d4)) (hr:RowS wr' g n d4 tl) (ho:Only [g] wr wr'):
  a≤mid∧mid<b∧Go.Sort.Below ltInt a mid d4∧Go.Sort.Below ltInt (mid+1) b d4∧
  (∀L w2,PermIn a mid d4 L→SortedIn ltInt a mid L→RowS w2 g n L tl→Only [g] wr' w2→PS w0 g n tl d0 a0 b0 (mid+1) b L w2)∧
  (∀L w2,PermIn (mid+1) b d4 L→SortedIn ltInt (mid+1) b L→RowS w2 g n L tl→Only [g] wr' w2→PS w0 g n tl d0 a0 b0 a mid L w2):=by
 obtain⟨r1,r2,r3,r4,r5,r6,r7⟩:=round_part swo_ltInt (partition_holds ltInt) h1 h2 h.bd h.bel hx
 have hO:=h.only.trans ho (fun x hx=>Or.inl hx)
 have hb:=h.rng.2
 refine⟨r1,r2,r4,r5,fun L w2 q1 q2 q3 q4=> ?_,fun L w2 q1 q2 q3 q4=> ?_⟩
 ·obtain⟨s1,s2⟩:=r6 L q1 q2
  exact⟨q3,hO.trans q4 (fun x hx=>Or.inl hx),s1,⟨by omega,hb⟩,fun R t1 t2=>by obtain⟨t3,t4⟩:=s2 R t1 t2;exact h.fin R t3 t4⟩
 ·obtain⟨s1,s2⟩:=r7 L q1 q2
  exact⟨q3,hO.trans q4 (fun x hx=>Or.inl hx),s1,⟨by omega,by omega⟩,fun R t1 t2=>by obtain⟨t3,t4⟩:=s2 R t1 t2;exact h.fin R t3 t4⟩
theorem pdq_s: ∀(N g n cap:Nat) (tl:List Value) (a b limit:Nat) (d:Array Int) (w:World),b-a<N→RowS w g n d tl→a≤b→b≤n→n≤1000000000→limit≤1000000000→Go.Sort.Below ltInt a b d→
  Calls Tryz.prog 192 #[.slice (some ⟨g,0,none⟩) n cap,.int .i64 (a:Int),.int .i64 (b:Int),.int .i64 (limit:Int)] w fun e w'=>
   (∃r,e= .returned r)∧(∃d',RowS w' g n d' tl∧PermIn a b d d'∧SortedIn ltInt a b d')∧Only [g] w w':=by
 intro N
 induction N with
 | zero=>intro _ _ _ _ _ _ _ _ _ h;exact absurd h (Nat.not_lt_zero _)
 | succ N ih=>
  intro g n cap tl a b limit d w hN hrow hab hb hn hlim hbel
  have P0:=hid (show PS w g n tl d a b a b d w from⟨hrow,Only.refl _ _,hbel,⟨hab,hb⟩,fun R h1 h2=>⟨h1,h2⟩⟩)
  have HNN:=hid hn
  have HLIM:=hid hlim
  have HND:=hid hN
  have IH:=hid ih
  clear hrow hab hb hn hlim hbel hN ih
  go_enter Tryz.func192,Tryz.ntmps192
  go_wp2
  go_loopg [1,2,3,8,9] (b-a) (fun k s1 s2 s3 s8 s9 wr=> ∃(a' b' lim:Nat) (wb wp:Bool) (dk:Array Int),s1= .int .i64 (a':Int)∧s2= .int .i64 (b':Int)∧s3= .int .i64 (lim:Int)∧s8= .bool wb∧s9= .bool wp∧
   Hid (b'-a'≤k∧k≤b-a∧lim≤limit)∧Hid (PS w g n tl d a b a' b' dk wr))
  case atStart=>exact⟨a,b,limit,true,true,d,rfl,rfl,rfl,rfl,rfl,⟨Nat.le_refl _,Nat.le_refl _,Nat.le_refl _⟩,P0⟩
  case round=>
   obtain⟨a',b',lim,wb,wp,dk,rfl,rfl,rfl,rfl,rfl,hk,hP⟩:=hrel
   obtain⟨L,hL⟩: ∃L,L=b'-a':=⟨_,rfl⟩
   have R9:b'≤1000000000∧a'≤b'∧lim≤1000000000:=by have:=hP.out.rng;have:=HNN.out;have:=HLIM.out;have:=hk.out;omega
   have e1:(b':Int)- (a':Int)=(L:Int):=by omega
   have w1:=wrapN (q:=L) (by omega)
   have a0:(0:Int)≤(a':Int):=by omega
   have a9:(a':Int)≤1000000000:=by omega
   have b9:(b':Int)≤1000000000:=by omega
   have HR9:=hid R9
   have HL:=hid hL
   by_cases h12:L≤12
   ·have h12z:(L:Int)≤12:=by omega
    have hc:=hid (insertion_s g n cap dk tl a' b' (by omega) hP.out.rng.2 HNN.out wr hP.out.row)
    clear R9 h12 hL
    go_wp2_with fail
    refine hc.out.mono ?_
    rintro e w1 ⟨⟨r,rfl⟩,hw1,ho1⟩
    have hi:=insertionSort_holds (lt:=ltInt) swo_ltInt dk a' b' (by have:=HR9.out;omega) hP.out.bd
    have hd:=hid (hP.out.done hw1 ho1 hi.1 hi.2)
    clear hw1 ho1 hi hc
    go_wp2
    (try simp only[Exit.inBlock,Exit.then]);refine bodyPost_ret (results_none rfl _ _ _) rfl ?_
    exact⟨⟨_,rfl⟩,hd.out⟩
   ·have h12z: ¬((L:Int)≤12):=by omega
    by_cases hl0:lim=0
    ·subst hl0
     have hc:=hid (heapSort_s g n cap dk tl a' b' (by omega) hP.out.rng.2 HNN.out wr hP.out.row)
     clear R9 h12 hL
     go_wp2_with fail
     refine hc.out.mono ?_
     rintro e w1 ⟨⟨r,rfl⟩,hw1,ho1⟩
     have hi:=heapSort_holds (lt:=ltInt) swo_ltInt dk a' b' (by have:=HR9.out;omega) hP.out.bd
     have hd:=hid (hP.out.done hw1 ho1 hi.1 hi.2)
     clear hw1 ho1 hi hc
     go_wp2
     (try simp only[Exit.inBlock,Exit.then]);refine bodyPost_ret (results_none rfl _ _ _) rfl ?_
     exact⟨⟨_,rfl⟩,hd.out⟩
    ·have hl0z:((lim:Int)==0)=false:=by simp;omega
     have hl0y: ¬((lim:Int)=0):=by omega
     have wl:=wrapN (q:=lim-1) (by omega)
     have el:(lim:Int)-1=((lim-1:Nat):Int):=by omega
     have H12:=hid h12
     clear R9 h12 hL hl0
     go_upto_if 35 with fail
     go_cut [3] from 19 (fun s3 wc=> ∃(lim2:Nat) (d2:Array Int),s3= .int .i64 (lim2:Int)∧Hid (lim2≤lim)∧Hid (PS w g n tl d a b a' b' d2 wc))
     case first=>
      cases wb
      ·have hc:=hid (break_s g n cap dk tl a' b' (by have:=HR9.out;omega) hP.out.rng.2 HNN.out wr hP.out.row)
       go_wp2_with fail
       refine hc.out.mono ?_
       rintro e w1 ⟨⟨r,rfl⟩,⟨d2,hw1,hp1⟩,ho1⟩
       have hd:=hid (hP.out.perm hw1 ho1 hp1)
       clear hw1 ho1 hp1 hc
       go_wp2
       go_meet
       case rel=>exact⟨lim-1,d2,by go_num,(by omega:lim-1≤lim),hd⟩
      ·go_wp2_with fail
       go_meet
       case rel=>exact⟨lim,dk,rfl,Nat.le_refl _,hP⟩
     case rest=>
      obtain⟨lim2,d2,rfl,hl2,hP2⟩:=hcut
      clear wl el
      have hc17:=hid (pivot_s g n cap d2 tl a' b' (by have:=HL.out;have:=H12.out;omega) hP2.out.rng.2 HNN.out wc hP2.out.row)
      go_wp2_with fail
      refine hc17.out.mono ?_
      rintro e w2 ⟨⟨p,hint,hp,hh,rfl⟩,hb2⟩
      go_upto_if 50 with fail
      have hP3:=hid (hP2.out.same (Only.of_below hb2 []))
      have HP:=hid hp
      have HH:=hid hh
      clear hp hb2 hc17
      go_cut [11,12] from 19 (fun s11 s12 wc=> ∃(p:Nat) (hint:Int) (d3:Array Int),s11= .int .i64 (p:Int)∧s12= .int .i64 hint∧Hid (a'≤p∧p<b')∧Hid (PS w g n tl d a b a' b' d3 wc))
      case first=>
       by_cases h2:hint=2
       ·have hc:=hid (reverse_s g n cap d2 tl a' b' (by have:=HR9.out;omega) hP2.out.rng.2 HNN.out w2 hP3.out.row)
        have t2:(hint==2)=true:=by simp[h2]
        obtain⟨q,hq⟩: ∃q,q=(b'-1)- (p-a'):=⟨_,rfl⟩
        have eq1:(b':Int)-1- ((p:Int)- (a':Int))=(q:Int):=by have:=HP.out;omega
        have wq:=wrapN (q:=q) (by have:=HR9.out;omega)
        have wq1:=wrapN (q:=b'-1) (by have:=HR9.out;omega)
        have wq2:=wrapN (q:=p-a') (by have:=HR9.out;have:=HP.out;omega)
        have eq2:(b':Int)-1=((b'-1:Nat):Int):=by have:=HP.out;omega
        have eq3:(p:Int)- (a':Int)=((p-a':Nat):Int):=by have:=HP.out;omega
        have eq4:((b'-1:Nat):Int)- ((p-a':Nat):Int)=(q:Int):=by have:=HP.out;omega
        have HQ:=hid hq
        have HH2:=hid h2
        clear hq h2 eq1
        go_wp2_with fail
        refine hc.out.mono ?_
        rintro e w3 ⟨⟨r,rfl⟩,hw3,ho3⟩
        have hd:=hid (hP3.out.perm hw3 ho3 (reverseRange_holds d2 a' b' (by have:=HR9.out;omega) hP3.out.bd))
        clear hw3 ho3 hc
        go_wp2
        go_meet
        case rel=>exact⟨q,1,_,rfl,rfl,(by have:=HQ.out;have:=HP.out;omega:a'≤q∧q<b'),hd⟩
       ·have t2:(hint==2)=false:=by simp[h2]
        clear h2
        go_wp2_with fail
        go_meet
        case rel=>exact⟨p,hint,d2,rfl,rfl,HP,hP3⟩
      case rest=>
       obtain⟨p,hint,d3,rfl,rfl,hp,hP4⟩:=hcut
       go_upto_region 15 with fail
       go_cut [68] from 19 (fun s68 wx=> ∃t:Bool,s68= .bool t∧wx=wc)
       case first=>
        by_cases h1:hint=1
        ·have t1:(hint==1)=true:=by simp[h1]
         clear h1
         cases wb<;>cases wp<;>
          (go_wp2_with fail
           go_meet
           exact⟨_,rfl,rfl⟩)
        ·have t1:(hint==1)=false:=by simp[h1]
         clear h1
         cases wb<;>cases wp<;>
          (go_wp2_with fail
           go_meet
           exact⟨_,rfl,rfl⟩)
       case rest=>
        obtain⟨t,rfl,rfl⟩:=hcut
        go_upto_if 68 with fail
        go_cut [] from 19 (fun wx=> ∃d4:Array Int,Hid (PS w g n tl d a b a' b' d4 wx))
        case first=>
         cases t
         ·go_wp2_with fail
          go_meet
          case rel=>exact⟨d3,hP4⟩
         ·have hc:=hid (partial_s g n cap d3 tl a' b' (by have:=HL.out;have:=H12.out;omega) hP4.out.rng.2 HNN.out _ hP4.out.row)
          have hps:=hid (partialInsertionSort_holds (lt:=ltInt) swo_ltInt d3 a' b' (by have:=HL.out;have:=H12.out;omega) hP4.out.bd hP4.out.bel)
          obtain⟨rr,hrr⟩: ∃rr,rr=partialInsertionSort ltInt d3 a' b':=⟨_,rfl⟩
          rw[←hrr] at hc hps
          clear hrr
          obtain⟨d4,r⟩:=rr
          go_wp2_with fail
          refine hc.out.mono ?_
          rintro e w4 ⟨rfl,hw4,ho4⟩
          have HW4:=hid hw4
          have HO4:=hid ho4
          clear hc hw4 ho4
          cases r
          ·go_wp2
           go_meet
           exact⟨d4,hP4.out.perm HW4.out HO4.out hps.out.1⟩
          ·have hd:=hid (hP4.out.done HW4.out HO4.out hps.out.1 (hps.out.2 rfl))
           go_wp2
           (try simp only[Exit.inBlock,Exit.then]);refine bodyPost_ret (results_none rfl _ _ _) rfl ?_
           exact⟨⟨_,rfl⟩,hd.out⟩
        case rest=>
         obtain⟨d4,hP5⟩:=hcut
         obtain⟨xp,hxp⟩: ∃x,x=d4[p]! :=⟨_,rfl⟩
         obtain⟨q,hq⟩: ∃q,q=a'-1:=⟨_,rfl⟩
         obtain⟨xq,hxq⟩: ∃x,x=d4[q]! :=⟨_,rfl⟩
         have HXP:=hid hxp
         have HXQ:=hid hxq
         go_upto_region 17 with fail
         go_cut [87] from 19 (fun s87 wx=> ∃t:Bool,s87= .bool t∧Hid (t=true→0<a'∧ltInt d4[a'-1]! d4[p]! =false)∧Hid (PS w g n tl d a b a' b' d4 wx))
         case first=>
          rcases Nat.eq_zero_or_pos a' with ha0 | ha0
          ·have ha0z:decide ((0:Int)< (a':Int))=false:=decide_eq_false (by omega)
           have ha0y:decide (0<a')=false:=decide_eq_false (by omega)
           clear hxp hxq hq ha0
           go_wp2_with fail
           go_quiet (first | (go_at_call 228;exact Calls.quiet_of_same (Less_s _ _ _)))
           go_wp2_with fail
           go_meet
           case rel=>exact⟨false,rfl,(fun h=>by cases h),hP5.out.same ((Only.refl _ _).drewN _)⟩
          ·have ha0z:decide ((0:Int)< (a':Int))=true:=decide_eq_true (by omega)
           have ha0y:decide (0<a')=true:=decide_eq_true (by omega)
           have ha0x:(0:Int)< (a':Int):=by omega
           have eq1:(a':Int)-1=(q:Int):=by omega
           have wq:=wrapN (q:=q) (by omega)
           have qn:(q:Int)< (n:Int):=by have:=hP5.out.rng;omega
           have q0:(0:Int)≤(q:Int):=by omega
           have pn:(p:Int)< (n:Int):=by have:=hP5.out.rng;have:=hp.out;omega
           have p0:(0:Int)≤(p:Int):=by omega
           have cq:wc.cell? ⟨g,q,none⟩=some (.int .u64 xq):=by rw[hxq];exact hP5.out.row.cell (by omega)
           have cp:wc.cell? ⟨g,p,none⟩=some (.int .u64 xp):=by rw[hxp];exact hP5.out.row.cell (by omega)
           have HQ:=hid hq
           have HA0:=hid ha0
           clear hxp hxq hq ha0
           go_wp2_with fail
           go_quiet (first | (go_at_call 228;exact Calls.quiet_of_same (Less_s _ _ _)))
           go_wp2_with fail
           go_meet
           case rel=>exact⟨_,rfl,(fun h=>⟨HA0.out,by rw[←HQ.out,←HXQ.out,←HXP.out];simpa using h⟩),hP5.out.same ((Only.refl _ _).drewN _)⟩
         case rest=>
          obtain⟨t,rfl,ht,hP6⟩:=hcut
          clear hxp hxq hq
          replace ht:t=true→Hid (0<a'∧ltInt d4[a'-1]! d4[p]! =false):=ht.out
          cases t
          ·obtain⟨mid,ap,d5,hx⟩: ∃mid ap d5,partition ltInt d4 a' b' p=(mid,ap,d5):=⟨_,_,_,rfl⟩
           have hc:=part_s g n cap d4 tl a' b' p hp.out.1 hp.out.2 hP6.out.rng.2 HNN.out _ hP6.out.row
           rw[hx] at hc
           have HC:=hid hc
           have HX:=hid hx
           clear hc hx
           go_wp2_with fail
           refine HC.out.mono ?_
           rintro e w7 ⟨rfl,hw7,ho7⟩
           obtain⟨m1,m2,m3,m4,mL,mR⟩:=hP6.out.left hp.out.1 hp.out.2 HX.out hw7 ho7
           have HW7:=hid hw7
           have HO7:=hid ho7
           have HM:=hid (show a'≤mid∧mid<b' from⟨m1,m2⟩)
           have ML:=hid mL
           have MR:=hid mR
           have M3:=hid m3
           have M4:=hid m4
           obtain⟨ll,hll⟩: ∃ll,ll=mid-a':=⟨_,rfl⟩
           obtain⟨lr,hlr⟩: ∃lr,lr=b'-mid:=⟨_,rfl⟩
           obtain⟨th,hth⟩: ∃th,th=L/8:=⟨_,rfl⟩
           have v1:(mid:Int)- (a':Int)=(ll:Int):=by omega
           have v2:(b':Int)- (mid:Int)=(lr:Int):=by omega
           have v3:((L:Int)).tdiv 8=(th:Int):=by rw[Int.tdiv_eq_ediv_of_nonneg (by omega)];omega
           have z1:=wrapN (q:=ll) (by have:=HR9.out;omega)
           have z2:=wrapN (q:=lr) (by have:=HR9.out;omega)
           have z3:=wrapN (q:=th) (by have:=HR9.out;have:=HL.out;omega)
           obtain⟨mm,hmm⟩: ∃mm,mm=mid+1:=⟨_,rfl⟩
           have z4:=wrapN (q:=mm) (by have:=HR9.out;have:=HM.out;omega)
           have e4:(mid:Int)+1=(mm:Int):=by omega
           have HMM:=hid hmm
           have HLL:=hid hll
           have HLR:=hid hlr
           clear hw7 ho7 m1 m2 m3 m4 mL mR hll hlr hth HC hmm
           by_cases h4:ll<lr
           ·have h4z:(ll:Int)< (lr:Int):=by omega
            have hih:=hid (IH.out g n cap tl a' mid lim2 d5 w7 (by have:=HM.out;have:=HND.out;have:=hk.out;omega) HW7.out HM.out.1 (by have:=HM.out;have:=hP6.out.rng;omega) HNN.out (by have:=hl2.out;have:=HR9.out;omega) M3.out)
            clear h4
            go_wp2_with fail
            refine hih.out.mono ?_
            rintro e w8 ⟨⟨r8,rfl⟩,⟨d6,hw8,hp8,hs8⟩,ho8⟩
            have M8:=hid (ML.out d6 w8 hp8 hs8 hw8 ho8)
            clear hih hw8 hp8 hs8 ho8
            go_wp2
            go_roundg (b'- (mid+1))
            case measure=>have:=HM.out;have:=hk.out;omega
            case rel=>exact⟨mm,b',lim2,_,ap,d6,rfl,rfl,rfl,rfl,rfl,⟨by have:=HMM.out;omega,by have:=HM.out;have:=hk.out;omega,Nat.le_trans hl2.out hk.out.2.2⟩,by rw[HMM.out];exact M8⟩
           ·have h4z: ¬(ll:Int)< (lr:Int):=by omega
            have hih:=hid (IH.out g n cap tl mm b' lim2 d5 w7 (by have:=HM.out;have:=HMM.out;have:=HND.out;have:=hk.out;omega) HW7.out (by have:=HM.out;have:=HMM.out;omega) hP6.out.rng.2 HNN.out (by have:=hl2.out;have:=HR9.out;omega) (by rw[HMM.out];exact M4.out))
            clear h4
            go_wp2_with fail
            refine hih.out.mono ?_
            rintro e w8 ⟨⟨r8,rfl⟩,⟨d6,hw8,hp8,hs8⟩,ho8⟩
            rw[HMM.out] at hp8 hs8
            have M8:=hid (MR.out d6 w8 hp8 hs8 hw8 ho8)
            clear hih hw8 hp8 hs8 ho8
            go_wp2
            go_roundg (mid-a')
            case measure=>have:=HM.out;have:=hk.out;omega
            case rel=>exact⟨a',mid,lim2,_,ap,d6,rfl,rfl,rfl,rfl,rfl,⟨Nat.le_refl _,by have:=HM.out;have:=hk.out;omega,Nat.le_trans hl2.out hk.out.2.2⟩,M8⟩
          ·have HT:=ht rfl
           clear ht
           obtain⟨mid,d5,hx⟩: ∃mid d5,partitionEqual ltInt d4 a' b' p=(mid,d5):=⟨_,_,rfl⟩
           have hc:=partEq_s g n cap d4 tl a' b' p hp.out.1 hp.out.2 hP6.out.rng.2 HNN.out _ hP6.out.row
           rw[hx] at hc
           have HC:=hid hc
           have HX:=hid hx
           clear hc hx
           go_wp2_with fail
           refine HC.out.mono ?_
           rintro e w7 ⟨rfl,hw7,ho7⟩
           obtain⟨m1,m2,m3⟩:=hP6.out.eqs HT.out.1 hp.out.1 hp.out.2 HT.out.2 HX.out hw7 ho7
           have HM:=hid (show a'<mid∧mid≤b' from⟨m1,m2⟩)
           have M3:=hid m3
           clear hw7 ho7 m1 m2 m3 HC
           go_wp2
           go_roundg (b'-mid)
           case measure=>have:=HM.out;have:=hk.out;omega
           case rel=>exact⟨mid,b',lim2,wb,wp,d5,rfl,rfl,rfl,rfl,rfl,⟨Nat.le_refl _,by have:=HM.out;have:=hk.out;omega,Nat.le_trans hl2.out hk.out.2.2⟩,M3⟩
theorem Sort_s (g n cap:Nat) (tl:List Value) (d:Array Int) (w:World) (h:RowS w g n d tl) (hn:n≤1000000000):
  Calls Tryz.prog 133 #[.slice (some ⟨g,0,none⟩) n cap] w fun e w'=>
   (∃r,e= .returned r)∧(∃d',RowS w' g n d' tl∧PermIn 0 n d d'∧SortedIn ltInt 0 n d')∧Only [g] w w':=by
 have hL:=hid (Len_s (n:Int) w (by omega) (by omega))
 have hLb:Lib.bitLen (n:Int).toNat≤1000000000:=by
  rw[Int.toNat_natCast,bitLen_z n (by omega)]
  have:=(Go.Sort.bitsLen_le_iff n 62).2 (by omega)
  omega
 obtain⟨lb,hlb⟩: ∃lb,lb=Lib.bitLen (n:Int).toNat:=⟨_,rfl⟩
 rw[←hlb] at hL hLb
 have hP:=hid (pdq_s (n+1) g n cap tl 0 n lb d w (by omega) h (Nat.zero_le _) (Nat.le_refl _) hn hLb (Or.inl rfl))
 have n0:(0:Int)≤(n:Int):=by omega
 have n9:(n:Int)≤1000000000:=by omega
 clear hlb h hn hLb
 go_enter Tryz.func133,Tryz.ntmps133
 go_wp2_with fail
 refine hL.out.mono ?_
 rintro e w1 ⟨rfl,rfl⟩
 go_wp2_with fail
 refine hP.out.mono ?_
 rintro e w2 ⟨⟨r,rfl⟩,h2⟩
 have H2:=hid h2
 clear h2
 go_wp2
 go_end0
 exact⟨⟨_,rfl⟩,H2.out⟩
theorem insert_none (w:World):Calls Tryz.prog 222 #[.slice none 0 0,.int .i64 0,.int .i64 0] w fun e w'=>(∃r,e= .returned r)∧w=w':=by
 go_enter Tryz.func222,Tryz.ntmps222
 go_wp2
 go_loopw [6] (fun v wr=>v= .int .i64 1∧w=wr) (fun _ _=>0)
 case atStart=>exact⟨rfl,rfl⟩
 case round=>
  obtain⟨rfl,rfl⟩:=hrel
  go_wp2
  go_end0
  exact⟨⟨_,rfl⟩,rfl⟩
theorem pdq_none (w:World) (k:Int):Calls Tryz.prog 192 #[.slice none 0 0,.int .i64 0,.int .i64 0,.int .i64 k] w fun e w'=>(∃r,e= .returned r)∧w=w':=by
 go_enter Tryz.func192,Tryz.ntmps192
 go_wp2
 go_loopg [1,2,3,8,9] 0 (fun n s1 s2 s3 s8 s9 wr=>s1= .int .i64 0∧s2= .int .i64 0∧s3= .int .i64 k∧s8= .bool true∧s9= .bool true∧w=wr)
 case atStart=>exact⟨rfl,rfl,rfl,rfl,rfl,rfl⟩
 case round=>
  obtain⟨rfl,rfl,rfl,rfl,rfl,rfl⟩:=hrel
  go_wp2_with fail
  refine(insert_none w).mono ?_
  rintro e w1 ⟨⟨r,rfl⟩,rfl⟩
  go_wp2
  (try simp only[Exit.inBlock,Exit.then]);refine bodyPost_ret (results_none rfl _ _ _) rfl ?_
  exact⟨⟨_,rfl⟩,rfl⟩
theorem Sort_none (w:World):Calls Tryz.prog 133 #[.slice none 0 0] w fun e w'=>(∃r,e= .returned r)∧w=w':=by
 have hL:=hid (Len_s 0 w (by omega) (by omega))
 obtain⟨lb,hlb⟩: ∃lb,lb=Lib.bitLen (0:Int).toNat:=⟨_,rfl⟩
 rw[←hlb] at hL
 clear hlb
 go_enter Tryz.func133,Tryz.ntmps133
 go_wp2_with fail
 refine hL.out.mono ?_
 rintro e w1 ⟨rfl,rfl⟩
 go_wp2_with fail
 refine(pdq_none _ _).mono ?_
 rintro e w2 ⟨⟨r,rfl⟩,rfl⟩
 go_wp2
 go_end0
 exact⟨⟨_,rfl⟩,rfl⟩
theorem sorted_list (d d':Array Int) (n:Nat) (hn:d.size=n) (h1:PermIn 0 n d d') (h2:SortedIn ltInt 0 n d'):d'.toList.Perm d.toList∧d'.toList.Pairwise (· ≤ ·):=by
 subst hn
 obtain⟨s1,s2,s3⟩:=h1
 have e1:(d'.extract 0 d.size).toList=d'.toList:=by rw[←s1];simp
 have e2:(d.extract 0 d.size).toList=d.toList:=by simp
 rw[e1,e2] at s3
 refine⟨s3,List.pairwise_iff_getElem.2 fun i j hi hj hij=> ?_⟩
 simp only[Array.length_toList] at hi hj
 have h3:=h2 i j (Nat.zero_le _) hij (by omega)
 rw[getElem!_pos d' j hj,getElem!_pos d' i hi] at h3
 simp only[ltInt,decide_eq_false_iff_not] at h3
 simp only[Array.getElem_toList]
 omega
end
end Go.Proofs.YtibiekfjbibpbaaGreat
