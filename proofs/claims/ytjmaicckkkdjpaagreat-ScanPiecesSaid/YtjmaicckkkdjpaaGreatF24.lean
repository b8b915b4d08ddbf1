import Derived.Test.YtjmaicckkkdjpaaGreatF23
import Derived.Deep.CutBlock
import Derived.StillTailTactics
/- The document's nodes: Len, Is, Places, Valid. -/
set_option maxRecDepth 100000
set_option maxHeartbeats 2000000
set_option linter.unusedVariables false
set_option linter.unusedSimpArgs false
namespace Go.Proofs.YtjmaicckkkdjpaaGreat
open Go.RowKit
section
attribute [local go_sem ↓ high] nodeLoadAt nodeLoadVar nodeStoreAt ptrsLoadAt append_shut2
attribute [local go_sem] ldM_run lvM_run stM_run Oper.semAt_some appM2_run
theorem nodeBox (n:NodeA) (w:World): ∃W1,W1=w.alloc (.cells (nodeC n) 77)∧Blk W1 w.heap.size 77 (nodeC n)∧Below w.heap.size w W1:=⟨_,rfl,Blk.new _ _ _,ba (Below.refl _ _) _⟩
end
section
attribute [local go_sem ↓ high] nodeLoadAt nodeLoadVar nodeStoreAt ptrsLoadAt append_shut2
attribute [local go_sem] ldM_run lvM_run stM_run Oper.semAt_some appM2_run
def EntsAt (w:World) (v:Value) (l:List (Int×Int)):Prop:=
 ∃ao cap,v= .slice ao l.length cap∧(l=[]∨ ∃b off,ao=some ⟨b,off,none⟩∧b<w.heap.size∧ ∀i x,l[i]?=some x→w.cell? ⟨b,off+i*2,none⟩=some (.int .u64 x.1)∧w.cell? ⟨b,off+i*2+1,none⟩=some (.int .u64 x.2))
theorem EntsAt.bel {w w':World} {v:Value} {l:List (Int×Int)} (h:EntsAt w v l) (hb:Below w.heap.size w w'):EntsAt w' v l:=by
 obtain⟨ao,cap,h1,h2⟩:=h
 refine⟨ao,cap,h1,?_⟩
 rcases h2 with h2 | ⟨b,off,h3,h4,h5⟩
 ·exact Or.inl h2
 ·exact Or.inr ⟨b,off,h3,Nat.lt_of_lt_of_le h4 hb.size,fun i x hi=>⟨(hb.cell (p:=⟨b,off+i*2,none⟩) h4).trans (h5 i x hi).1,(hb.cell (p:=⟨b,off+i*2+1,none⟩) h4).trans (h5 i x hi).2⟩⟩
theorem entL_at: ∀(l:List (Int×Int)) (i:Nat) (x:Int×Int),l[i]?=some x→(l.flatMap entC)[i*2]?=some (.int .u64 x.1)∧(l.flatMap entC)[i*2+1]?=some (.int .u64 x.2)
 | [],i,x,h=>by simp at h
 | y::l,0,x,h=>by
  simp at h;subst h
  exact⟨rfl,rfl⟩
 | y::l,i+1,x,h=>by
  have:=entL_at l i x (by simpa using h)
  rw[List.flatMap_cons,show(i+1)*2=(i*2)+1+1 by omega]
  exact this
theorem EntsAt.of_own {w:World} {base:Nat} {e:TypeId} {v:Value} {l:List (Int×Int)} (h:w.ownsRow base e 2 v l.length (l.flatMap entC)):EntsAt w v l:=by
 rcases h.2 with⟨rfl,h2⟩ | ⟨g,cap,cur,rfl,h2,h3,h4,h5,h6,h7⟩
 ·exact⟨none,0,by rw[h2],Or.inl (List.length_eq_zero_iff.1 h2)⟩
 ·refine⟨some ⟨g,0,none⟩,cap,rfl,Or.inr ⟨g,0,rfl,(Array.getElem?_eq_some_iff.1 h3).1,fun i x hi=> ?_⟩⟩
  have hl:i<l.length:=(List.getElem?_eq_some_iff.1 hi).1
  have hc:Blk w g e cur:=h3
  have key: ∀j v,j<l.length*2→(l.flatMap entC)[j]?=some v→w.cell? ⟨g,0+j,none⟩=some v:=fun j v hj hv=>by
   rw[hc.cell,Nat.zero_add,←Array.getElem?_toList]
   have:(cur.toList.take (l.length*2))[j]?=some v:=by rw[h7];exact hv
   rw[List.getElem?_take,if_pos hj] at this
   exact this
  exact⟨key _ _ (by omega) (entL_at l i x hi).1,key (i*2+1) _ (by omega) (entL_at l i x hi).2⟩
def t1N (lv low:Int) (x:Int×Int):Bool:=decide (x.1<low) || (decide (0<lv)&&decide (x.1=low))
def t2N (fi:Int) (l:List (Int×Int)) (x:Int×Int) (i:Nat):Bool:=(decide (0<i)&&decide (x.1≤(l.getD (i-1) (0,0)).1)) || decide (x.2=fi)
def badN (lv low fi:Int) (l:List (Int×Int)) (i:Nat):Bool:=
 let x:=l.getD i (0,0)
 t1N lv low x || t2N fi l x i || (l.take i).any fun y=>decide (y.2=x.2)
def riseN (lv low fi:Int) (l:List (Int×Int)):Bool:=(List.range l.length).all fun i=> !badN lv low fi l i
theorem rise_no {lv low fi:Int} {l:List (Int×Int)} {i:Nat} (hi:i<l.length) (h:badN lv low fi l i=true):riseN lv low fi l=false:=by
 unfold riseN
 rw[List.all_eq_false]
 exact⟨i,List.mem_range.2 hi,by simp[h]⟩
theorem rise_yes {lv low fi:Int} {l:List (Int×Int)} (h: ∀i,i<l.length→badN lv low fi l i=false):riseN lv low fi l=true:=by
 unfold riseN
 rw[List.all_eq_true]
 intro i hi
 rw[h i (List.mem_range.1 hi)];rfl
theorem getD_some {α:Type} {l:List α} {i:Nat} {x d:α} (h:l[i]?=some x):l.getD i d=x:=by rw[List.getD_eq_getElem?_getD,h];rfl
theorem belN2 (w:World) (n:Nat):Below w.heap.size w (w.drewN n):=⟨rfl,rfl,rfl,Nat.le_refl _,fun _ _=>rfl⟩
theorem RNRise_r (lv low fi:Int) (v:Value) (l:List (Int×Int)) (w:World) (h:EntsAt w v l) (h8:l.length≤8):
  Calls Tryz.prog 78 #[.int .i64 lv,.int .u64 low,.int .u64 fi,v] w fun e W'=>e= .returned (.bool (riseN lv low fi l))∧Below w.heap.size w W':=by
 obtain⟨ao,cap,rfl,hcl⟩:=h
 obtain⟨q,hq⟩: ∃q,q=l.length:=⟨_,rfl⟩
 rw[←hq] at h8 ⊢
 have HQ:=hid hq
 have HC:=hid hcl
 clear hcl hq
 go_enter Tryz.func78,Tryz.ntmps78
 go_wp2
 go_loopw [9,10] (fun iv kv wr=> ∃k:Nat,k≤q∧iv= .int .i64 k∧Hid (Below w.heap.size w wr)∧Hid (∀i,i<k→badN lv low fi l i=false)) (fun iv _ _=>(q- (intOf iv).toNat))
 case atStart=>exact⟨0,by omega,rfl,Below.refl _ _,fun i hi=>by omega⟩
 case round=>
  obtain⟨k,hk,rfl,hI,hOK⟩:=hrel
  by_cases hlt:k<q
  ·have i1:(k:Int)< (q:Int):=by omega
   have i0:(0:Int)≤(k:Int):=by omega
   obtain⟨x,hx⟩: ∃x,l[k]?=some x:=⟨_,List.getElem?_eq_getElem (by rw[←HQ.out];exact hlt)⟩
   obtain⟨g,off,hva,hgl,hcl⟩:=HC.out.resolve_left (fun e=>by rw[e] at hx;simp at hx)
   subst hva
   have HB:=hid (fun W (hb:Below w.heap.size w W) i y (hi:l[i]?=some y)=>(⟨(hb.cell (p:=⟨g,off+i*2,none⟩) hgl).trans (hcl i y hi).1,(hb.cell (p:=⟨g,off+i*2+1,none⟩) hgl).trans (hcl i y hi).2⟩:W.cell? ⟨g,off+i*2,none⟩=some (.int .u64 y.1)∧W.cell? ⟨g,off+i*2+1,none⟩=some (.int .u64 y.2)))
   have HX:=hid hx
   have HLT:=hid hlt
   have HBAD:=hid (show badN lv low fi l k=(t1N lv low x || t2N fi l x k || (l.take k).any fun y=>decide (y.2=x.2)) by unfold badN;rw[getD_some hx])
   obtain⟨c1,c2⟩:=HB.out wr hI.out k x hx
   clear hcl hx hlt hk HC
   go_upto_region 4 with fail
   go_cut [36] from 11 to 77 (fun s36 wc=>s36= .bool (t1N lv low x)∧Hid (wc=wr))
   case first=>
    by_cases b1:x.1<low
    ·go_wp2_with fail
     go_meet
     exact⟨by unfold t1N;simp[b1],rfl⟩
    ·by_cases b2:0<lv
     ·by_cases b3:x.1=low
      ·have b3':(x.1==low)=true:=by simpa using b3
       go_wp2_with fail
       go_meet
       exact⟨by unfold t1N;simp[b2,b3],rfl⟩
      ·have b3':(x.1==low)=false:=by simpa using b3
       go_wp2_with fail
       go_meet
       exact⟨by unfold t1N;simp;exact⟨by omega,fun _=>by omega⟩,rfl⟩
     ·go_wp2_with fail
      go_meet
      exact⟨by unfold t1N;simp;exact⟨by omega,fun _=>by omega⟩,rfl⟩
   case rest=>
    obtain⟨rfl,hwc⟩:=hcut
    obtain rfl:=hwc.out
    clear hwc
    obtain⟨b1,hb1⟩: ∃b1,b1=t1N lv low x:=⟨_,rfl⟩
    rw[←hb1] at HBAD ⊢
    clear hb1
    cases b1
    ·go_upto_region 6 with fail
     go_cut [61] from 37 to 77 (fun s61 wd=>s61= .bool (t2N fi l x k)∧Hid (Below w.heap.size w wd))
     case first=>
      have BD:=hid (fun nq=>hI.out.trans ((belN2 wc nq).mono hI.out.size))
      by_cases b2:0<k
      ·have d2:(0:Int)< (k:Int):=by omega
       have d3:((k:Int)-1).toNat=k-1:=by omega
       have d5:(k:Int)-1< (q:Int):=by omega
       have d6:(0:Int)≤(k:Int)-1:=by omega
       obtain⟨y,hy⟩: ∃y,l[k-1]?=some y:=⟨_,List.getElem?_eq_getElem (by have:=HLT.out;have:=HQ.out;omega)⟩
       obtain⟨c3,c4⟩:=HB.out wc hI.out (k-1) y hy
       have ht:t2N fi l x k=(decide (x.1≤y.1) || decide (x.2=fi)):=by unfold t2N;rw[getD_some hy];simp[b2]
       have HT:=hid ht
       clear hy ht c4
       by_cases b3:x.1≤y.1
       ·go_quiet (fail)
        go_wp2_with fail
        go_meet
        exact⟨by rw[HT.out];simp[b3],BD.out _⟩
       ·by_cases b4:x.2=fi
        ·have b4':(x.2==fi)=true:=by simpa using b4
         go_quiet (fail)
         go_wp2_with fail
         go_meet
         exact⟨by rw[HT.out];simp[b4],BD.out _⟩
        ·have b4':(x.2==fi)=false:=by simpa using b4
         go_quiet (fail)
         go_wp2_with fail
         go_meet
         exact⟨by rw[HT.out];simp[b3,b4],BD.out _⟩
      ·obtain rfl:k=0:=by omega
       have d2: ¬(0:Int)< ((0:Nat):Int):=by omega
       by_cases b4:x.2=fi
       ·have b4':(x.2==fi)=true:=by simpa using b4
        go_quiet (fail)
        go_wp2_with fail
        go_meet
        exact⟨by unfold t2N;simp[b4],BD.out _⟩
       ·have b4':(x.2==fi)=false:=by simpa using b4
        go_quiet (fail)
        go_wp2_with fail
        go_meet
        exact⟨by unfold t2N;simp[b4],BD.out _⟩
     case rest=>
      obtain⟨rfl,hI1⟩:=hcut
      clear c1 c2
      obtain⟨b2,hb2⟩: ∃b2,b2=t2N fi l x k:=⟨_,rfl⟩
      rw[←hb2] at HBAD ⊢
      clear hb2
      cases b2
      ·have HAT:=hid hgl
       clear hgl
       go_wp2
       go_loopw [10] (fun jv wj=> ∃j:Nat,j≤k∧jv= .int .i64 j∧Hid (Below w.heap.size w wj)∧Hid (∀i y,i<j→l[i]?=some y→y.2≠x.2)) (fun jv _=>(k- (intOf jv).toNat))
       case atStart=>exact⟨0,by omega,rfl,hI1,fun i y hi=>by omega⟩
       case round=>
        obtain⟨j,hj,rfl,hI2,hNE⟩:=hrel
        obtain⟨c1,c2⟩:=HB.out wr hI2.out k x HX.out
        by_cases hjk:j<k
        ·have e1:(j:Int)< (k:Int):=by omega
         have e0:(0:Int)≤(j:Int):=by omega
         have e2:(j:Int)< (q:Int):=by omega
         obtain⟨y,hy⟩: ∃y,l[j]?=some y:=⟨_,List.getElem?_eq_getElem (by have:=HLT.out;have:=HQ.out;omega)⟩
         obtain⟨c3,c4⟩:=HB.out wr hI2.out j y hy
         have HY:=hid hy
         have HJK:=hid hjk
         have BD:=hid (fun nq=>hI2.out.trans ((belN2 wr nq).mono hI2.out.size))
         clear hy hj hjk c1 c3
         by_cases h4:y.2=x.2
         ·have h4':(y.2==x.2)=true:=by simpa using h4
          have H4:=hid h4
          clear h4
          go_upto_region 11 with fail
          go_quiet (fail)
          go_wp2
          go_ret
          refine⟨?_,BD.out _⟩
          rw[rise_no (by rw[←HQ.out];exact HLT.out) (by
           rw[HBAD.out,Bool.or_eq_true];right
           rw[List.any_eq_true]
           exact⟨y,List.mem_of_getElem? (i:=j) (by rw[List.getElem?_take,if_pos HJK.out];exact HY.out),by simpa using H4.out⟩)]
          rfl
         ·have h4':(y.2==x.2)=false:=by simpa using h4
          have H4:=hid h4
          clear h4
          go_upto_region 11 with fail
          go_quiet (fail)
          go_wp2
          go_roundw
          case rel=>
           refine⟨j+1,HJK.out,by go_num,BD.out _,fun i z hi hz=> ?_⟩
           by_cases hij:i=j
           ·subst hij;rw[HY.out] at hz;injection hz with hz;subst hz;exact H4.out
           ·exact hNE.out i z (by omega) hz
          case measure=>simp[intOf];have:=HJK.out;omega
        ·obtain rfl:j=k:=by omega
         have e1: ¬(j:Int)< (j:Int):=by omega
         clear hjk hj
         go_wp2
         go_roundw
         case rel=>
          refine⟨j+1,HLT.out,by go_num,hI2,fun i hi=> ?_⟩
          by_cases hij:i=j
          ·subst hij
           rw[HBAD.out]
           simp only[Bool.false_or]
           rw[List.any_eq_false]
           intro y hy
           obtain⟨i2,h2⟩:=List.mem_iff_getElem?.1 hy
           rw[List.getElem?_take] at h2
           split at h2
           ·next h3=>simpa using hNE.out i2 y h3 h2
           ·cases h2
          ·exact hOK.out i (by omega)
         case measure=>simp[intOf];have:=HLT.out;omega
      ·go_wp2
       go_ret
       exact⟨by rw[rise_no (by rw[←HQ.out];exact HLT.out) (by rw[HBAD.out];rfl)];rfl,hI1.out⟩
    ·go_wp2
     go_ret
     exact⟨by rw[rise_no (by rw[←HQ.out];exact HLT.out) (by rw[HBAD.out];rfl)];rfl,hI.out⟩
  ·obtain rfl:k=q:=by omega
   have i1: ¬(k:Int)< (k:Int):=by omega
   clear hlt hk
   go_wp2
   go_ret
   exact⟨by rw[rise_yes (by rw[←HQ.out];exact hOK.out)];rfl,hI.out⟩
end
section
attribute [local go_sem ↓ high] nodeLoadAt nodeLoadVar nodeStoreAt ptrsLoadAt append_shut2
attribute [local go_sem] ldM_run lvM_run stM_run Oper.semAt_some appM2_run
def actE (high:Int) (has:Bool) (x:Int×Int):Bool:= !has || decide (x.1<high)
def activeN (n:NodeA) (high:Int) (has:Bool):List (Int×Int):=(validN n).filter (actE high has)
theorem valid_len (n:NodeA):(validN n).length≤8:=by unfold validN;rw[List.length_map];exact places_len n
end
section
attribute [local go_sem ↓ high] nodeLoadAt nodeLoadVar nodeStoreAt ptrsLoadAt append_shut2
attribute [local go_sem] ldM_run lvM_run stM_run Oper.semAt_some appM2_run
def AsksE (F:Nat) (caps:Array Value) (l:List (Int×Int)) (p:Int×Int→Bool) (w:World):Prop:=
 ∀W,Below w.heap.size w W→ ∀x∈l,Calls Tryz.prog F (#[.agg #[.int .u64 x.1,.int .u64 x.2]]++caps) W fun e W'=>e= .returned (.bool (p x))∧Below W.heap.size W W'
def idxE (l:List (Int×Int)) (p:Int×Int→Bool):Int:=if l.any p then(l.findIdx p:Int) else-1
theorem idxE_at {l:List (Int×Int)} {p:Int×Int→Bool} {k:Nat} {x:Int×Int} (hx:l[k]?=some x) (h0: ∀j y,j<k→l[j]?=some y→p y=false) (h1:p x=true):idxE l p=(k:Int):=by
 have hk:k<l.length:=(List.getElem?_eq_some_iff.1 hx).1
 have hk2:l[k]=x:=(List.getElem?_eq_some_iff.1 hx).2
 rw[idxE,if_pos (List.any_eq_true.2 ⟨x,List.mem_of_getElem? hx,h1⟩)]
 congr 1
 rw[List.findIdx_eq hk]
 exact⟨by rw[hk2];exact h1,fun j hj=>by simpa using h0 j l[j] hj (List.getElem?_eq_getElem (by omega))⟩
theorem idxE_no {l:List (Int×Int)} {p:Int×Int→Bool} (h0: ∀y∈l,p y=false):idxE l p= -1:=by
 rw[idxE,if_neg]
 rw[List.any_eq_true]
 rintro⟨y,hy,hp⟩
 rw[h0 y hy] at hp;cases hp
theorem idxE_z (F:Nat) (caps:Array Value) (l:List (Int×Int)) (p:Int×Int→Bool) (v:Value) (h8:l.length≤8) (w:World) (h:EntsAt w v l) (hF:AsksE F caps l p w)
 (hfc:False∨ ∃c d,F=148∧caps= #[c,d]):
  Calls Tryz.prog 176 #[v,.func (.func F) #[] caps] w fun e w'=>e= .returned (.int .i64 (idxE l p))∧Below w.heap.size w w':=by
 obtain⟨ao,cap,rfl,hcl⟩:=h
 obtain⟨n,hn⟩: ∃n,n=l.length:=⟨_,rfl⟩
 rw[←hn] at h8 ⊢
 have HN:=hid hn
 have HC:=hid hcl
 have HF:=hid hF
 clear hn hcl hF
 go_enter Tryz.func176,Tryz.ntmps176
 go_wp2
 go_loopw [8] (fun i wr=> ∃k:Nat,k≤n∧i= .int .i64 k∧Hid (Below w.heap.size w wr)∧Hid (∀j y,j<k→l[j]?=some y→p y=false)) (fun i _=>n- (intOf i).toNat)
 case atStart=>exact⟨0,Nat.zero_le _,rfl,Below.refl _ _,fun j y hj=>absurd hj (Nat.not_lt_zero _)⟩
 case round=>
  obtain⟨k,hk,rfl,hI,hA⟩:=hrel
  by_cases hkn:k<n
  ·have i1:(0:Int)≤(k:Int):=by omega
   have i2:(k:Int)< (n:Int):=by omega
   obtain⟨x,hx⟩: ∃x,l[k]?=some x:=⟨_,List.getElem?_eq_getElem (by rw[←HN.out];exact hkn)⟩
   obtain⟨g,off,hva,hgl,hcl⟩:=HC.out.resolve_left (fun e=>by rw[e] at hx;simp at hx)
   subst hva
   have c1:wr.cell? ⟨g,off+k*2,none⟩=some (.int .u64 x.1):=(hI.out.cell (p:=⟨g,off+k*2,none⟩) hgl).trans (hcl k x hx).1
   have c2:wr.cell? ⟨g,off+k*2+1,none⟩=some (.int .u64 x.2):=(hI.out.cell (p:=⟨g,off+k*2+1,none⟩) hgl).trans (hcl k x hx).2
   have HX:=hid hx
   have HK:=hid hkn
   have CF:=hid (HF.out wr hI.out x (List.mem_of_getElem? hx))
   clear hx hcl hkn hk HF HC
   rcases hfc with hfc | ⟨c,d,rfl,rfl⟩
   ·exact hfc.elim
   all_goals
    go_wp2_with fail
    refine CF.out.mono ?_
    rintro e w2 ⟨rfl,hb2⟩
    have H2:=hid (hI.out.trans (hb2.mono hI.out.size))
    obtain⟨b,hb⟩: ∃b,b=p x:=⟨_,rfl⟩
    rw[←hb]
    have HB:=hid hb
    clear hb hb2 CF
    cases b
    ·go_wp2
     go_roundw
     case rel=>
      refine⟨k+1,HK.out,by go_num,H2,fun j y hj hy=> ?_⟩
      by_cases hjk:j=k
      ·subst hjk;rw[HX.out] at hy;injection hy with hy;subst hy;exact HB.out.symm
      ·exact hA.out j y (by omega) hy
     case measure=>simp[intOf];have:=HK.out;omega
    ·go_wp2
     go_ret
     exact⟨by rw[idxE_at HX.out hA.out HB.out.symm];rfl,H2.out⟩
  ·obtain rfl:k=n:=by omega
   have i2: ¬(k:Int)< (k:Int):=by omega
   clear hkn hk
   go_wp2
   go_ret
   exact⟨by
    rw[idxE_no (fun y hy=>by
     obtain⟨j,hj⟩:=List.mem_iff_getElem?.1 hy
     exact hA.out j y (by have:=(List.getElem?_eq_some_iff.1 hj).1;have:=HN.out;omega) hj)]
    rfl,hI.out⟩
end
section
attribute [local go_sem ↓ high] nodeLoadAt nodeLoadVar nodeStoreAt ptrsLoadAt append_shut2
attribute [local go_sem] ldM_run lvM_run stM_run Oper.semAt_some appM2_run
section
variable {P:Program} {ops:Array Oper} {w:World}
end
theorem EntsAt.take {w:World} {v:Value} {l:List (Int×Int)} {ao:Option Addr} {cap:Nat} (h:EntsAt w v l) (hv:v= .slice ao l.length cap) (k:Nat) (hk:k≤l.length) (c:Nat):EntsAt w (.slice ao k c) (l.take k):=by
 obtain⟨ao',cap',rfl,h2⟩:=h
 injection hv with e1 e2 e3
 subst e1
 have hl:(l.take k).length=k:=by rw[List.length_take];omega
 refine⟨ao',c,by rw[hl],?_⟩
 rcases h2 with h2 | ⟨b,off,h3,h4,h5⟩
 ·left;rw[h2,List.take_nil]
 ·refine Or.inr ⟨b,off,h3,h4,fun i x hi=>h5 i x ?_⟩
  rw[List.getElem?_take] at hi
  split at hi
  ·exact hi
  ·cases hi
def CapOK (v:Value):Prop:= ∀ao n cap,v= .slice ao n cap→n≤cap
theorem CapOK.of_own {w:World} {base size n:Nat} {e:TypeId} {v:Value} {xs:List Value} (h:w.ownsRow base e size v n xs):CapOK v:=by
 intro ao m cap hv
 rcases h.2 with⟨rfl,_⟩ | ⟨g,c,cur,rfl,_,_,h4,_⟩
 ·injection hv with _ e1 e2;omega
 ·injection hv with _ e1 e2;omega
end
section
attribute [local go_sem ↓ high] nodeLoadAt nodeLoadVar nodeStoreAt ptrsLoadAt append_shut2
attribute [local go_sem] ldM_run lvM_run stM_run Oper.semAt_some appM2_run
end
end Go.Proofs.YtjmaicckkkdjpaaGreat
