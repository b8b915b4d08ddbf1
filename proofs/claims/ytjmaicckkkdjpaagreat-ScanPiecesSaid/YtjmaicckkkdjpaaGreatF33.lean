import Derived.Maps.AppendAt
import Derived.Test.YtjmaicckkkdjpaaGreatF32
set_option maxRecDepth 100000
set_option maxHeartbeats 4000000
set_option linter.unusedVariables false
/- The document's Pairs: the least key, then the least one above it, and so on. -/
namespace Go.Proofs.YtjmaicckkkdjpaaGreat
open Go.RowKit
def kx (L:RL) (x:Nat):Int:=match L[x]? with | some p=>p.1 | none=>0
theorem kx_in {L:RL} {x:Nat} (h:x<L.length):kx L x=L[x].1:=by unfold kx;rw[List.getElem?_eq_getElem h]
def Cand (L:RL) (j x:Nat):Prop:=x<L.length∧findZ (kx L x) L=(x:Int)∧ ∀q∈(absLQ L).take j,q.1<kx L x
def LeastS (L:RL) (j i:Nat) (l:Int):Prop:=
 (l= -1∧ ∀x,x<i→ ¬Cand L j x)∨ ∃c:Nat,l=(c:Int)∧c<i∧Cand L j c∧ ∀x,x<i→Cand L j x→kx L c≤kx L x
theorem cand_last {ps:PairL} (hr:Rises ps) {j:Nat} (h0:0<j) (hj:j≤ps.length) (k:Int):(∀q∈ps.take j,q.1<k)↔(ps[j-1]'(by omega)).1<k:=by
 constructor
 ·intro h
  refine h _ (List.mem_iff_getElem.2 ⟨j-1,by simp;omega,by simp⟩)
 ·intro h q hq
  obtain⟨i,hi,rfl⟩:=List.mem_iff_getElem.1 hq
  have hi':i<j:=by simp at hi;omega
  rw[List.getElem_take]
  by_cases he:i=j-1
  ·subst he;exact h
  ·have:=hr i (j-1) (by omega) (by omega);omega
theorem LeastS.start (L:RL) (j:Nat):LeastS L j 0 (-1):=Or.inl ⟨rfl,fun x hx=>by omega⟩
theorem LeastS.skip {L:RL} {j i:Nat} {l:Int} (h:LeastS L j i l) (hn: ¬Cand L j i):LeastS L j (i+1) l:=by
 rcases h with⟨h,hx⟩ | ⟨c,h,hc,hcc,hx⟩
 ·refine Or.inl ⟨h,fun x hxi hcx=> ?_⟩
  by_cases he:x=i
  ·subst he;exact hn hcx
  ·exact hx x (by omega) hcx
 ·refine Or.inr ⟨c,h,by omega,hcc,fun x hxi hcx=> ?_⟩
  by_cases he:x=i
  ·subst he;exact absurd hcx hn
  ·exact hx x (by omega) hcx
theorem LeastS.first {L:RL} {j i:Nat} {l:Int} (h:LeastS L j i l) (hl:l<0) (hc:Cand L j i):LeastS L j (i+1) (i:Int):=by
 rcases h with⟨h,hx⟩ | ⟨c,h,hc',_⟩
 ·refine Or.inr ⟨i,rfl,by omega,hc,fun x hxi hcx=> ?_⟩
  by_cases he:x=i
  ·subst he;exact Int.le_refl _
  ·exact absurd hcx (hx x (by omega))
 ·omega
theorem LeastS.less {L:RL} {j i c:Nat} (h:LeastS L j i (c:Int)) (hc:Cand L j i) (hlt:kx L i<kx L c):LeastS L j (i+1) (i:Int):=by
 rcases h with⟨h,hx⟩ | ⟨c',h,hc',_,hx⟩
 ·omega
 ·obtain rfl:c=c':=by omega
  refine Or.inr ⟨i,rfl,by omega,hc,fun x hxi hcx=> ?_⟩
  by_cases he:x=i
  ·subst he;exact Int.le_refl _
  ·have:=hx x (by omega) hcx;omega
theorem LeastS.keep {L:RL} {j i c:Nat} (h:LeastS L j i (c:Int)) (hlt: ¬kx L i<kx L c):LeastS L j (i+1) (c:Int):=by
 rcases h with⟨h,hx⟩ | ⟨c',h,hc',hcc,hx⟩
 ·omega
 ·obtain rfl:c=c':=by omega
  refine Or.inr ⟨c,rfl,by omega,hcc,fun x hxi hcx=> ?_⟩
  by_cases he:x=i
  ·subst he;omega
  ·exact hx x (by omega) hcx
theorem LeastS.bound {L:RL} {j i:Nat} {l:Int} (h:LeastS L j i l):l= -1∨ ∃c:Nat,l=(c:Int)∧c<i∧c<L.length:=by
 rcases h with⟨h,_⟩ | ⟨c,h,hc,hcc,_⟩
 ·exact Or.inl h
 ·exact Or.inr ⟨c,h,hc,hcc.1⟩
theorem cand_next {L:RL} {j:Nat} (hj:j< (absLQ L).length): ∃i,Cand L j i∧kx L i=(absLQ L)[j].1:=by
 obtain⟨i,q,hq,hf,h1,h2⟩:=(mem_absL L _).1 (List.getElem_mem hj)
 have hil:i<L.length:=(List.getElem?_eq_some_iff.1 hq).1
 have hk:kx L i=(absLQ L)[j].1:=by unfold kx;rw[hq];exact h1
 refine⟨i,⟨hil,by rw[hk];exact hf,fun p hp=> ?_⟩,hk⟩
 obtain⟨x,hx,rfl⟩:=List.mem_iff_getElem.1 hp
 rw[List.getElem_take,hk]
 exact absL_rises L x j (by simp at hx;omega) hj
theorem LeastS.none {L:RL} {j:Nat} (h:LeastS L j L.length (-1)) (hj:j≤(absLQ L).length):j=(absLQ L).length:=by
 rcases h with⟨_,hx⟩ | ⟨c,h,_⟩
 ·by_cases he:j=(absLQ L).length
  ·exact he
  ·obtain⟨i,hc,_⟩:=cand_next (L:=L) (j:=j) (by omega)
   exact absurd hc (hx i hc.1)
 ·omega
theorem LeastS.some {L:RL} {j c:Nat} (h:LeastS L j L.length (c:Int)): ∃(hj:j< (absLQ L).length) (hc:c<L.length),(absLQ L)[j]=(L[c].1,L[c].2.1):=by
 rcases h with⟨h,_⟩ | ⟨c',h,hc',hcc,hx⟩
 ·omega
 ·obtain rfl:c=c':=by omega
  obtain⟨hcl,hf,hlt⟩:=hcc
  have hk:=kx_in hcl
  have hp:(L[c].1,L[c].2.1)∈absLQ L:=(mem_absL L _).2 ⟨c,L[c],List.getElem?_eq_getElem hcl,by rw[←hk];exact hf,rfl,rfl⟩
  have hp2:(L[c].1,L[c].2.1)∈(absLQ L).drop j:=by
   rw[←List.take_append_drop j (absLQ L),List.mem_append] at hp
   rcases hp with hp | hp
   ·have:=hlt _ hp;simp only at this;omega
   ·exact hp
  obtain⟨x,hx1,hx2⟩:=List.mem_iff_getElem.1 hp2
  have hj:j< (absLQ L).length:=by simp at hx1;omega
  refine⟨hj,hcl,?_⟩
  rw[List.getElem_drop] at hx2
  have hjx:(absLQ L)[j].1≤L[c].1:=by
   by_cases he:x=0
   ·subst he;simp only[Nat.add_zero] at hx2;rw[hx2];exact Int.le_refl _
   ·have:=absL_rises L j (j+x) (by omega) (by simp at hx1;omega)
    rw[hx2] at this;simp only at this;omega
  obtain⟨i,hci,hki⟩:=cand_next hj
  have:=hx i hci.1 hci
  exact rises_inj (absL_rises L) (List.getElem_mem hj) hp (by simp only;omega)
def slen:Value→Nat
 | .slice _ n _=>n
 | _=>0
theorem RPairs_some (r g n cap:Nat) (L:RL) (w:World) (h:RefIs w r (.slice (some ⟨g,0,none⟩) n cap) L) (hl:L.length=n):
  Calls Tryz.prog 35 #[.pointer (some ⟨r,0,none⟩)] w (FreshRow w 96 2 (absLQ L).length (pc (absLQ L))):=by
 obtain⟨i0,hi0,hz0,hz1,hz2⟩:=info_parts infoPair
 have hn:=h.few
 rw[hl] at hn
 have hML:=absL_length L
 rw[hl] at hML
 obtain⟨M,hM⟩: ∃M,M=absLQ L:=⟨_,rfl⟩
 have hMr:Rises M:=hM▸absL_rises L
 rw[←hM] at hML ⊢
 have HM:=hid hM
 have HMr:=hid hMr
 have HH:=hid h
 have HL:=hid hl
 clear h hM hMr hl
 go_enter Tryz.func35,Tryz.ntmps35
 go_wp2_with fail
 go_loopw [3,4,5,6] (fun v _ _ _ wr=> ∃j,j≤M.length∧slen v=j∧Hid (wr.ownsRow w.heap.size 96 2 v j (pc (M.take j)))∧Below w.heap.size w wr) (fun v _ _ _ _=>M.length-slen v)
 case atStart=>exact⟨0,by omega,rfl,⟨rfl,Or.inl ⟨rfl,rfl⟩⟩,Below.refl _ _⟩
 case round=>
  obtain⟨j,hj,hsl,HO,hB⟩:=hrel
  obtain⟨a,c,rfl⟩:=row_form HO.out
  clear hsl
  have hR:=HH.out.bel hB
  have x0:wr.cell? ⟨r,0,none⟩=some (.slice (some ⟨g,0,none⟩) n cap):=hR.obj.cell 0
  have HR:=hid hR
  clear hR
  go_wp2_with fail
  go_loopw [4,5,6] (fun l i _ wr'=> ∃i':Nat,∃l':Int,i'≤n∧i= .int .i64 i'∧l= .int .i64 l'∧wr'=wr∧Hid (LeastS L j i' l')) (fun _ i _ _=>(n- (intOf i).toNat))
  case atStart=>exact⟨0,-1,by omega,rfl,rfl,rfl,LeastS.start L j⟩
  case round=>
   obtain⟨i,l,hi,rfl,rfl,rfl,hS⟩:=hrel
   by_cases hlt:i<n
   ·have hil:i<L.length:=by have:=HL.out;omega
    have hrow:=hid HR.out.row
    rw[HL.out] at hrow
    obtain⟨y0,y1,y2⟩:=rrow_at hrow.out HL.out i hil
    obtain⟨K,hK⟩: ∃K,K=L[i].1:=⟨_,rfl⟩
    have hk:=hid (hK.trans (kx_in hil).symm)
    rw[←hK] at y0
    have i1:(0:Int)≤(i:Int):=by omega
    have i2:(i:Int)< (n:Int):=by omega
    obtain⟨fz,hfz⟩: ∃fz,fz=findZ K L:=⟨_,rfl⟩
    have HFZ:=hid hfz
    clear y1 y2 hK
    go_wp2_with fail
    refine(Find_zQ r _ K L _ HR.out).mono ?_
    rintro e w1 ⟨rfl,rfl⟩
    rw[←hfz]
    clear hfz
    by_cases t1:fz=(i:Int)
    ·subst t1
     by_cases j0:j=0
     ·subst j0
      have hC:Hid (Cand L 0 i):=⟨hil,by rw[←hk.out];exact HFZ.out.symm,fun q hq=>by simp at hq⟩
      rcases hS.out.bound with rfl | ⟨cc,rfl,hcc1,hcc2⟩
      ·have hS':Hid (LeastS L 0 (i+1) (i:Int)):=hS.out.first (by omega) hC.out
       clear hS hC
       go_wp2
       go_roundw
       case rel=>exact⟨i+1,i,by omega,by go_num,rfl,trivial,hS'⟩
       case measure=>simp[intOf];omega
      ·obtain⟨z0,z1,z2⟩:=rrow_at hrow.out HL.out cc hcc2
       obtain⟨K2,hK2⟩: ∃K2,K2=L[cc].1:=⟨_,rfl⟩
       have hk2:=hid (hK2.trans (kx_in hcc2).symm)
       rw[←hK2] at z0
       have i3:(0:Int)≤(cc:Int):=by omega
       have i4:(cc:Int)< (n:Int):=by omega
       have i5: ¬(cc:Int)<0:=by omega
       clear z1 z2 hK2
       by_cases t5:K<K2
       ·have hS':Hid (LeastS L 0 (i+1) (i:Int)):=hS.out.less hC.out (by rw[←hk.out,←hk2.out];exact t5)
        clear hS hC
        go_wp2
        go_roundw
        case rel=>exact⟨i+1,i,by omega,by go_num,rfl,trivial,hS'⟩
        case measure=>simp[intOf];omega
       ·have hS':Hid (LeastS L 0 (i+1) (cc:Int)):=hS.out.keep (by rw[←hk.out,←hk2.out];exact t5)
        clear hS hC
        go_wp2
        go_roundw
        case rel=>exact⟨i+1,cc,by omega,by go_num,rfl,trivial,hS'⟩
        case measure=>simp[intOf];omega
     ·rcases HO.out.2 with⟨h0,_⟩ | ⟨g2,cap2,cur2,h0,_⟩
      ·injection h0 with _ h0 _;omega
      obtain⟨rfl,_,rfl⟩:a=some ⟨g2,0,none⟩∧j=j∧c=cap2:=by injection h0 with h1 h2 h3;exact⟨h1,rfl,h3⟩
      clear h0
      have hj1:j-1<M.length:=by omega
      have hpx:=pc_at (M.take j) (j-1) (by simp;omega)
      have hpx1:=hpx.1
      rw[List.getElem_take] at hpx1
      have x5:=(HO.out.cellAt ((j-1)*2) (by omega)).trans hpx1
      obtain⟨K1,hK1⟩: ∃K1,K1=(M[j-1]'hj1).1:=⟨_,rfl⟩
      rw[←hK1] at x5
      have hcl:=hid (cand_last HMr.out (j:=j) (by omega) hj K)
      have HK1:=hid hK1
      have e1:IntKind.i64.wrap ((j:Int)-1)=(j:Int)-1:=IntWalk.i64_in _ (by omega)
      have e2:((j:Int)-1).toNat=j-1:=by omega
      have e3:(0:Int)≤(j:Int)-1:=by omega
      have e4:(j:Int)-1< (j:Int):=by omega
      have e5:((j:Int)==0)=false:=beq_eq_false_iff_ne.2 (by omega)
      clear hpx hpx1 hK1
      by_cases t3:K>K1
      ·have hC:Hid (Cand L j i):=⟨hil,by rw[←hk.out];exact HFZ.out.symm,by rw[←hk.out,←HM.out];exact hcl.out.2 (by rw[←HK1.out];exact t3)⟩
       rcases hS.out.bound with rfl | ⟨cc,rfl,hcc1,hcc2⟩
       ·have hS':Hid (LeastS L j (i+1) (i:Int)):=hS.out.first (by omega) hC.out
        clear hS hC
        go_wp2
        go_roundw
        case rel=>exact⟨i+1,i,by omega,by go_num,rfl,trivial,hS'⟩
        case measure=>simp[intOf];omega
       ·obtain⟨z0,z1,z2⟩:=rrow_at hrow.out HL.out cc hcc2
        obtain⟨K2,hK2⟩: ∃K2,K2=L[cc].1:=⟨_,rfl⟩
        have hk2:=hid (hK2.trans (kx_in hcc2).symm)
        rw[←hK2] at z0
        have i3:(0:Int)≤(cc:Int):=by omega
        have i4:(cc:Int)< (n:Int):=by omega
        have i5: ¬(cc:Int)<0:=by omega
        clear z1 z2 hK2
        by_cases t5:K<K2
        ·have hS':Hid (LeastS L j (i+1) (i:Int)):=hS.out.less hC.out (by rw[←hk.out,←hk2.out];exact t5)
         clear hS hC
         go_wp2
         go_roundw
         case rel=>exact⟨i+1,i,by omega,by go_num,rfl,trivial,hS'⟩
         case measure=>simp[intOf];omega
        ·have hS':Hid (LeastS L j (i+1) (cc:Int)):=hS.out.keep (by rw[←hk.out,←hk2.out];exact t5)
         clear hS hC
         go_wp2
         go_roundw
         case rel=>exact⟨i+1,cc,by omega,by go_num,rfl,trivial,hS'⟩
         case measure=>simp[intOf];omega
      ·have hC:Hid (¬Cand L j i):=fun hc=>t3 (by have:=hcl.out.1 (by have:=hc.2.2;rw[←hk.out,←HM.out] at this;exact this);rw[HK1.out];exact this)
       have hS':Hid (LeastS L j (i+1) l):=hS.out.skip hC.out
       clear hS hC
       go_wp2
       go_roundw
       case rel=>exact⟨i+1,l,by omega,by go_num,rfl,trivial,hS'⟩
       case measure=>simp[intOf];omega
    ·have t1':(fz==(i:Int))=false:=beq_eq_false_iff_ne.2 t1
     have hC:Hid (¬Cand L j i):=fun hc=>t1 (by have:=hc.2.1;rw[←hk.out] at this;exact HFZ.out.trans this)
     have hS':Hid (LeastS L j (i+1) l):=hS.out.skip hC.out
     clear hS hC
     go_wp2
     go_roundw
     case rel=>exact⟨i+1,l,by omega,by go_num,rfl,trivial,hS'⟩
     case measure=>simp[intOf];omega
   ·obtain rfl:i=n:=by omega
    have hS1:Hid (LeastS L j L.length l):=by rw[HL.out];exact hS.out
    rcases hS.out.bound with rfl | ⟨cc,rfl,hcc1,hcc2⟩
    ·have hjM:=hid (hS1.out.none (by rw[←HM.out];exact hj))
     rw[←HM.out] at hjM
     clear hS hS1
     go_wp2
     go_ret
     have he:=hjM.out
     subst he
     have:=HO.out
     rw[List.take_length] at this
     exact⟨_,rfl,this,hB⟩
    ·have hs:=hS1.out.some
     rw[←HM.out] at hs
     obtain⟨hjl,hcl,hMj⟩:=hs
     have hrow:=hid HR.out.row
     rw[HL.out] at hrow
     obtain⟨z0,z1,z2⟩:=rrow_at hrow.out HL.out cc hcc2
     obtain⟨K,hK⟩: ∃K,K=L[cc].1:=⟨_,rfl⟩
     obtain⟨S,hSS⟩: ∃S,S=L[cc].2.1:=⟨_,rfl⟩
     rw[←hK,←hSS] at hMj
     rw[←hK] at z0
     rw[←hSS] at z1
     have i3:(0:Int)≤(cc:Int):=by omega
     have i4:(cc:Int)< (i:Int):=by omega
     have i5: ¬(cc:Int)<0:=by omega
     have hTk:=hid (show M.take (j+1)=M.take j++[(K,S)] by rw[←hMj];simp)
     obtain⟨v',w',hrun,hown',hgrow,_,hob⟩:=run_append_own_at (P:=Tryz.prog) (w:=(wr.alloc (.cells #[.int .u64 K,.string S] 96)).drew) w.heap.size 39 39 96 i0 (.agg #[.int .u64 0,.string ⟨#[]⟩]) 2 24 Tryz.underlying39 hi0 hz0 hz1 hz2 rfl (by decide)
      (.slice a j c) j (pc (M.take j)) (row_alloc HO.out _) ⟨wr.heap.size,0,none⟩ 1 1 [.int .u64 K,.string S] rfl (cells_two_new wr _ _ _) (by simp[Value.oneCell']) (by unfold maxLen;omega) (by omega) (by have:=hB.size;simp;omega)
     obtain⟨a',c',rfl⟩:=row_form hown'
     have hBB:Below w.heap.size w w':=(bdrew (ba hB (.cells #[.int .u64 K,.string S] 96))).grown hgrow (by have:=hB.size;simp;omega) (fun k e=>(row_lt HO.out k e).1)
     have hOO:Hid (w'.ownsRow w.heap.size 96 2 (.slice a' (j+1) c') (j+1) (pc (M.take (j+1)))):=by rw[hTk.out,pc_append];exact hown'
     have HRUN:=hid hrun
     clear hS hS1 z2 hK hSS hMj hrun hown' hgrow hob
     go_wp2
     go_region_law (refine step_append_runI rfl (.tmp 65) (.tmp 83) 39 39 rfl _ _ (by simp[Act.eval]) (by simp[Act.eval]) HRUN.out ?_)
     all_goals
      try go_simp
      try simp only[Act.put,List.setIfInBounds_toArray,List.set_cons_zero,List.set_cons_succ]
      go_roundw
      case rel=>
       refine⟨_,_,_,_,_,_,_,_,_,_,_,_,_,_,_,_,_,_,_,_,_,_,_,_,_,_,_,_,_,_,_,_,_,_,_,_,_,_,_,_,_,_,_,_,_,_,_,_,_,_,_,_,_,_,_,_,_,_,_,_,_,_,_,_,_,_,_,_,_,_,_,_,_,_,_,_,_,_,_,_,_,_,_,?_,rfl⟩
       exact⟨j+1,by omega,rfl,hOO,hBB⟩
      case measure=>simp[slen];omega
theorem RPairs_z (r:Nat) (v:Value) (L:RL) (w:World) (h:RefIs w r v L):
  Calls Tryz.prog 35 #[.pointer (some ⟨r,0,none⟩)] w (FreshRow w 96 2 (absLQ L).length (pc (absLQ L))):=by
 rcases h.row.2 with⟨rfl,h0⟩ | ⟨g,cap,cur,rfl,_⟩
 ·have:L=[]:=List.eq_nil_of_length_eq_zero h0
  subst this
  have x0:w.cell? ⟨r,0,none⟩=some (.slice none 0 0):=h.obj.cell 0
  clear h h0
  go_enter Tryz.func35,Tryz.ntmps35
  go_wp2_with fail
  go_loopw [3,4,5,6] (fun v _ _ _ wr=>v= .slice none 0 0∧wr=w) (fun _ _ _ _ _=>0)
  case atStart=>exact⟨rfl,rfl⟩
  case round=>
   obtain⟨rfl,rfl⟩:=hrel
   go_wp2_with fail
   go_loopw [4,5,6] (fun l i _ wr'=>i= .int .i64 0∧l= .int .i64 (-1)∧wr'=wr) (fun _ _ _ _=>0)
   case atStart=>exact⟨rfl,rfl,rfl⟩
   case round=>
    obtain⟨rfl,rfl,rfl⟩:=hrel
    go_wp2
    go_ret
    exact⟨_,rfl,⟨rfl,Or.inl ⟨rfl,rfl⟩⟩,Below.refl _ _⟩
 ·exact RPairs_some r g L.length cap L w h rfl
end Go.Proofs.YtjmaicckkkdjpaaGreat
/- The map's put, get, del, scan, and does. -/
namespace Go.Proofs.YtjmaicckkkdjpaaGreat
open Go.RowKit
theorem only_set3 {w:World} {b:Nat} (x y z:Value):Only [b] w (((w.setCell ⟨b,0,none⟩ x).setCell ⟨b,1,none⟩ y).setCell ⟨b,2,none⟩ z):=
 ((Only.refl _ w).setCell (Or.inl (by simp)) x).setCell (Or.inl (by simp)) y |>.setCell (Or.inl (by simp)) z
theorem row_up {w:World} {base base':Nat} {e:TypeId} {size:Nat} {v:Value} {n:Nat} {xs:List Value} (h:w.ownsRow base e size v n xs) (hb: ∀k,v.ownBlock=some k→base'≤k):w.ownsRow base' e size v n xs:=by
 refine⟨h.1,?_⟩
 rcases h.2 with h | ⟨g,cap,cur,h1,h2,h3⟩
 ·exact Or.inl h
 ·exact Or.inr ⟨g,cap,cur,h1,hb g (by rw[h1];rfl),h3⟩
end Go.Proofs.YtjmaicckkkdjpaaGreat
/- The document's Do and Copy: an append of three cells in a drawn region. -/
namespace Go.Proofs.YtjmaicckkkdjpaaGreat
open Go.RowKit
def RPost (w:World) (r:Nat) (v:Value) (L':RL) (c:Int) (s:ByteArray) (qs:PairL) (e:Ending) (w':World):Prop:=
 ∃v' pv,e= .returned (.agg #[.int .i64 c,.string s,pv])∧RefIs w' r v' L'∧Only (footQ r v) w w'∧(∀k,v'.ownBlock=some k→v.ownBlock=some k∨w.heap.size≤k)∧w'.ownsRow w.heap.size 96 2 pv qs.length (pc qs)∧(∀k,pv.ownBlock=some k→k∉footQ r v')
theorem RefIs.append {w:World} {r:Nat} {v:Value} {L:RL} (h:RefIs w r v L) (k:Int) (s:ByteArray) (b:Bool) (hn:L.length+1≤1000000):
  ∃a n c w',(Builtin.append_ #[161,161] 161 #[v,.slice (some ⟨w.heap.size,0,none⟩) 1 1]).run Tryz.prog ((w.alloc (.cells #[.int .u64 k,.string s,.bool b] 165)).drew)= .ok (.slice a n c) w'∧
   w'.cell? ⟨r,0,none⟩=some v∧w'.frozen? ⟨r,0,none⟩=false∧RefIs (w'.setCell ⟨r,0,none⟩ (.slice a n c)) r (.slice a n c) (L++[(k,s,b)])∧Only (footQ r v) w w'∧
   (∀q,(Value.slice a n c).ownBlock=some q→v.ownBlock=some q∨w.heap.size≤q):=by
 obtain⟨i0,hi0,hz0,hz1,hz2⟩:=info_parts infoPut
 have hB:Below w.heap.size w (w.alloc (.cells #[.int .u64 k,.string s,.bool b] 165)).drew:=bdrew (ba (Below.refl _ _) _)
 have h1:=h.bel hB
 have hcells: ∀j u,[Value.int .u64 k,.string s,.bool b][j]?=some u→(w.alloc (.cells #[.int .u64 k,.string s,.bool b] 165)).drew.cell? ((⟨w.heap.size,0,none⟩:Addr).add j)=some u:=by
  intro j u hj
  have hb:=(Blk.new w 165 #[.int .u64 k,.string s,.bool b]).drew
  have:=hb.cell j
  have e:(⟨w.heap.size,0,none⟩:Addr).add j=⟨w.heap.size,j,none⟩:=by unfold Addr.add;split<;>simp[*]
  rw[e,this,←hj]
  simp
 obtain⟨v',w',hrun,hown',hgrow,_,hob⟩:=run_append_own_at (P:=Tryz.prog) (w:=(w.alloc (.cells #[.int .u64 k,.string s,.bool b] 165)).drew) 0 161 161 165 i0 (.agg #[.int .u64 0,.string ⟨#[]⟩,.bool false]) 3 32 Tryz.underlying161 hi0 hz0 hz1 hz2 rfl (by decide)
          v L.length (rc L) h1.row ⟨w.heap.size,0,none⟩ 1 1 [.int .u64 k,.string s,.bool b] rfl hcells (by simp[Value.oneCell']) (by unfold maxLen;omega) (by omega) (by omega)
 obtain⟨a',c',rfl⟩:=row_form hown'
 have hO:=h1.obj.grown hgrow (fun e=>h.ne_ e.symm)
 have hnew: ∀q,(Value.slice a' (L.length+1) c').ownBlock=some q→v.ownBlock=some q∨w.heap.size<q:=by
  intro q hq
  rcases hob with ho | ho
  ·exact Or.inl (ho▸hq)
  ·right;rw[ho] at hq;have:(w.alloc (.cells #[.int .u64 k,.string s,.bool b] 165)).drew.heap.size=q:=by simpa using hq
   simp at this;omega
 have hfar:(Value.slice a' (L.length+1) c').ownBlock≠some r:=by
  intro he
  rcases hnew r he with h2 | h2
  ·exact h.ne_ h2
  ·have:=h.obj.lt;omega
 refine⟨a',_,c',w',hrun,hO.cell 0,hO.frozen 0,⟨hO.set_ 0 _,?_,by simp;omega⟩,?_,fun q hq=> ?_⟩
 ·have he:rc (L++[(k,s,b)])=rc L++[.int .u64 k,.string s,.bool b]:=by rw[rc_append];rfl
  rw[he,List.length_append]
  exact ownsRow_setCell_other (a:=⟨r,0,none⟩) hown' hfar _
 ·exact(Only.of_below hB _).trans (Only.of_grown (f:=footQ r v) hgrow fun q hq=>by simp[footQ,hq]) (fun x hx=>Or.inl hx)
 ·rcases hnew q hq with h2 | h2
  ·exact Or.inl h2
  ·exact Or.inr (by omega)
theorem RPost.put {w w1 w':World} {r:Nat} {v v' pv:Value} {L':RL} {qs:PairL} {c:Int} {s:ByteArray} {f:List Nat} (hf: ∀x,x∈f→w.heap.size≤x∧x≠r∧v'.ownBlock≠some x)
  (hm:RefIs w1 r v' L') (ho:Only (footQ r v) w w1) (hown: ∀k,v'.ownBlock=some k→v.ownBlock=some k∨w.heap.size≤k) (hO:Only f w1 w')
  (hpv:w'.ownsRow w.heap.size 96 2 pv qs.length (pc qs)) (hpf: ∀k,pv.ownBlock=some k→k∉footQ r v'):
  RPost w r v L' c s qs (.returned (.agg #[.int .i64 c,.string s,pv])) w':=
 ⟨v',pv,rfl,hm.only hO (fun h=>(hf r h).2.1 rfl) (fun k hk h=>(hf k h).2.2 hk),ho.trans hO fun x hx=>Or.inr (hf x hx).1,hown,hpv,hpf⟩
theorem RPost.bel {w w':World} {r:Nat} {v pv:Value} {L:RL} {qs:PairL} {c:Int} {s:ByteArray} (h:RefIs w r v L) (hB:Below w.heap.size w w') (hpv:w'.ownsRow w.heap.size 96 2 pv qs.length (pc qs)):
  RPost w r v L c s qs (.returned (.agg #[.int .i64 c,.string s,pv])) w':=
 ⟨v,pv,rfl,h.bel hB,Only.of_below hB _,fun k hk=>Or.inl hk,hpv,fun k hk hm=>by have:=(row_lt hpv k hk).1;have:=h.foot_lt k hm;omega⟩
theorem RPost.bel0 {w w':World} {r:Nat} {v:Value} {L:RL} {c:Int} {s:ByteArray} (h:RefIs w r v L) (hB:Below w.heap.size w w'):
  RPost w r v L c s [] (.returned (.agg #[.int .i64 c,.string s,.slice none 0 0])) w':=RPost.bel h hB ⟨rfl,Or.inl ⟨rfl,rfl⟩⟩
theorem RDo_bad (r:Nat) (v:Value) (op key hi lim:Int) (s:ByteArray) (L:RL) (w:World) (h:RefIs w r v L) (hm:mayZQ op key hi lim s.size≠0):
  Calls Tryz.prog 36 #[.pointer (some ⟨r,0,none⟩),.agg #[.int .i64 op,.int .u64 key,.int .u64 hi,.int .i64 lim,.string s]] w (RPost w r v L (mayZQ op key hi lim s.size) ⟨#[]⟩ []):=by
 have HH:=hid h
 obtain⟨mz,hmz⟩: ∃mz,mz=mayZQ op key hi lim s.size:=⟨_,rfl⟩
 have HM:=hid hmz
 rw[←hmz] at hm ⊢
 have hb:(mz !=0)=true:=by simpa using hm
 have hbl:=Blk.new (w.alloc (.cells #[.int .i64 op,.int .u64 key,.int .u64 hi,.int .i64 lim,.string s] 106)) 41 #[.int .i64 0,.string ⟨#[]⟩,.slice none 0 0]
 have hbc:=(Blk.new w 106 #[.int .i64 op,.int .u64 key,.int .u64 hi,.int .i64 lim,.string s]).alloc (.cells #[.int .i64 0,.string ⟨#[]⟩,.slice none 0 0] 41)
 have hB:=hid (ba (ba (Below.refl w.heap.size w) (.cells #[.int .i64 op,.int .u64 key,.int .u64 hi,.int .i64 lim,.string s] 106)) (.cells #[.int .i64 0,.string ⟨#[]⟩,.slice none 0 0] 41))
 rw[World.size_alloc] at hbl
 have HB:=hid hbl
 have HC:=hid hbc
 clear hmz hm h hbl hbc
 go_enter Tryz.func36,Tryz.ntmps36
 go_wp2_with fail
 refine(RMay_z22 op key hi lim s _).mono ?_
 rintro e v1 ⟨rfl,hb1⟩
 have hb2:=HB.out.bel hb1
 have hb3:=HC.out.bel hb1
 have HH1:=hid (HH.out.bel (bx hB.out hb1))
 have x0:=hb2.cell 0
 have x1:=hb2.cell 1
 have x2:=hb2.cell 2
 have x3:=hb2.frozen 0
 have x4:=hb2.frozen 1
 have x5:=hb2.frozen 2
 have y0:=hb3.cell 0
 have y1:=hb3.cell 1
 have y2:=hb3.cell 2
 have y3:=hb3.cell 3
 have y4:=hb3.cell 4
 have HB2:=hid hb2
 have hz1:=hb1.size
 simp only[World.size_alloc] at hz1
 have c3:w.heap.size+1<v1.heap.size:=by omega
 have c4:w.heap.size<v1.heap.size:=by omega
 clear hb2 hb3
 rw[←HM.out]
 go_wp2
 refine bodyPost_ret (v:= .agg #[.int .i64 mz,.string ⟨#[]⟩,.slice none 0 0]) (by simp[results,Tryz.results36,go_sem,x0,x1,x2,c3]) rfl ?_
 exact RPost.bel0 HH.out (by have h0:=bx hB.out hb1;(repeat(first | exact Below.refl _ _ | (refine ba ?_ _) | (refine Below.drew ?_) | (refine below_drewN ?_ _) | (refine Below.alloc ?_ (by first | omega | (simp;done) | (simp;omega)) _) | (refine Below.setCell ?_ (by first | omega | (simp;done) | (simp;omega)) _) | (refine bx ?_ (by assumption)) | (refine Below.trans ?_ (Below.mono (by assumption) (by first | omega | (simp;done) | (simp;omega)))))))
theorem may_zero {op key hi lim:Int} {n:Nat} (h:op=2∨op=3∨(op=1∧n≤120)∨(op=4∧boundsErr key hi lim=0)):mayZQ op key hi lim n=0:=by
 rcases h with rfl | rfl | ⟨rfl,h⟩ | ⟨rfl,h⟩
 ·unfold mayZQ;rw[if_neg (by omega),if_neg (by omega),if_neg (by omega)]
 ·unfold mayZQ;rw[if_neg (by omega),if_neg (by omega),if_neg (by omega)]
 ·unfold mayZQ;rw[if_neg (by omega),if_neg (by omega),if_neg (by omega)]
 ·rw[bounds_may];exact h
theorem RPost.app {w v1 w1:World} {r:Nat} {v v':Value} {L L':RL} {X:Obj} (hB:Below w.heap.size w v1) (h0:w.heap.size+1<v1.heap.size) (h:RefIs w r v L) (k3:RefIs (w1.setCell ⟨r,0,none⟩ v') r v' L') (k4:Only (footQ r v) (v1.alloc X) w1)
  (k5: ∀q,v'.ownBlock=some q→v.ownBlock=some q∨(v1.alloc X).heap.size≤q):
  RPost w r v L' 0 ⟨#[]⟩ [] (.returned (.agg #[.int .i64 0,.string ⟨#[]⟩,.slice none 0 0])) ((((w1.setCell ⟨r,0,none⟩ v').setCell ⟨w.heap.size+1,0,none⟩ (.int .i64 0)).setCell ⟨w.heap.size+1,1,none⟩ (.string ⟨#[]⟩)).setCell ⟨w.heap.size+1,2,none⟩ (.slice none 0 0)):=by
 have hrl:=h.obj.lt
 have hs:(v1.alloc X).heap.size=v1.heap.size+1:=World.size_alloc _ _
 refine RPost.put (f:=[w.heap.size+1]) ?_ k3 (((Only.of_below (ba hB X) _).trans k4 fun x hx=>Or.inl hx).setCell (Or.inl (by simp[footQ])) _) (fun q hq=> ?_) (only_set3 _ _ _) ⟨rfl,Or.inl ⟨rfl,rfl⟩⟩ (by simp[Value.ownBlock])
 ·intro x hx
  simp at hx
  subst hx
  refine⟨by omega,by omega,fun he=> ?_⟩
  rcases k5 _ he with h1 | h1
  ·have:=h.own_lt _ h1;omega
  ·omega
 ·rcases k5 q hq with h1 | h1
  ·exact Or.inl h1
  ·right;omega
theorem RDo_put (r:Nat) (v:Value) (key hi lim:Int) (s:ByteArray) (L:RL) (w:World) (h:RefIs w r v L) (hn:L.length+1≤1000000) (hs:s.size≤120):
  Calls Tryz.prog 36 #[.pointer (some ⟨r,0,none⟩),.agg #[.int .i64 1,.int .u64 key,.int .u64 hi,.int .i64 lim,.string s]] w (RPost w r v (L++[(key,s,false)]) 0 ⟨#[]⟩ []):=by
 have HH:=hid h
 obtain⟨fz,hfz⟩: ∃fz,fz=findZ key L:=⟨_,rfl⟩
 have HF:=hid hfz
 have HM:=hid (may_zero (op:=1) (key:=key) (hi:=hi) (lim:=lim) (n:=s.size) (Or.inr (Or.inr (Or.inl ⟨rfl,hs⟩))))
 have hbl:=Blk.new (w.alloc (.cells #[.int .i64 1,.int .u64 key,.int .u64 hi,.int .i64 lim,.string s] 106)) 41 #[.int .i64 0,.string ⟨#[]⟩,.slice none 0 0]
 have hbc:=(Blk.new w 106 #[.int .i64 1,.int .u64 key,.int .u64 hi,.int .i64 lim,.string s]).alloc (.cells #[.int .i64 0,.string ⟨#[]⟩,.slice none 0 0] 41)
 have hB:=hid (ba (ba (Below.refl w.heap.size w) (.cells #[.int .i64 1,.int .u64 key,.int .u64 hi,.int .i64 lim,.string s] 106)) (.cells #[.int .i64 0,.string ⟨#[]⟩,.slice none 0 0] 41))
 rw[World.size_alloc] at hbl
 have HB:=hid hbl
 have HC:=hid hbc
 clear hfz hbl hbc
 go_enter Tryz.func36,Tryz.ntmps36
 go_wp2_with fail
 refine(RMay_z22 1 key hi lim s _).mono ?_
 rintro e v1 ⟨rfl,hb1⟩
 have hb2:=HB.out.bel hb1
 have hb3:=HC.out.bel hb1
 have HH1:=hid (HH.out.bel (bx hB.out hb1))
 have x0:=hb2.cell 0
 have x1:=hb2.cell 1
 have x2:=hb2.cell 2
 have x3:=hb2.frozen 0
 have x4:=hb2.frozen 1
 have x5:=hb2.frozen 2
 have y0:=hb3.cell 0
 have y1:=hb3.cell 1
 have y2:=hb3.cell 2
 have y3:=hb3.cell 3
 have y4:=hb3.cell 4
 have HB2:=hid hb2
 have hz1:=hb1.size
 simp only[World.size_alloc] at hz1
 have c3:w.heap.size+1<v1.heap.size:=by omega
 have c4:w.heap.size<v1.heap.size:=by omega
 clear hb2 hb3
 rw[HM.out]
 go_wp2_with fail
 refine(Find_zQ r v key L _ (HH1.out.bel (by(repeat(first | exact Below.refl _ _ | (refine ba ?_ _) | (refine Below.drew ?_) | (refine below_drewN ?_ _) | (refine Below.alloc ?_ (by first | omega | (simp;done) | (simp;omega)) _) | (refine Below.setCell ?_ (by first | omega | (simp;done) | (simp;omega)) _) | (refine bx ?_ (by assumption)) | (refine Below.trans ?_ (Below.mono (by assumption) (by first | omega | (simp;done) | (simp;omega))))))))).mono ?_
 rintro e v2 ⟨rfl,rfl⟩
 rw[←HF.out]
 have HX:=hid (HH1.out.bel (w':=v1.alloc (.cells #[.int .i64 0,.string ⟨#[]⟩,.slice none 0 0] 41)) (ba (Below.refl _ _) _))
 obtain⟨a',n',c',w1,hrun,k1,k2,k3,k4,k5⟩:=HX.out.append key s false hn
 have HRUN:=hid hrun
 have K3:=hid k3
 have K4:=hid k4
 have K5:=hid k5
 have hrl:=HH1.out.obj.lt
 have z4:(v1.alloc (.cells #[.int .i64 0,.string ⟨#[]⟩,.slice none 0 0] 41)).cell? ⟨r,0,none⟩=some v:=ca _ (HH1.out.obj.cell 0)
 have hfl:=HH.out.foot_lt
 have n1:w.heap.size+1∉footQ r v:=fun hm=>by have:=hfl _ hm;omega
 have n2:v1.heap.size∉footQ r v:=fun hm=>by have:=hfl _ hm;omega
 have hbR:=k4.blk (HB2.out.bel (ba (Below.refl _ _) (.cells #[.int .i64 0,.string ⟨#[]⟩,.slice none 0 0] 41))) n1
 have hbT:=k4.blk (Blk.new v1 41 #[.int .i64 0,.string ⟨#[]⟩,.slice none 0 0]) n2
 have m0:=hbR.cell 0
 have m1:=hbR.cell 1
 have m2:=hbR.cell 2
 have m3:=hbR.frozen 0
 have m4:=hbR.frozen 1
 have m5:=hbR.frozen 2
 have m6:=hbT.cell 0
 have m7:=hbT.cell 1
 have m8:=hbT.cell 2
 have q1:r≠w.heap.size+1:=by have:=h.obj.lt;omega
 have q2:r≠v1.heap.size:=by omega
 have q3:=q1.symm
 have q4:=q2.symm
 clear hrun k3 k4 k5 hbR hbT hfl h
 go_wp2
 go_region_law (refine step_append_runI rfl (.tmp 28) (.tmp 34) 161 161 rfl _ _ (by simp[Act.eval]) (by simp[Act.eval]) HRUN.out ?_)
 all_goals
  try go_simp
  try simp only[Act.put,List.setIfInBounds_toArray,List.set_cons_zero,List.set_cons_succ]
  go_wp2
  refine bodyPost_ret (v:= .agg #[.int .i64 0,.string ⟨#[]⟩,.slice none 0 0]) (by simp[results,Tryz.results36,go_sem,m0,m1,m2]) rfl ?_
  exact RPost.app (bx hB.out hb1) (by omega) HH.out K3.out K4.out K5.out
end Go.Proofs.YtjmaicckkkdjpaaGreat
