import Derived.Test.YtjmaicckkkdjpaaGreatM52
import Derived.Lib.SliceRun
/- The code's Unpack, over as many words as a text has. -/
set_option maxRecDepth 100000
set_option maxHeartbeats 1000000
set_option linter.unusedVariables false
set_option linter.unusedSimpArgs false
namespace Go.Proofs.YtjmaicckkkdjpaaGreat
open Go.RowKit
def WordsAt (w:World) (b off:Nat) (ns:List Nat):Prop:=b<w.heap.size∧ ∀i x,ns[i]?=some x→w.cell? ⟨b,off+i,none⟩=some (.int .u64 ((x:Nat):Int))
theorem WordsAt.bel {w w':World} {b off:Nat} {ns:List Nat} (h:WordsAt w b off ns) (hb:Below w.heap.size w w'):WordsAt w' b off ns:=
 ⟨Nat.lt_of_lt_of_le h.1 hb.size,fun i x hi=>(hb.cell (p:=⟨b,off+i,none⟩) h.1).trans (h.2 i x hi)⟩
theorem WordsAt.nums {w:World} {b off:Nat} {ns:List Nat} (h:WordsAt w b off ns) (m cap:Nat) (hm:m=ns.length):NumsAt .u64 w (.slice (some ⟨b,off,none⟩) m cap) (ns.map fun x:Nat=>(x:Int)):=by
 refine⟨some ⟨b,off,none⟩,cap,by rw[List.length_map,hm],Or.inr ⟨b,off,rfl,h.1,fun i x hi=> ?_⟩⟩
 rw[List.getElem?_map] at hi
 cases he:ns[i]? with
 | none=>rw[he] at hi;cases hi
 | some y=>rw[he] at hi;injection hi with hi;subst hi;exact h.2 i y he
theorem WordsAt.drop {w:World} {b off:Nat} {ns:List Nat} (h:WordsAt w b off ns) (k:Nat):WordsAt w b (off+k) (ns.drop k):=
 ⟨h.1,fun i x hi=>by rw[List.getElem?_drop] at hi;have:=h.2 (k+i) x hi;rwa[←Nat.add_assoc] at this⟩
theorem own_some {w:World} {base:Nat} {e:TypeId} {v:Value} {n:Nat} {xs:List Value} (h:w.ownsRow base e 1 v n xs) (h0:0<n): ∃g cap,v= .slice (some ⟨g,0,none⟩) n cap∧base≤g∧n≤cap∧g<w.heap.size∧ ∀i x,xs[i]?=some x→w.cell? ⟨g,0+i,none⟩=some x:=by
 rcases h.2 with⟨_,h2⟩ | ⟨g,cap,cur,rfl,h2,h3,h4,h5,h6,h7⟩
 ·omega
 ·refine⟨g,cap,rfl,h2,h4,(Array.getElem?_eq_some_iff.1 h3).1,fun i x hi=> ?_⟩
  have hc:Blk w g e cur:=h3
  have hl:i<n:=by have:=(List.getElem?_eq_some_iff.1 hi).1;have:=h.1;omega
  rw[hc.cell,Nat.zero_add,←Array.getElem?_toList]
  rw[←h7,List.getElem?_take,if_pos (by omega)] at hi
  exact hi
theorem conv_bytes (w:World) (g cap n:Nat) (bs:List Int) (hn:n≤bs.length) (hc: ∀i x,(byteVs bs)[i]?=some x→w.cell? ⟨g,0+i,none⟩=some x):(convert 47 9 (.slice (some ⟨g,0,none⟩) n cap)).run Tryz.prog w= .ok (.string (strOfNums (bs.take n))) w:=by
 refine run_convert_bytes_arg (P:=Tryz.prog) w 47 5 Tryz.underlying47 Tryz.underlying5 g 0 n cap (bs.take n) (by rw[List.length_take];omega) (fun i hi=>hc i _ ?_) 9 Tryz.underlying9
 have hi2:i< (bs.take n).length:=by rw[List.length_take];omega
 unfold byteVs
 rw[List.getElem?_map,List.getD_eq_getElem?_getD,List.getElem?_eq_getElem hi2,List.getElem?_eq_getElem (by omega:i<bs.length)]
 simp
def textV (n:Nat) (ns:List Nat):Value:=if cleanC ns n then .tuple #[.string (strOfNums ((bytesN ns).take n)),.int .i64 0] else .tuple #[.string { data:= #[] },.int .i64 11]
theorem WUnpack_z (n:Nat) (ns:List Nat) (hn:n≤120) (hl:ns.length=(n+7)/8) (h64: ∀x∈ns,x<18446744073709551616) (b off m cap:Nat) (hm:m=ns.length+1) (hcap:m≤cap) (w:World) (h:WordsAt w b off (n::ns)):
  Calls Tryz.prog 193 #[.slice (some ⟨b,off,none⟩) m cap] w fun e W'=>e= .returned (textV n ns)∧Below w.heap.size w W':=by
 have c0:w.cell? ⟨b,off,none⟩=some (.int .u64 (n:Int)):=h.2 0 n rfl
 have hm16:m≤16:=by omega
 have e0:((m:Int)==0)=false:=by simp;omega
 have e1:IntKind.i64.wrap ((m:Int)-1)=(m:Int)-1:=IntWalk.i64_in _ (by omega)
 have e2:IntKind.i64.wrap (8*((m:Int)-1))=8*((m:Int)-1):=IntWalk.i64_in _ (by omega)
 have e3:IntKind.u64.wrap (8*((m:Int)-1))=8*((m:Int)-1):=IntWalk.u64_in _ (by omega)
 have e4: ¬8*((m:Int)-1)< (n:Int):=by omega
 have i0:(0:Int)< (m:Int):=by omega
 have i1:(1:Int)≤(m:Int):=by omega
 have im:1≤m:=by omega
 have H:=hid h
 have HM:=hid hm
 have HCAP:=hid hcap
 have HL:=hid hl
 have H64:=hid h64
 clear h hm hl h64 hcap
 have TB: ∀W,Below w.heap.size w W→Calls Tryz.prog 196 #[.slice (some ⟨b,off+1,none⟩) (m-1) (cap-1)] W fun e W'=> ∃u,e= .returned u∧W'.ownsRow W.heap.size 5 1 u (8*ns.length) (byteVs (bytesN ns))∧Below W.heap.size W W'∧(ns.length=0→u= .slice none 0 0):=fun W hW=>
  WBytes_z ns H64.out (by have:=HL.out;omega) _ W (((H.out.drop 1).bel hW).nums (m-1) (cap-1) (by have:=HM.out;show _=ns.length;omega))
 have TB0:ns.length=0→ ∀W,Below w.heap.size w W→Calls Tryz.prog 196 #[.slice (some ⟨b,off,none⟩) 0 0] W fun e W'=> ∃u,e= .returned u∧W'.ownsRow W.heap.size 5 1 u (8*ns.length) (byteVs (bytesN ns))∧Below W.heap.size W W'∧(ns.length=0→u= .slice none 0 0):=fun h0 W hW=>
  WBytes_z ns H64.out (by have:=HL.out;omega) _ W (by
   rw[List.length_eq_zero_iff.1 h0]
   exact⟨_,_,rfl,Or.inl rfl⟩)
 have HTB:=hid TB
 have HTB0:=hid TB0
 clear TB TB0
 by_cases hc1:cap=1
 ·have hm1:m=1:=by have:=HM.out;have:=HCAP.out;omega
  have hz:ns.length=0:=by have:=HM.out;omega
  have hn0:n=0:=by have:=HL.out;omega
  have HB0:=hid (show bytesN ns=[] by rw[List.length_eq_zero_iff.1 hz];rfl)
  have HZ:=hid (⟨hz,trivial⟩:_∧True)
  subst hc1 hm1
  clear hz
  subst hn0
  go_enter Tryz.func193,Tryz.ntmps193
  go_wp2_with fail
  go_region_with ((go_at_call 196;refine(HTB0.out HZ.out.1 _ (by repeat(first | (exact Below.refl _ _) | (refine Below.drew ?_)))).mono ?_;rintro e v1 ⟨u,rfl,hrow,hb1,hu⟩;obtain rfl:=hu HZ.out.1;have hB1:Below w.heap.size w v1:=bx (by repeat(first | (exact Below.refl _ _) | (refine Below.drew ?_))) hb1;have d1:v1.cell? ⟨b,off,none⟩=some (.int .u64 ((0:Nat):Int)):=(H.out.bel hB1).2 0 0 rfl;have hcv:(convert 47 9 (.slice none 0 0)).run Tryz.prog v1= .ok (.string ByteArray.empty) v1:=run_convert_bytes_nil (P:=Tryz.prog) v1 47 5 Tryz.underlying47 Tryz.underlying5 0 0 9 Tryz.underlying9;have HB1:=hid hB1;clear hrow hu hb1 hB1))
  all_goals
   obtain⟨T,hT⟩: ∃T,T=strOfNums ((bytesN ns).take 0):=⟨_,rfl⟩
   have hTB:strB T=(bytesN ns).take 0:=by rw[hT];exact strB_of (fun x hx=>bytesN_in ns x (List.mem_of_mem_take hx))
   have hTn:T.size=0:=by rw[←strB_len,hTB,List.length_take,bytesN_len];have:=HL.out;omega
   rw[show(ByteArray.empty:ByteArray)=T by rw[hT,HB0.out];rfl]
   have HTT:=hid (⟨hT,hTB,hTn⟩:_∧_∧_)
   have PK:=hid (WPack_z T (by omega) v1)
   clear hT hTB hTn
   go_wp2_with fail
   refine PK.out.mono ?_
   rintro e v2 ⟨u2,rfl,hrow2,hb2⟩
   rw[HTT.out.2.2] at hrow2
   obtain⟨a2,c2,rfl⟩:=row_form1 hrow2
   have hn2:NumsAt .u64 v2 (.slice a2 ((0+7)/8+1) c2) (packC (strB T) ((0+7)/8)):=NumsAt.of_own (by
    have hl:(packC (strB T) ((0+7)/8)).length=(0+7)/8+1:=by unfold packC;simp
    rw[hl];exact hrow2)
   have hB2:Below w.heap.size w v2:=bx HB1.out hb2
   have EQ:=hid (Equal_z _ _ _ _ v2 hn2 ((H.out.bel hB2).nums 1 1 HM.out) (by unfold packC;simp<;>omega) (by simp<;>(have:=HM.out;omega)))
   have hdc:decide (packC (strB T) ((0+7)/8)=(0::ns).map (fun x:Nat=>(x:Int)))=cleanC ns 0:=by rw[HTT.out.2.1];exact pack_clean ns 0 H64.out HL.out
   rw[hdc] at EQ
   have HB2:=hid hB2
   obtain⟨cl,hcl⟩: ∃cl,cl=cleanC ns 0:=⟨_,rfl⟩
   rw[←hcl] at EQ
   have HC:=hid hcl
   clear hcl hdc hn2 hB2 hrow2 hb2 PK
   go_wp2_with fail
   refine EQ.out.mono ?_
   rintro e v3 ⟨rfl,hb3⟩
   have HB3:=hid (bx HB2.out hb3)
   clear hb3 EQ
   cases cl
   ·go_wp2
    refine bodyPost_ret (v:= .tuple #[.string { data:= #[] },.int .i64 11]) (by simp[results,Tryz.results193,go_sem]) rfl ?_
    exact⟨by unfold textV;rw[←HC.out];rfl,HB3.out⟩
   ·go_wp2
    refine bodyPost_ret (v:= .tuple #[.string T,.int .i64 0]) (by simp[results,Tryz.results193,go_sem]) rfl ?_
    exact⟨by unfold textV;rw[←HC.out,←HTT.out.1];rfl,HB3.out⟩
 ·have hm2: ¬(1:Nat)=cap:=fun h=>hc1 h.symm
  rcases Nat.eq_zero_or_pos ns.length with hz | hp
  ·have hm1:m=1:=by have:=HM.out;omega
   have hn0:n=0:=by have:=HL.out;omega
   have HB0:=hid (show bytesN ns=[] by rw[List.length_eq_zero_iff.1 hz];rfl)
   have HZ:=hid (⟨hz,trivial⟩:_∧True)
   subst hm1
   clear hz
   subst hn0
   go_enter Tryz.func193,Tryz.ntmps193
   go_wp2_with fail
   go_region_with ((go_at_call 196;refine(HTB.out _ (by repeat(first | (exact Below.refl _ _) | (refine Below.drew ?_)))).mono ?_;rintro e v1 ⟨u,rfl,hrow,hb1,hu⟩;obtain rfl:=hu HZ.out.1;have hB1:Below w.heap.size w v1:=bx (by repeat(first | (exact Below.refl _ _) | (refine Below.drew ?_))) hb1;have d1:v1.cell? ⟨b,off,none⟩=some (.int .u64 ((0:Nat):Int)):=(H.out.bel hB1).2 0 0 rfl;have hcv:(convert 47 9 (.slice none 0 0)).run Tryz.prog v1= .ok (.string ByteArray.empty) v1:=run_convert_bytes_nil (P:=Tryz.prog) v1 47 5 Tryz.underlying47 Tryz.underlying5 0 0 9 Tryz.underlying9;have HB1:=hid hB1;clear hrow hu hb1 hB1))
   all_goals
    obtain⟨T,hT⟩: ∃T,T=strOfNums ((bytesN ns).take 0):=⟨_,rfl⟩
    have hTB:strB T=(bytesN ns).take 0:=by rw[hT];exact strB_of (fun x hx=>bytesN_in ns x (List.mem_of_mem_take hx))
    have hTn:T.size=0:=by rw[←strB_len,hTB,List.length_take,bytesN_len];have:=HL.out;omega
    rw[show(ByteArray.empty:ByteArray)=T by rw[hT,HB0.out];rfl]
    have HTT:=hid (⟨hT,hTB,hTn⟩:_∧_∧_)
    have PK:=hid (WPack_z T (by omega) v1)
    clear hT hTB hTn
    go_wp2_with fail
    refine PK.out.mono ?_
    rintro e v2 ⟨u2,rfl,hrow2,hb2⟩
    rw[HTT.out.2.2] at hrow2
    obtain⟨a2,c2,rfl⟩:=row_form1 hrow2
    have hn2:NumsAt .u64 v2 (.slice a2 ((0+7)/8+1) c2) (packC (strB T) ((0+7)/8)):=NumsAt.of_own (by
     have hl:(packC (strB T) ((0+7)/8)).length=(0+7)/8+1:=by unfold packC;simp
     rw[hl];exact hrow2)
    have hB2:Below w.heap.size w v2:=bx HB1.out hb2
    have EQ:=hid (Equal_z _ _ _ _ v2 hn2 ((H.out.bel hB2).nums 1 cap HM.out) (by unfold packC;simp<;>omega) (by simp<;>(have:=HM.out;omega)))
    have hdc:decide (packC (strB T) ((0+7)/8)=(0::ns).map (fun x:Nat=>(x:Int)))=cleanC ns 0:=by rw[HTT.out.2.1];exact pack_clean ns 0 H64.out HL.out
    rw[hdc] at EQ
    have HB2:=hid hB2
    obtain⟨cl,hcl⟩: ∃cl,cl=cleanC ns 0:=⟨_,rfl⟩
    rw[←hcl] at EQ
    have HC:=hid hcl
    clear hcl hdc hn2 hB2 hrow2 hb2 PK
    go_wp2_with fail
    refine EQ.out.mono ?_
    rintro e v3 ⟨rfl,hb3⟩
    have HB3:=hid (bx HB2.out hb3)
    clear hb3 EQ
    cases cl
    ·go_wp2
     refine bodyPost_ret (v:= .tuple #[.string { data:= #[] },.int .i64 11]) (by simp[results,Tryz.results193,go_sem]) rfl ?_
     exact⟨by unfold textV;rw[←HC.out];rfl,HB3.out⟩
    ·go_wp2
     refine bodyPost_ret (v:= .tuple #[.string T,.int .i64 0]) (by simp[results,Tryz.results193,go_sem]) rfl ?_
     exact⟨by unfold textV;rw[←HC.out,←HTT.out.1];rfl,HB3.out⟩
  ·have i8:(0:Int)≤(n:Int):=by omega
   have HPP:=hid hp
   clear hp
   go_enter Tryz.func193,Tryz.ntmps193
   go_wp2_with fail
   go_region_with ((go_at_call 196;refine(HTB.out _ (by repeat(first | (exact Below.refl _ _) | (refine Below.drew ?_)))).mono ?_;rintro e v1 ⟨u,rfl,hrow,hb1,hu⟩;obtain⟨g,cp,rfl,hg1,hg2,hg3,hg4⟩:=own_some hrow (by have:=HPP.out;omega);have hB1:Below w.heap.size w v1:=bx (by repeat(first | (exact Below.refl _ _) | (refine Below.drew ?_))) hb1;have d1:v1.cell? ⟨b,off,none⟩=some (.int .u64 ((n:Nat):Int)):=(H.out.bel hB1).2 0 n rfl;have hcv:=conv_bytes v1 g cp n (bytesN ns) (by rw[bytesN_len];have:=HL.out;omega) hg4;have i7:(n:Int)≤(cp:Int):=(by have:=HL.out;omega);have HB1:=hid hB1;clear hrow hu hb1 hB1 hg1 hg2 hg3 hg4))
   all_goals
    obtain⟨T,hT⟩: ∃T,T=strOfNums ((bytesN ns).take n):=⟨_,rfl⟩
    have hTB:strB T=(bytesN ns).take n:=by rw[hT];exact strB_of (fun x hx=>bytesN_in ns x (List.mem_of_mem_take hx))
    have hTn:T.size=n:=by rw[←strB_len,hTB,List.length_take,bytesN_len];have:=HL.out;omega
    rw[←hT]
    have HTT:=hid (⟨hT,hTB,hTn⟩:_∧_∧_)
    have PK:=hid (WPack_z T (by omega) v1)
    clear hT hTB hTn
    go_wp2_with fail
    refine PK.out.mono ?_
    rintro e v2 ⟨u2,rfl,hrow2,hb2⟩
    rw[HTT.out.2.2] at hrow2
    obtain⟨a2,c2,rfl⟩:=row_form1 hrow2
    have hn2:NumsAt .u64 v2 (.slice a2 ((n+7)/8+1) c2) (packC (strB T) ((n+7)/8)):=NumsAt.of_own (by
     have hl:(packC (strB T) ((n+7)/8)).length=(n+7)/8+1:=by unfold packC;simp
     rw[hl];exact hrow2)
    have hB2:Below w.heap.size w v2:=bx HB1.out hb2
    have EQ:=hid (Equal_z _ _ _ _ v2 hn2 ((H.out.bel hB2).nums m cap HM.out) (by unfold packC;simp<;>omega) (by simp<;>(have:=HM.out;omega)))
    have hdc:decide (packC (strB T) ((n+7)/8)=(n::ns).map (fun x:Nat=>(x:Int)))=cleanC ns n:=by rw[HTT.out.2.1];exact pack_clean ns n H64.out HL.out
    rw[hdc] at EQ
    have HB2:=hid hB2
    obtain⟨cl,hcl⟩: ∃cl,cl=cleanC ns n:=⟨_,rfl⟩
    rw[←hcl] at EQ
    have HC:=hid hcl
    clear hcl hdc hn2 hB2 hrow2 hb2 PK
    go_wp2_with fail
    refine EQ.out.mono ?_
    rintro e v3 ⟨rfl,hb3⟩
    have HB3:=hid (bx HB2.out hb3)
    clear hb3 EQ
    cases cl
    ·go_wp2
     refine bodyPost_ret (v:= .tuple #[.string { data:= #[] },.int .i64 11]) (by simp[results,Tryz.results193,go_sem]) rfl ?_
     exact⟨by unfold textV;rw[←HC.out];rfl,HB3.out⟩
    ·go_wp2
     refine bodyPost_ret (v:= .tuple #[.string T,.int .i64 0]) (by simp[results,Tryz.results193,go_sem]) rfl ?_
     exact⟨by unfold textV;rw[←HC.out,←HTT.out.1];rfl,HB3.out⟩
theorem textV_two (n:Nat) (ns:List Nat): ∃s e,textV n ns= .tuple #[.string s,.int .i64 e]:=by
 unfold textV;split
 ·exact⟨_,_,rfl⟩
 ·exact⟨_,_,rfl⟩
theorem VUnpack_z (n:Nat) (ns:List Nat) (hn:n≤120) (hl:ns.length=(n+7)/8) (h64: ∀x∈ns,x<18446744073709551616) (b off m cap:Nat) (hm:m=ns.length+1) (hcap:m≤cap) (w:World) (h:WordsAt w b off (n::ns)):
  Calls Tryz.prog 185 #[.slice (some ⟨b,off,none⟩) m cap] w fun e W'=>e= .returned (textV n ns)∧Below w.heap.size w W':=by
 have U:=hid (WUnpack_z n ns hn hl h64 b off m cap hm hcap w h)
 obtain⟨s,e,hse⟩:=textV_two n ns
 rw[hse] at U ⊢
 clear h hm hl h64 hcap hse
 go_enter Tryz.func185,Tryz.ntmps185
 go_wp2_with fail
 refine U.out.mono ?_
 rintro e w1 ⟨rfl,hb1⟩
 go_wp2
 refine bodyPost_ret (v:= .tuple #[.string s,.int .i64 e]) (by simp[results,Tryz.results185,go_sem]) rfl ?_
 exact⟨rfl,hb1⟩
def parseV (c:Int) (l:List Nat):Value:=
 match l with
 | []=> .tuple #[.string { data:= #[] },.int .i64 2]
 | n::r=>if c<1∨2<c then .tuple #[.string { data:= #[] },.int .i64 2] else if 120<n∨classZ n≠c then .tuple #[.string { data:= #[] },.int .i64 11] else if(r.length+1:Int)<wordsV n then .tuple #[.string { data:= #[] },.int .i64 2] else textV n (r.take ((n+7)/8))
section
attribute [local go_sem ↓ high] nodeLoadAt nodeLoadVar nodeStoreAt ptrsLoadAt append_shut2
attribute [local go_sem] ldM_run lvM_run stM_run Oper.semAt_some appM2_run
end
section
attribute [local go_sem ↓ high] nodeLoadAt nodeLoadVar nodeStoreAt ptrsLoadAt append_shut2
attribute [local go_sem] ldM_run lvM_run stM_run Oper.semAt_some appM2_run
end
end Go.Proofs.YtjmaicckkkdjpaaGreat
