import Derived.Test.YtjmaicckkkdjpaaGreatF52
import Derived.Lib.SliceRun
/- The code's Unpack, over as many words as a text has. -/
set_option maxRecDepth 100000
set_option maxHeartbeats 1000000
set_option linter.unusedVariables false
set_option linter.unusedSimpArgs false
namespace Go.Proofs.YtjmaicckkkdjpaaGreat
open Go.RowKit
def WordsAt (w:World) (b off:Nat) (ns:List Nat):Prop:=b<w.heap.size∧ ∀i x,ns[i]?=some x→w.cell? ⟨b,off+i,none⟩=some (.int .u64 ((x:Nat):Int))
theorem WordsAt.bel {w w':World} {b off:Nat} {ns:List Nat} (h:WordsAt w b off ns) (hb:Below w.heap.size w w'):WordsAt w' b off ns:=
 ⟨Nat.lt_of_lt_of_le h.1 hb.size,fun i x hi=>(hb.cell (p:=⟨b,off+i,none⟩) h.1).trans (h.2 i x hi)⟩
theorem WordsAt.nums {w:World} {b off:Nat} {ns:List Nat} (h:WordsAt w b off ns) (m cap:Nat) (hm:m=ns.length):NumsAt .u64 w (.slice (some ⟨b,off,none⟩) m cap) (ns.map fun x:Nat=>(x:Int)):=by
 refine⟨some ⟨b,off,none⟩,cap,by rw[List.length_map,hm],Or.inr ⟨b,off,rfl,h.1,fun i x hi=> ?_⟩⟩
 rw[List.getElem?_map] at hi
 cases he:ns[i]? with
 | none=>rw[he] at hi;cases hi
 | some y=>rw[he] at hi;injection hi with hi;subst hi;exact h.2 i y he
theorem WordsAt.drop {w:World} {b off:Nat} {ns:List Nat} (h:WordsAt w b off ns) (k:Nat):WordsAt w b (off+k) (ns.drop k):=
 ⟨h.1,fun i x hi=>by rw[List.getElem?_drop] at hi;have:=h.2 (k+i) x hi;rwa[←Nat.add_assoc] at this⟩
theorem own_some {w:World} {base:Nat} {e:TypeId} {v:Value} {n:Nat} {xs:List Value} (h:w.ownsRow base e 1 v n xs) (h0:0<n): ∃g cap,v= .slice (some ⟨g,0,none⟩) n cap∧base≤g∧n≤cap∧g<w.heap.size∧ ∀i x,xs[i]?=some x→w.cell? ⟨g,0+i,none⟩=some x:=by
 rcases h.2 with⟨_,h2⟩ | ⟨g,cap,cur,rfl,h2,h3,h4,h5,h6,h7⟩
 ·omega
 ·refine⟨g,cap,rfl,h2,h4,(Array.getElem?_eq_some_iff.1 h3).1,fun i x hi=> ?_⟩
  have hc:Blk w g e cur:=h3
  have hl:i<n:=by have:=(List.getElem?_eq_some_iff.1 hi).1;have:=h.1;omega
  rw[hc.cell,Nat.zero_add,←Array.getElem?_toList]
  rw[←h7,List.getElem?_take,if_pos (by omega)] at hi
  exact hi
theorem conv_bytes (w:World) (g cap n:Nat) (bs:List Int) (hn:n≤bs.length) (hc: ∀i x,(byteVs bs)[i]?=some x→w.cell? ⟨g,0+i,none⟩=some x):(convert 47 9 (.slice (some ⟨g,0,none⟩) n cap)).run Tryz.prog w= .ok (.string (strOfNums (bs.take n))) w:=by
 refine run_convert_bytes_arg (P:=Tryz.prog) w 47 5 Tryz.underlying47 Tryz.underlying5 g 0 n cap (bs.take n) (by rw[List.length_take];omega) (fun i hi=>hc i _ ?_) 9 Tryz.underlying9
 have hi2:i< (bs.take n).length:=by rw[List.length_take];omega
 unfold byteVs
 rw[List.getElem?_map,List.getD_eq_getElem?_getD,List.getElem?_eq_getElem hi2,List.getElem?_eq_getElem (by omega:i<bs.length)]
 simp
def textV (n:Nat) (ns:List Nat):Value:=if cleanC ns n then .tuple #[.string (strOfNums ((bytesN ns).take n)),.int .i64 0] else .tuple #[.string { data:= #[] },.int .i64 11]
theorem WUnpack_z (n:Nat) (ns:List Nat) (hn:n≤120) (hl:ns.length=(n+7)/8) (h64: ∀x∈ns,x<18446744073709551616) (b off m cap:Nat) (hm:m=ns.length+1) (hcap:m≤cap) (w:World) (h:WordsAt w b off (n::ns)):
  Calls Tryz.prog 193 #[.slice (some ⟨b,off,none⟩) m cap] w fun e W'=>e= .returned (textV n ns)∧Below w.heap.size w W':=by
 have c0:w.cell? ⟨b,off,none⟩=some (.int .u64 (n:Int)):=h.2 0 n rfl
 have hm16:m≤16:=by omega
 have e0:((m:Int)==0)=false:=by simp;omega
 have e1:IntKind.i64.wrap ((m:Int)-1)=(m:Int)-1:=IntWalk.i64_in _ (by omega)
 have e2:IntKind.i64.wrap (8*((m:Int)-1))=8*((m:Int)-1):=IntWalk.i64_in _ (by omega)
 have e3:IntKind.u64.wrap (8*((m:Int)-1))=8*((m:Int)-1):=IntWalk.u64_in _ (by omega)
 have e4: ¬8*((m:Int)-1)< (n:Int):=by omega
 have i0:(0:Int)< (m:Int):=by omega
 have i1:(1:Int)≤(m:Int):=by omega
 have im:1≤m:=by omega
 have H:=hid h
 have HM:=hid hm
 have HCAP:=hid hcap
 have HL:=hid hl
 have H64:=hid h64
 clear h hm hl h64 hcap
 have TB: ∀W,Below w.heap.size w W→Calls Tryz.prog 196 #[.slice (some ⟨b,off+1,none⟩) (m-1) (cap-1)] W fun e W'=> ∃u,e= .returned u∧W'.ownsRow W.heap.size 5 1 u (8*ns.length) (byteVs (bytesN ns))∧Below W.heap.size W W'∧(ns.length=0→u= .slice none 0 0):=fun W hW=>
  WBytes_z ns H64.out (by have:=HL.out;omega) _ W (((H.out.drop 1).bel hW).nums (m-1) (cap-1) (by have:=HM.out;show _=ns.length;omega))
 have TB0:ns.length=0→ ∀W,Below w.heap.size w W→Calls Tryz.prog 196 #[.slice (some ⟨b,off,none⟩) 0 0] W fun e W'=> ∃u,e= .returned u∧W'.ownsRow W.heap.size 5 1 u (8*ns.length) (byteVs (bytesN ns))∧Below W.heap.size W W'∧(ns.length=0→u= .slice none 0 0):=fun h0 W hW=>
  WBytes_z ns H64.out (by have:=HL.out;omega) _ W (by
   rw[List.length_eq_zero_iff.1 h0]
   exact⟨_,_,rfl,Or.inl rfl⟩)
 have HTB:=hid TB
 have HTB0:=hid TB0
 clear TB TB0
 by_cases hc1:cap=1
 ·have hm1:m=1:=by have:=HM.out;have:=HCAP.out;omega
  have hz:ns.length=0:=by have:=HM.out;omega
  have hn0:n=0:=by have:=HL.out;omega
  have HB0:=hid (show bytesN ns=[] by rw[List.length_eq_zero_iff.1 hz];rfl)
  have HZ:=hid (⟨hz,trivial⟩:_∧True)
  subst hc1 hm1
  clear hz
  subst hn0
  go_enter Tryz.func193,Tryz.ntmps193
  go_wp2_with fail
  go_region_with ((go_at_call 196;refine(HTB0.out HZ.out.1 _ (by repeat(first | (exact Below.refl _ _) | (refine Below.drew ?_)))).mono ?_;rintro e v1 ⟨u,rfl,hrow,hb1,hu⟩;obtain rfl:=hu HZ.out.1;have hB1:Below w.heap.size w v1:=bx (by repeat(first | (exact Below.refl _ _) | (refine Below.drew ?_))) hb1;have d1:v1.cell? ⟨b,off,none⟩=some (.int .u64 ((0:Nat):Int)):=(H.out.bel hB1).2 0 0 rfl;have hcv:(convert 47 9 (.slice none 0 0)).run Tryz.prog v1= .ok (.string ByteArray.empty) v1:=run_convert_bytes_nil (P:=Tryz.prog) v1 47 5 Tryz.underlying47 Tryz.underlying5 0 0 9 Tryz.underlying9;have HB1:=hid hB1;clear hrow hu hb1 hB1))
  all_goals
   obtain⟨T,hT⟩: ∃T,T=strOfNums ((bytesN ns).take 0):=⟨_,rfl⟩
   have hTB:strB T=(bytesN ns).take 0:=by rw[hT];exact strB_of (fun x hx=>bytesN_in ns x (List.mem_of_mem_take hx))
   have hTn:T.size=0:=by rw[←strB_len,hTB,List.length_take,bytesN_len];have:=HL.out;omega
   rw[show(ByteArray.empty:ByteArray)=T by rw[hT,HB0.out];rfl]
   have HTT:=hid (⟨hT,hTB,hTn⟩:_∧_∧_)
   have PK:=hid (WPack_z T (by omega) v1)
   clear hT hTB hTn
   go_wp2_with fail
   refine PK.out.mono ?_
   rintro e v2 ⟨u2,rfl,hrow2,hb2⟩
   rw[HTT.out.2.2] at hrow2
   obtain⟨a2,c2,rfl⟩:=row_form1 hrow2
   have hn2:NumsAt .u64 v2 (.slice a2 ((0+7)/8+1) c2) (packC (strB T) ((0+7)/8)):=NumsAt.of_own (by
    have hl:(packC (strB T) ((0+7)/8)).length=(0+7)/8+1:=by unfold packC;simp
    rw[hl];exact hrow2)
   have hB2:Below w.heap.size w v2:=bx HB1.out hb2
   have EQ:=hid (Equal_z _ _ _ _ v2 hn2 ((H.out.bel hB2).nums 1 1 HM.out) (by unfold packC;simp<;>omega) (by simp<;>(have:=HM.out;omega)))
   have hdc:decide (packC (strB T) ((0+7)/8)=(0::ns).map (fun x:Nat=>(x:Int)))=cleanC ns 0:=by rw[HTT.out.2.1];exact pack_clean ns 0 H64.out HL.out
   rw[hdc] at EQ
   have HB2:=hid hB2
   obtain⟨cl,hcl⟩: ∃cl,cl=cleanC ns 0:=⟨_,rfl⟩
   rw[←hcl] at EQ
   have HC:=hid hcl
   clear hcl hdc hn2 hB2 hrow2 hb2 PK
   go_wp2_with fail
   refine EQ.out.mono ?_
   rintro e v3 ⟨rfl,hb3⟩
   have HB3:=hid (bx HB2.out hb3)
   clear hb3 EQ
   cases cl
   ·go_wp2
    refine bodyPost_ret (v:= .tuple #[.string { data:= #[] },.int .i64 11]) (by simp[results,Tryz.results193,go_sem]) rfl ?_
    exact⟨by unfold textV;rw[←HC.out];rfl,HB3.out⟩
   ·go_wp2
    refine bodyPost_ret (v:= .tuple #[.string T,.int .i64 0]) (by simp[results,Tryz.results193,go_sem]) rfl ?_
    exact⟨by unfold textV;rw[←HC.out,←HTT.out.1];rfl,HB3.out⟩
 ·have hm2: ¬(1:Nat)=cap:=fun h=>hc1 h.symm
  rcases Nat.eq_zero_or_pos ns.length with hz | hp
  ·have hm1:m=1:=by have:=HM.out;omega
   have hn0:n=0:=by have:=HL.out;omega
   have HB0:=hid (show bytesN ns=[] by rw[List.length_eq_zero_iff.1 hz];rfl)
   have HZ:=hid (⟨hz,trivial⟩:_∧True)
   subst hm1
   clear hz
   subst hn0
   go_enter Tryz.func193,Tryz.ntmps193
   go_wp2_with fail
   go_region_with ((go_at_call 196;refine(HTB.out _ (by repeat(first | (exact Below.refl _ _) | (refine Below.drew ?_)))).mono ?_;rintro e v1 ⟨u,rfl,hrow,hb1,hu⟩;obtain rfl:=hu HZ.out.1;have hB1:Below w.heap.size w v1:=bx (by repeat(first | (exact Below.refl _ _) | (refine Below.drew ?_))) hb1;have d1:v1.cell? ⟨b,off,none⟩=some (.int .u64 ((0:Nat):Int)):=(H.out.bel hB1).2 0 0 rfl;have hcv:(convert 47 9 (.slice none 0 0)).run Tryz.prog v1= .ok (.string ByteArray.empty) v1:=run_convert_bytes_nil (P:=Tryz.prog) v1 47 5 Tryz.underlying47 Tryz.underlying5 0 0 9 Tryz.underlying9;have HB1:=hid hB1;clear hrow hu hb1 hB1))
   all_goals
    obtain⟨T,hT⟩: ∃T,T=strOfNums ((bytesN ns).take 0):=⟨_,rfl⟩
    have hTB:strB T=(bytesN ns).take 0:=by rw[hT];exact strB_of (fun x hx=>bytesN_in ns x (List.mem_of_mem_take hx))
    have hTn:T.size=0:=by rw[←strB_len,hTB,List.length_take,bytesN_len];have:=HL.out;omega
    rw[show(ByteArray.empty:ByteArray)=T by rw[hT,HB0.out];rfl]
    have HTT:=hid (⟨hT,hTB,hTn⟩:_∧_∧_)
    have PK:=hid (WPack_z T (by omega) v1)
    clear hT hTB hTn
    go_wp2_with fail
    refine PK.out.mono ?_
    rintro e v2 ⟨u2,rfl,hrow2,hb2⟩
    rw[HTT.out.2.2] at hrow2
    obtain⟨a2,c2,rfl⟩:=row_form1 hrow2
    have hn2:NumsAt .u64 v2 (.slice a2 ((0+7)/8+1) c2) (packC (strB T) ((0+7)/8)):=NumsAt.of_own (by
     have hl:(packC (strB T) ((0+7)/8)).length=(0+7)/8+1:=by unfold packC;simp
     rw[hl];exact hrow2)
    have hB2:Below w.heap.size w v2:=bx HB1.out hb2
    have EQ:=hid (Equal_z _ _ _ _ v2 hn2 ((H.out.bel hB2).nums 1 cap HM.out) (by unfold packC;simp<;>omega) (by simp<;>(have:=HM.out;omega)))
    have hdc:decide (packC (strB T) ((0+7)/8)=(0::ns).map (fun x:Nat=>(x:Int)))=cleanC ns 0:=by rw[HTT.out.2.1];exact pack_clean ns 0 H64.out HL.out
    rw[hdc] at EQ
    have HB2:=hid hB2
    obtain⟨cl,hcl⟩: ∃cl,cl=cleanC ns 0:=⟨_,rfl⟩
    rw[←hcl] at EQ
    have HC:=hid hcl
    clear hcl hdc hn2 hB2 hrow2 hb2 PK
    go_wp2_with fail
    refine EQ.out.mono ?_
    rintro e v3 ⟨rfl,hb3⟩
    have HB3:=hid (bx HB2.out hb3)
    clear hb3 EQ
    cases cl
    ·go_wp2
     refine bodyPost_ret (v:= .tuple #[.string { data:= #[] },.int .i64 11]) (by simp[results,Tryz.results193,go_sem]) rfl ?_
     exact⟨by unfold textV;rw[←HC.out];rfl,HB3.out⟩
    ·go_wp2
     refine bodyPost_ret (v:= .tuple #[.string T,.int .i64 0]) (by simp[results,Tryz.results193,go_sem]) rfl ?_
     exact⟨by unfold textV;rw[←HC.out,←HTT.out.1];rfl,HB3.out⟩
  ·have i8:(0:Int)≤(n:Int):=by omega
   have HPP:=hid hp
   clear hp
   go_enter Tryz.func193,Tryz.ntmps193
   go_wp2_with fail
   go_region_with ((go_at_call 196;refine(HTB.out _ (by repeat(first | (exact Below.refl _ _) | (refine Below.drew ?_)))).mono ?_;rintro e v1 ⟨u,rfl,hrow,hb1,hu⟩;obtain⟨g,cp,rfl,hg1,hg2,hg3,hg4⟩:=own_some hrow (by have:=HPP.out;omega);have hB1:Below w.heap.size w v1:=bx (by repeat(first | (exact Below.refl _ _) | (refine Below.drew ?_))) hb1;have d1:v1.cell? ⟨b,off,none⟩=some (.int .u64 ((n:Nat):Int)):=(H.out.bel hB1).2 0 n rfl;have hcv:=conv_bytes v1 g cp n (bytesN ns) (by rw[bytesN_len];have:=HL.out;omega) hg4;have i7:(n:Int)≤(cp:Int):=(by have:=HL.out;omega);have HB1:=hid hB1;clear hrow hu hb1 hB1 hg1 hg2 hg3 hg4))
   all_goals
    obtain⟨T,hT⟩: ∃T,T=strOfNums ((bytesN ns).take n):=⟨_,rfl⟩
    have hTB:strB T=(bytesN ns).take n:=by rw[hT];exact strB_of (fun x hx=>bytesN_in ns x (List.mem_of_mem_take hx))
    have hTn:T.size=n:=by rw[←strB_len,hTB,List.length_take,bytesN_len];have:=HL.out;omega
    rw[←hT]
    have HTT:=hid (⟨hT,hTB,hTn⟩:_∧_∧_)
    have PK:=hid (WPack_z T (by omega) v1)
    clear hT hTB hTn
    go_wp2_with fail
    refine PK.out.mono ?_
    rintro e v2 ⟨u2,rfl,hrow2,hb2⟩
    rw[HTT.out.2.2] at hrow2
    obtain⟨a2,c2,rfl⟩:=row_form1 hrow2
    have hn2:NumsAt .u64 v2 (.slice a2 ((n+7)/8+1) c2) (packC (strB T) ((n+7)/8)):=NumsAt.of_own (by
     have hl:(packC (strB T) ((n+7)/8)).length=(n+7)/8+1:=by unfold packC;simp
     rw[hl];exact hrow2)
    have hB2:Below w.heap.size w v2:=bx HB1.out hb2
    have EQ:=hid (Equal_z _ _ _ _ v2 hn2 ((H.out.bel hB2).nums m cap HM.out) (by unfold packC;simp<;>omega) (by simp<;>(have:=HM.out;omega)))
    have hdc:decide (packC (strB T) ((n+7)/8)=(n::ns).map (fun x:Nat=>(x:Int)))=cleanC ns n:=by rw[HTT.out.2.1];exact pack_clean ns n H64.out HL.out
    rw[hdc] at EQ
    have HB2:=hid hB2
    obtain⟨cl,hcl⟩: ∃cl,cl=cleanC ns n:=⟨_,rfl⟩
    rw[←hcl] at EQ
    have HC:=hid hcl
    clear hcl hdc hn2 hB2 hrow2 hb2 PK
    go_wp2_with fail
    refine EQ.out.mono ?_
    rintro e v3 ⟨rfl,hb3⟩
    have HB3:=hid (bx HB2.out hb3)
    clear hb3 EQ
    cases cl
    ·go_wp2
     refine bodyPost_ret (v:= .tuple #[.string { data:= #[] },.int .i64 11]) (by simp[results,Tryz.results193,go_sem]) rfl ?_
     exact⟨by unfold textV;rw[←HC.out];rfl,HB3.out⟩
    ·go_wp2
     refine bodyPost_ret (v:= .tuple #[.string T,.int .i64 0]) (by simp[results,Tryz.results193,go_sem]) rfl ?_
     exact⟨by unfold textV;rw[←HC.out,←HTT.out.1];rfl,HB3.out⟩
theorem textV_two (n:Nat) (ns:List Nat): ∃s e,textV n ns= .tuple #[.string s,.int .i64 e]:=by
 unfold textV;split
 ·exact⟨_,_,rfl⟩
 ·exact⟨_,_,rfl⟩
theorem VUnpack_z (n:Nat) (ns:List Nat) (hn:n≤120) (hl:ns.length=(n+7)/8) (h64: ∀x∈ns,x<18446744073709551616) (b off m cap:Nat) (hm:m=ns.length+1) (hcap:m≤cap) (w:World) (h:WordsAt w b off (n::ns)):
  Calls Tryz.prog 185 #[.slice (some ⟨b,off,none⟩) m cap] w fun e W'=>e= .returned (textV n ns)∧Below w.heap.size w W':=by
 have U:=hid (WUnpack_z n ns hn hl h64 b off m cap hm hcap w h)
 obtain⟨s,e,hse⟩:=textV_two n ns
 rw[hse] at U ⊢
 clear h hm hl h64 hcap hse
 go_enter Tryz.func185,Tryz.ntmps185
 go_wp2_with fail
 refine U.out.mono ?_
 rintro e w1 ⟨rfl,hb1⟩
 go_wp2
 refine bodyPost_ret (v:= .tuple #[.string s,.int .i64 e]) (by simp[results,Tryz.results185,go_sem]) rfl ?_
 exact⟨rfl,hb1⟩
def parseV (c:Int) (l:List Nat):Value:=
 match l with
 | []=> .tuple #[.string { data:= #[] },.int .i64 2]
 | n::r=>if c<1∨2<c then .tuple #[.string { data:= #[] },.int .i64 2] else if 120<n∨classZ n≠c then .tuple #[.string { data:= #[] },.int .i64 11] else if(r.length+1:Int)<wordsV n then .tuple #[.string { data:= #[] },.int .i64 2] else textV n (r.take ((n+7)/8))
section
attribute [local go_sem ↓ high] nodeLoadAt nodeLoadVar nodeStoreAt ptrsLoadAt append_shut2
attribute [local go_sem] ldM_run lvM_run stM_run Oper.semAt_some appM2_run
def keepE (p:Int×Int→Bool) (l:List (Int×Int)):List (Int×Int):=l.filter fun x=> !p x
structure DelI (l:List (Int×Int)) (p:Int×Int→Bool) (g cap j i:Nat) (w W:World) (cs:Array Value):Prop where
 blk:Blk W g 130 cs
 size:cs.size=cap*2
 kept:i=(keepE p (l.take j)).length
 head: ∀k x,(keepE p (l.take j))[k]?=some x→cs[k*2]?=some (.int .u64 x.1)∧cs[k*2+1]?=some (.int .u64 x.2)
 rest: ∀k x,j≤k→l[k]?=some x→cs[k*2]?=some (.int .u64 x.1)∧cs[k*2+1]?=some (.int .u64 x.2)
 only:Only [g] w W
theorem Only.setCells (b:Nat): ∀(vs:List Value) (o:Nat) (w:World),Only [b] w (w.setCells b o vs)
 | [],_,w=>Only.refl _ w
 | v::r,o,w=>((Only.refl [b] w).setCell (Or.inl (by simp)) v).trans (Only.setCells b r (o+1) _) (fun _ h=>Or.inl h)
theorem clr_ents (ty:TypeId) (W:World) (g o m c:Nat) (hm:0<m) (cs:Array Value) (hb:Blk W g 130 cs) (hsz:o+m*2≤cs.size): ∃vs:List Value,vs.length=m*2∧(Builtin.clear_ #[131] ty #[.slice (some ⟨g,o,none⟩) m c]).run Tryz.prog W= .ok (.tuple #[]) (W.setCells g o vs):=by
 obtain⟨k,rfl⟩: ∃k,m=k+1:=⟨m-1,by omega⟩
 have hv:(zeroValue 130).run Tryz.prog W= .ok (.agg #[.int .u64 0,.int .u64 0]) W:=by kernel_rfl
 have hst:=run_storeCells_cells (P:=Tryz.prog) g o (Builtin.zeroCells #[.int .u64 0,.int .u64 0] (k+1)).toList 0 W (fun j hj=>by
  rw[hb.cell]
  simp[Builtin.zeroCells] at hj
  rw[Array.getElem?_eq_getElem (by omega)];rfl) (fun j _=>hb.frozen _) (fun v hv=>by
  simp[Builtin.zeroCells] at hv
  obtain⟨a,_,rfl⟩:=hv
  rcases Nat.mod_two_eq_zero_or_one a with h | h<;>rw[h]<;>rfl)
 simp only[Nat.add_zero] at hst
 refine⟨(Builtin.zeroCells #[.int .u64 0,.int .u64 0] (k+1)).toList,?_,?_⟩
 rotate_left
 ·have ec:(Value.agg #[.int .u64 0,.int .u64 0]).cells= #[.int .u64 0,.int .u64 0]:=rfl
  simp[Builtin.clear_,run_underlying Tryz.underlying131,hv,ec,hst]
 ·simp[Builtin.zeroCells]
theorem act1_z (Bh Bd:Nat) (has:Bool) (high k p:Int) (w:World) (h1:w.cell? ⟨Bh,0,none⟩=some (.bool has)) (h2:w.cell? ⟨Bd,0,none⟩=some (.int .u64 high)):
  Calls Tryz.prog 148 #[.agg #[.int .u64 k,.int .u64 p],.pointer (some ⟨Bh,0,none⟩),.pointer (some ⟨Bd,0,none⟩)] w fun e w'=>e= .returned (.bool (!actE high has (k,p)))∧Below w.heap.size w w':=by
 have hBlt:=World.block_lt_of_cell? w _ h1
 have hDlt:=World.block_lt_of_cell? w _ h2
 have hb1:Below w.heap.size w (w.alloc (.cells #[.int .u64 k,.int .u64 p] 130)):=ba (Below.refl _ _) _
 have c1:(w.alloc (.cells #[.int .u64 k,.int .u64 p] 130)).cell? ⟨Bh,0,none⟩=some (.bool has):=(hb1.cell (p:=⟨Bh,0,none⟩) hBlt).trans h1
 have c2:(w.alloc (.cells #[.int .u64 k,.int .u64 p] 130)).cell? ⟨Bd,0,none⟩=some (.int .u64 high):=(hb1.cell (p:=⟨Bd,0,none⟩) hDlt).trans h2
 have HB:=hid hb1
 clear hb1 hBlt hDlt
 go_enter Tryz.func148,Tryz.ntmps148
 cases has
 ·go_wp2
  go_ret
  exact⟨by unfold actE;rfl,HB.out⟩
 ·by_cases hp:high≤k
  ·have H:=hid (decide_eq_true hp)
   have H2:=hid (decide_eq_false (show ¬k<high by omega))
   go_wp2
   go_ret
   refine⟨?_,HB.out⟩
   unfold actE
   simp only[Bool.not_true,Bool.false_or,H2.out]
   rfl
  ·have H:=hid (decide_eq_false hp)
   have H2:=hid (decide_eq_true (show k<high by omega))
   go_wp2
   go_ret
   refine⟨?_,HB.out⟩
   unfold actE
   simp only[Bool.not_true,Bool.false_or,H2.out]
   rfl
theorem delE_z (Bh Bd:Nat) (has:Bool) (high:Int) (l:List (Int×Int)) (h8:l.length≤8) (g cap:Nat) (cs:Array Value) (w:World) (hg:Blk w g 130 cs) (hsz:cs.size=cap*2) (hcap:l.length≤cap) (hcells: ∀k x,l[k]?=some x→cs[k*2]?=some (.int .u64 x.1)∧cs[k*2+1]?=some (.int .u64 x.2)) (h1:w.cell? ⟨Bh,0,none⟩=some (.bool has)) (h2:w.cell? ⟨Bd,0,none⟩=some (.int .u64 high)) (g1:Bh≠g) (g2:Bd≠g):
  Calls Tryz.prog 146 #[.slice (some ⟨g,0,none⟩) l.length cap,.func (.func 148) #[] #[.pointer (some ⟨Bh,0,none⟩),.pointer (some ⟨Bd,0,none⟩)]] w fun e w'=> ∃m,e= .returned (.slice (some ⟨g,0,none⟩) m cap)∧m=(l.filter (actE high has)).length∧EntsAt w' (.slice (some ⟨g,0,none⟩) m cap) (l.filter (actE high has))∧Only [g] w w':=by
 have hE:EntsAt w (.slice (some ⟨g,0,none⟩) l.length cap) l:=⟨_,_,rfl,Or.inr ⟨g,0,rfl,hg.lt,fun i x hi=>by
  have:=hcells i x hi
  exact⟨by rw[hg.cell,Nat.zero_add];exact this.1,by rw[hg.cell,Nat.zero_add];exact this.2⟩⟩⟩
 have hA:AsksE 148 #[.pointer (some ⟨Bh,0,none⟩),.pointer (some ⟨Bd,0,none⟩)] l (fun x=> !actE high has x) w:=fun W hW x hx=>
  act1_z Bh Bd has high x.1 x.2 W ((hW.cell (p:=⟨Bh,0,none⟩) (World.block_lt_of_cell? w _ h1)).trans h1) ((hW.cell (p:=⟨Bd,0,none⟩) (World.block_lt_of_cell? w _ h2)).trans h2)
 have HI:=hid (idxE_z 148 #[.pointer (some ⟨Bh,0,none⟩),.pointer (some ⟨Bd,0,none⟩)] l (fun x=> !actE high has x) _ h8 w hE hA (Or.inr ⟨_,_,rfl,rfl⟩))
 obtain⟨P,hP⟩: ∃P:Int×Int→Bool,P=fun x=> !actE high has x:=⟨_,rfl⟩
 have hPx: ∀x,actE high has x= !P x:=fun x=>by rw[hP];simp
 have hfil: ∀l':List (Int×Int),l'.filter (actE high has)=keepE P l':=fun l'=>by unfold keepE;congr 1;funext x;exact hPx x
 rw[←hP] at HI
 rw[hfil]
 obtain⟨n,hn⟩: ∃n,n=l.length:=⟨_,rfl⟩
 rw[←hn] at HI h8 hcap ⊢
 have HP:=hid hPx
 have HN:=hid hn
 by_cases ha:l.any P=true
 ·obtain⟨i0,hi0⟩: ∃i0,i0=l.findIdx P:=⟨_,rfl⟩
  have hid0:idxE l P=(i0:Int):=by rw[idxE,if_pos ha,hi0]
  have hi0l:i0<l.length:=by rw[hi0];exact List.findIdx_lt_length_of_exists (by simpa using List.any_eq_true.1 ha)
  have hfirst: ∀k y,k<i0→l[k]?=some y→P y=false:=fun k y hk hy=>by
   have:=List.not_of_lt_findIdx (p:=P) (xs:=l) (i:=k) (by rw[←hi0];exact hk)
   have hkl:=(List.getElem?_eq_some_iff.1 hy).2
   rw[hkl] at this
   simpa using this
  have hat:P l[i0]=true:=by
   have:=List.findIdx_getElem (p:=P) (xs:=l) (w:=by rw[←hi0];exact hi0l)
   simpa[←hi0] using this
  have hk0:keepE P (l.take i0)=l.take i0:=by
   unfold keepE
   rw[List.filter_eq_self]
   intro x hx
   obtain⟨k,hk⟩:=List.mem_iff_getElem?.1 hx
   rw[List.getElem?_take] at hk
   split at hk
   ·rename_i hlt;rw[hfirst k x hlt hk];rfl
   ·cases hk
  have hk1:keepE P (l.take (i0+1))=l.take i0:=by
   rw[List.take_add_one,List.getElem?_eq_getElem hi0l]
   unfold keepE at hk0 ⊢
   rw[List.filter_append,hk0]
   simp[hat]
  rw[hid0] at HI
  have iw:IntKind.i64.wrap ((i0:Int)+1)=(i0:Int)+1:=IntWalk.i64_in _ (by omega)
  have im:((i0:Int)== -1)=false:=by simp
  have HD0: ∀w2,Below w.heap.size w w2→Hid (DelI l P g cap (i0+1) i0 w w2 cs):=fun w2 hb=>by
   refine⟨hg.bel hb,hsz,?_,?_,fun k x _ hx=>hcells k x hx,Only.of_below hb _⟩
   ·rw[hk1,List.length_take];omega
   ·intro k x hx
    rw[hk1,List.getElem?_take] at hx
    split at hx
    ·exact hcells k x hx
    ·cases hx
  have HD1:=hid HD0
  have hi0n:i0<n:=by omega
  have HG:=hid (⟨g1,g2⟩:_∧_)
  have HH:=hid (⟨h1,h2⟩:_∧_)
  clear hk0 hk1 hfirst hat hi0 hid0 hcells hg hE hA ha hfil hPx HD0 hi0l g1 g2 h1 h2 hn hP
  go_enter Tryz.func146,Tryz.ntmps146
  go_wp2_with fail
  refine HI.out.mono ?_
  rintro e w2 ⟨rfl,hb2⟩
  have HD2:=HD1.out w2 hb2
  clear HI hb2 HD1
  go_wp2
  go_loopw [5,6,7] (fun iv jv s7 wr=> ∃i j:Nat,iv= .int .i64 i∧jv= .int .i64 j∧i<j∧j≤n∧(∃cs',Hid (DelI l P g cap j i w wr cs'))) (fun _ jv _ _=>n- (intOf jv).toNat)
  case atStart=>exact⟨i0,i0+1,rfl,by go_num,Nat.lt_succ_self _,hi0n,cs,HD2⟩
  case round=>
   obtain⟨i,j,rfl,rfl,hij,hjn,cs',hI⟩:=hrel
   by_cases hlt:j<n
   ·have i1:(0:Int)≤(j:Int):=by omega
    have i2:(j:Int)< (n:Int):=by omega
    have i3:(0:Int)≤(i:Int):=by omega
    have i4:(i:Int)< (n:Int):=by omega
    obtain⟨x,hx⟩: ∃x,l[j]?=some x:=⟨_,List.getElem?_eq_getElem (by rw[←HN.out];exact hlt)⟩
    have hr:=hI.out.rest j x (Nat.le_refl _) hx
    have c1:wr.cell? ⟨g,j*2,none⟩=some (.int .u64 x.1):=(hI.out.blk.cell _).trans hr.1
    have c2:wr.cell? ⟨g,j*2+1,none⟩=some (.int .u64 x.2):=(hI.out.blk.cell _).trans hr.2
    have HX:=hid hx
    clear hx hr
    have hBl:=World.block_lt_of_cell? w _ HH.out.1
    have hDl:=World.block_lt_of_cell? w _ HH.out.2
    have k1:Blk (wr.alloc (.cells #[.int .u64 x.1,.int .u64 x.2] 130)) g 130 cs':=hI.out.blk.alloc _
    have o1:Only [g] w (wr.alloc (.cells #[.int .u64 x.1,.int .u64 x.2] 130)):=hI.out.only.alloc _
    have CA:=hid (act1_z Bh Bd has high x.1 x.2 (wr.alloc (.cells #[.int .u64 x.1,.int .u64 x.2] 130)) ((o1.cell (p:=⟨Bh,0,none⟩) hBl (by simpa using HG.out.1)).trans HH.out.1) ((o1.cell (p:=⟨Bd,0,none⟩) hDl (by simpa using HG.out.2)).trans HH.out.2))
    have n1:Blk (wr.alloc (.cells #[.int .u64 x.1,.int .u64 x.2] 130)) wr.heap.size 130 #[.int .u64 x.1,.int .u64 x.2]:=Blk.new _ _ _
    have hgl:=hI.out.blk.lt
    have HK1:=hid (⟨k1,o1,n1,hgl⟩:_∧_∧_∧_)
    have HLT:=hid hlt
    clear k1 o1 n1 hBl hDl hlt hjn hgl
    go_wp2_with fail
    refine CA.out.mono ?_
    rintro e w5 ⟨rfl,hb5⟩
    have k5:Blk w5 g 130 cs':=HK1.out.1.bel hb5
    have n5:Blk w5 wr.heap.size 130 #[.int .u64 x.1,.int .u64 x.2]:=HK1.out.2.2.1.bel hb5
    have o5:Only [g] w w5:=HK1.out.2.1.trans (Only.of_below hb5 []) (fun _ h=>by cases h)
    have d1:w5.cell? ⟨wr.heap.size,0,none⟩=some (.int .u64 x.1):=n5.cell 0
    have d2:w5.cell? ⟨wr.heap.size,1,none⟩=some (.int .u64 x.2):=n5.cell 1
    rw[HP.out (x.1,x.2)]
    have htk:l.take (j+1)=l.take j++[x]:=by rw[List.take_add_one,HX.out];rfl
    obtain⟨pb,hpb⟩: ∃pb,pb=P (x.1,x.2):=⟨_,rfl⟩
    rw[←hpb]
    have HPB:=hid hpb
    cases pb
    ·have hszc:=hI.out.size
     obtain⟨y0,hy0⟩: ∃y,cs'[i*2]?=some y:=⟨_,Array.getElem?_eq_getElem (by omega)⟩
     obtain⟨y1,hy1⟩: ∃y,cs'[i*2+1]?=some y:=⟨_,Array.getElem?_eq_getElem (by omega)⟩
     have f0:w5.cell? ⟨g,i*2,none⟩=some y0:=(k5.cell _).trans hy0
     have f1:w5.cell? ⟨g,i*2+1,none⟩=some y1:=(k5.cell _).trans hy1
     have z0:w5.frozen? ⟨g,i*2,none⟩=false:=k5.frozen _
     have z1:w5.frozen? ⟨g,i*2+1,none⟩=false:=k5.frozen _
     have hI1:Hid (DelI l P g cap (j+1) (i+1) w ((w5.setCell ⟨g,i*2,none⟩ (.int .u64 x.1)).setCell ⟨g,i*2+1,none⟩ (.int .u64 x.2)) ((cs'.setIfInBounds (i*2) (.int .u64 x.1)).setIfInBounds (i*2+1) (.int .u64 x.2))):=by
      have ek:keepE P (l.take (j+1))=keepE P (l.take j)++[x]:=by
       rw[htk];unfold keepE;rw[List.filter_append];simp[show P x=false from HPB.out.symm]
      have hik:=hI.out.kept
      refine⟨(k5.set_ _ _).set_ _ _,by simp[hszc],by rw[ek,List.length_append,←hik];rfl,fun k y hk=> ?_,fun k y hk hy=> ?_,(o5.setCell (Or.inl (by simp)) _).setCell (Or.inl (by simp)) _⟩
      ·rw[ek] at hk
       by_cases hki:k=i
       ·subst hki
        have e:keepE P (l.take j)++[x]=keepE P (l.take j)++[x]:=rfl
        rw[List.getElem?_append_right (by omega),←hik,Nat.sub_self] at hk
        injection hk with hk
        subst hk
        constructor
        ·rw[Array.getElem?_setIfInBounds_ne (by omega),Array.getElem?_setIfInBounds_self_of_lt (by omega)]
        ·rw[Array.getElem?_setIfInBounds_self_of_lt (by simp;omega)]
       ·have hkl:k<i:=by
         have:=(List.getElem?_eq_some_iff.1 hk).1
         rw[List.length_append,←hik] at this
         simp at this
         omega
        rw[List.getElem?_append_left (by omega)] at hk
        have:=hI.out.head k y hk
        constructor
        ·rw[Array.getElem?_setIfInBounds_ne (by omega),Array.getElem?_setIfInBounds_ne (by omega)];exact this.1
        ·rw[Array.getElem?_setIfInBounds_ne (by omega),Array.getElem?_setIfInBounds_ne (by omega)];exact this.2
      ·have:=hI.out.rest k y (by omega) hy
       constructor
       ·rw[Array.getElem?_setIfInBounds_ne (by omega),Array.getElem?_setIfInBounds_ne (by omega)];exact this.1
       ·rw[Array.getElem?_setIfInBounds_ne (by omega),Array.getElem?_setIfInBounds_ne (by omega)];exact this.2
     have HIJ:=hid hij
     clear hpb hb5 CA hy0 hy1 hszc k5 n5 o5 htk hij hI
     go_wp2
     go_roundw
     case rel=>exact⟨i+1,j+1,by go_num,by go_num,by have:=HIJ.out;omega,HLT.out,_,hI1⟩
     case measure=>simp[intOf];have:=HLT.out;omega
    ·have hI1:Hid (DelI l P g cap (j+1) i w w5 cs'):=by
      have ek:keepE P (l.take (j+1))=keepE P (l.take j):=by
       rw[htk];unfold keepE;rw[List.filter_append];simp[show P x=true from HPB.out.symm]
      exact⟨k5,hI.out.size,by rw[ek];exact hI.out.kept,by rw[ek];exact hI.out.head,fun k y hk hy=>hI.out.rest k y (by omega) hy,o5⟩
     have HIJ:=hid hij
     clear hpb hb5 CA k5 n5 o5 htk hij hI
     go_wp2
     go_roundw
     case rel=>exact⟨i,j+1,rfl,by go_num,Nat.lt_succ_of_lt HIJ.out,HLT.out,cs',hI1⟩
     case measure=>simp[intOf];have:=HLT.out;omega
   ·obtain rfl:j=n:=by omega
    have i1: ¬(j:Int)< (j:Int):=by omega
    have i2:(0:Int)≤(i:Int):=by omega
    have i3:(i:Int)≤(j:Int):=by omega
    have i4:(i:Int)≤(cap:Int):=by omega
    have i5:(j:Int)≤(cap:Int):=by omega
    have i6: ¬i=cap:=by omega
    have HIJ:=hid hij
    have hsz2:=hI.out.size
    obtain⟨vs,hvl,hclr⟩:=clr_ents 0 wr g (i*2) (j-i) (cap-i) (by omega) cs' hI.out.blk (by omega)
    have HV:=hid hvl
    clear hlt hjn hvl hsz2
    have o9:Only [g] w (wr.setCells g (i*2) vs):=hI.out.only.trans (Only.setCells g vs (i*2) wr) (fun _ h=>Or.inl h)
    have hE9:EntsAt (wr.setCells g (i*2) vs) (.slice (some ⟨g,0,none⟩) i cap) (keepE P l):=by
     have hk:=hI.out.kept
     have hh:=hI.out.head
     rw[List.take_of_length_le (by rw[HN.out];exact Nat.le_refl _)] at hk hh
     refine⟨_,_,by rw[hk],Or.inr ⟨g,0,rfl,Nat.lt_of_lt_of_le hI.out.blk.lt (Only.setCells g vs (i*2) wr).size,fun k x hx=> ?_⟩⟩
     have hkl:k<i:=by rw[hk];exact(List.getElem?_eq_some_iff.1 hx).1
     rw[World.cell?_setCells_out g vs (i*2) wr _ (fun _ _=>Or.inl (by show 0+k*2<i*2;omega)),World.cell?_setCells_out g vs (i*2) wr _ (fun _ _=>Or.inl (by show 0+k*2+1<i*2;omega)),hI.out.blk.cell,hI.out.blk.cell,Nat.zero_add]
     exact hh k x hx
    have hk9:=hI.out.kept
    rw[List.take_of_length_le (by rw[HN.out];exact Nat.le_refl _)] at hk9
    have HR:=hid (⟨hk9,hE9,o9⟩:_∧_∧_)
    clear hk9 hE9 o9 hI hij
    go_wp2
    go_ret
    exact⟨i,rfl,HR.out⟩
 ·have hid1:idxE l P= -1:=by rw[idxE,if_neg ha]
  have hk:keepE P l=l:=by
   unfold keepE
   rw[List.filter_eq_self]
   intro x hx
   cases hb:P x
   ·rfl
   ·exact absurd (List.any_eq_true.2 ⟨x,hx,hb⟩) ha
  have HEE:=hid (⟨hE,hk⟩:_∧_)
  rw[hid1] at HI
  clear hE hA hid1 hk ha hn hP hPx hfil hcells hg
  go_enter Tryz.func146,Tryz.ntmps146
  go_wp2_with fail
  refine HI.out.mono ?_
  rintro e w2 ⟨rfl,hb2⟩
  go_wp2
  go_ret
  refine⟨n,rfl,by rw[HEE.out.2];exact HN.out,by rw[HEE.out.2];rw[HN.out];exact HEE.out.1.bel hb2,Only.of_below hb2 _⟩
end
section
attribute [local go_sem ↓ high] nodeLoadAt nodeLoadVar nodeStoreAt ptrsLoadAt append_shut2
attribute [local go_sem] ldM_run lvM_run stM_run Oper.semAt_some appM2_run
theorem delE0_z (Bh Bd:Nat) (has:Bool) (high:Int) (w:World) (h1:w.cell? ⟨Bh,0,none⟩=some (.bool has)) (h2:w.cell? ⟨Bd,0,none⟩=some (.int .u64 high)):
  Calls Tryz.prog 146 #[.slice none 0 0,.func (.func 148) #[] #[.pointer (some ⟨Bh,0,none⟩),.pointer (some ⟨Bd,0,none⟩)]] w fun e w'=>e= .returned (.slice none 0 0)∧Below w.heap.size w w':=by
 have hE:EntsAt w (.slice none 0 0) []:=⟨_,_,rfl,Or.inl rfl⟩
 have hA:AsksE 148 #[.pointer (some ⟨Bh,0,none⟩),.pointer (some ⟨Bd,0,none⟩)] [] (fun x=> !actE high has x) w:=fun W hW x hx=>by cases hx
 have HI:=hid (idxE_z 148 #[.pointer (some ⟨Bh,0,none⟩),.pointer (some ⟨Bd,0,none⟩)] [] (fun x=> !actE high has x) _ (by simp) w hE hA (Or.inr ⟨_,_,rfl,rfl⟩))
 have hi:idxE [] (fun x=> !actE high has x)= -1:=rfl
 rw[hi] at HI
 clear hE hA hi h1 h2
 go_enter Tryz.func146,Tryz.ntmps146
 go_wp2_with fail
 refine HI.out.mono ?_
 rintro e w2 ⟨rfl,hb2⟩
 go_wp2
 go_ret
 exact⟨rfl,hb2⟩
structure EntsNew (w W:World) (v:Value) (l:List (Int×Int)):Prop where
 ents:EntsAt W v l
 new: ∀b,v.ownBlock=some b→w.heap.size≤b
 bel:Below w.heap.size w W
 cap:CapOK v
theorem NActive_z (n:NodeA) (high:Int) (has:Bool) (w:World):
  Calls Tryz.prog 115 #[.agg (nodeC n),.int .u64 high,.bool has] w fun e W'=> ∃v,e= .returned v∧EntsNew w W' v (activeN n high has):=by
 obtain⟨W3,hW3⟩: ∃W3,W3=((w.alloc (.cells (nodeC n) 77)).alloc (.cells #[.int .u64 high] 25)).alloc (.cells #[.bool has] 4):=⟨_,rfl⟩
 have hb3:Below w.heap.size w W3:=by rw[hW3];exact ba (ba (ba (Below.refl _ _) _) _) _
 have k1:Blk W3 w.heap.size 77 (nodeC n):=by rw[hW3];exact((Blk.new _ _ _).alloc _).alloc _
 have k2:Blk W3 (w.heap.size+1) 25 #[.int .u64 high]:=by
  rw[hW3]
  have:=Blk.new (w.alloc (.cells (nodeC n) 77)) 25 #[.int .u64 high]
  rw[World.size_alloc] at this
  exact this.alloc _
 have k3:Blk W3 (w.heap.size+2) 4 #[.bool has]:=by
  rw[hW3]
  have:=Blk.new ((w.alloc (.cells (nodeC n) 77)).alloc (.cells #[.int .u64 high] 25)) 4 #[.bool has]
  rw[World.size_alloc,World.size_alloc] at this
  exact this
 have hld:=node_ld k1
 have HW:=hid hW3
 have HB3:=hid hb3
 have HK:=hid (⟨k2,k3⟩:_∧_)
 have HP:=hid (NValid_z n W3)
 have h3s:w.heap.size+3≤W3.heap.size:=by rw[hW3];simp
 have HS:=hid h3s
 clear hW3 hb3 k1 k2 k3 h3s
 go_enter Tryz.func115,Tryz.ntmps115
 go_upto_region 1 with fail
 rw[show _=W3 from HW.out.symm]
 go_wp2_with fail
 refine HP.out.mono ?_
 rintro e w4 ⟨v,rfl,hrow,hb4⟩
 have c2:w4.cell? ⟨w.heap.size+1,0,none⟩=some (.int .u64 high):=(HK.out.1.bel hb4).cell 0
 have c3:w4.cell? ⟨w.heap.size+2,0,none⟩=some (.bool has):=(HK.out.2.bel hb4).cell 0
 have HB4:=hid (bx HB3.out hb4)
 have HCC:=hid (⟨c2,c3⟩:_∧_)
 have hl8:=valid_len n
 have hen:=EntsAt.of_own hrow
 have hr2:=hrow.2
 have hr1:=hrow.1
 clear hb4 hrow HP hld c2 c3
 rcases hr2 with⟨rfl,h0⟩ | ⟨g,cap,cs,rfl,h2,h3,h4,h5,h6,h7⟩
 ·have DE:=hid (delE0_z (w.heap.size+1+1) (w.heap.size+1) has high w4 HCC.out.2 HCC.out.1)
  have HV0:=hid (List.length_eq_zero_iff.1 h0)
  clear hen hr1 h0
  go_wp2_with fail
  refine DE.out.mono ?_
  rintro e w5 ⟨rfl,hb5⟩
  go_wp2
  go_ret
  have HA:activeN n high has=[]:=by unfold activeN;rw[HV0.out];rfl
  refine⟨.slice none 0 0,rfl,⟨none,0,by rw[HA];rfl,Or.inl HA⟩,fun b hb=>by simp[Value.ownBlock] at hb,bx HB4.out hb5,?_⟩
  ·intro ao m c h;injection h with _ h1 h2;omega
 ·have hcells: ∀k x,(validN n)[k]?=some x→cs[k*2]?=some (.int .u64 x.1)∧cs[k*2+1]?=some (.int .u64 x.2):=by
   intro k x hx
   have hbk:Blk w4 g 130 cs:=h3
   obtain⟨ao,cc,e1,e2⟩:=hen
   injection e1 with e1 _ _
   rcases e2 with e2 | ⟨b,off,e2,_,e3⟩
   ·rw[e2] at hx;simp at hx
   ·rw[←e1] at e2
    injection e2 with e2
    injection e2 with e2 e4
    subst e2;subst e4
    have:=e3 k x hx
    rwa[hbk.cell,hbk.cell,Nat.zero_add] at this
  have DE:=hid (delE_z (w.heap.size+1+1) (w.heap.size+1) has high (validN n) hl8 g cap cs w4 h3 h6 h4 hcells HCC.out.2 HCC.out.1 (by have:=HS.out;omega) (by have:=HS.out;omega))
  have HG:=hid (show w.heap.size≤g by have:=HS.out;omega)
  obtain⟨q,hq⟩: ∃q,q=(validN n).length:=⟨_,rfl⟩
  have HQ:=hid hq
  have hqc:q≤cap:=by omega
  rw[←hq] at DE ⊢
  have HQC:=hid hqc
  clear hen hr1 hcells h2 h3 h4 h5 h6 h7 hq hqc hl8
  go_wp2_with fail
  refine DE.out.mono ?_
  rintro e w5 ⟨m,rfl,hm,hE,ho⟩
  have HE:=hid (⟨hm,hE,ho⟩:_∧_∧_)
  clear hm hE ho DE
  go_wp2
  go_ret
  refine⟨_,rfl,HE.out.2.1,fun b hb=> ?_,HB4.out.trans (HE.out.2.2.below (fun x hx=> ?_) HB4.out.size),?_⟩
  ·injection hb with hb;rw[←hb];exact HG.out
  ·rw[List.mem_singleton.1 hx];exact HG.out
  ·intro ao m' c h
   injection h with _ h1 h2
   have h3:=List.length_filter_le (actE high has) (validN n)
   have:=HE.out.1
   have:=HQ.out
   have:=HQC.out
   omega
end
end Go.Proofs.YtjmaicckkkdjpaaGreat
