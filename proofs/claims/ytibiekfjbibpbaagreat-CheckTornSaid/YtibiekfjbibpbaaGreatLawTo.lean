/- The law CheckTorn, walked. -/
import Derived.Test.YtibiekfjbibpbaaGreatSqA
import Derived.Test.YtibiekfjbibpbaaGreatSndG
import Derived.Test.YtibiekfjbibpbaaGreatRisA
set_option maxRecDepth 100000
set_option maxHeartbeats 4000000
set_option linter.unusedVariables false
set_option linter.unusedSimpArgs false
namespace Go.Proofs.YtibiekfjbibpbaaGreat
open Go.RowKit
def putE (p:Int×Int):List Value:=[.int .u64 p.1,.int .u64 p.2]
theorem putE_len (l:List (Int×Int)):(l.flatMap putE).length=l.length*2:=by
 induction l with
 | nil=>rfl
 | cons x l ih=>rw[List.flatMap_cons,List.length_append,ih,List.length_cons];show 2+_=_;omega
theorem putL_at: ∀(l:List (Int×Int)) (i:Nat) (x:Int×Int),l[i]?=some x→(l.flatMap putE)[i*2]?=some (.int .u64 x.1)∧(l.flatMap putE)[i*2+1]?=some (.int .u64 x.2)
 | [],i,x,h=>by simp at h
 | y::l,0,x,h=>by
  simp at h;subst h
  exact⟨rfl,rfl⟩
 | y::l,i+1,x,h=>by
  obtain⟨h1,h2⟩:=putL_at l i x (by simpa using h)
  rw[List.flatMap_cons,show(i+1)*2=i*2+2 by omega]
  exact⟨h1,h2⟩
theorem infoPut:(Tryz.prog.info? 62).map (fun i=>(i.zero,i.size,i.bytes))=some (some (.agg #[.int .u64 0,.int .u64 0]),2,16):=by kernel_rfl
theorem app_put {W:World} {N:Nat} {v:Value} {l:List (Int×Int)} (news:List (Int×Int)) (hv:W.ownsRow N 62 2 v l.length (l.flatMap putE)) (hN:N≤W.heap.size) (h1:1≤news.length) (hm:l.length+news.length≤1000):
  ∃a c w9,q0n Tryz.prog #[60,60] 60 #[v,.slice (some ⟨W.heap.size,0,none⟩) news.length news.length] (W.alloc (.cells (news.flatMap putE).toArray 62))= .ok (.slice a (l.length+news.length) c) w9∧w9.ownsRow N 62 2 (.slice a (l.length+news.length) c) (l.length+news.length) ((l++news).flatMap putE)∧Only v.ownBlock.toList W w9∧((Value.slice a (l.length+news.length) c).ownBlock=v.ownBlock∨ ∃k,(Value.slice a (l.length+news.length) c).ownBlock=some k∧W.heap.size≤k):=by
 obtain⟨i0,hi0,hz0,hz1,hz2⟩:=info_parts infoPut
 have h5:(W.alloc (.cells (news.flatMap putE).toArray 62)).ownsRow N 62 2 v l.length (l.flatMap putE):=((Only.refl [] W).alloc _).own hv (by simp)
 obtain⟨v',w9,hA⟩:=q2b (P:=Tryz.prog) (W.alloc (.cells (news.flatMap putE).toArray 62)) N 60 60 62 i0 _ 2 16 Tryz.underlying60 hi0 hz0 hz1 hz2 rfl (by decide) v l.length _ h5 (.slice (some ⟨W.heap.size,0,none⟩) news.length news.length) news.length (news.flatMap putE) (Or.inr ⟨W.heap.size,0,news.length,rfl,fun i u hi=>by
  rw[(Blk.new W 62 (news.flatMap putE).toArray).cell (0+i),Nat.zero_add,List.getElem?_toArray];exact hi⟩) (putE_len _) (fun u hu=>by
  obtain⟨y,_,hy⟩:=List.mem_flatMap.1 hu
  unfold putE at hy
  simp at hy
  rcases hy with rfl | rfl<;>rfl) (by unfold maxLen;omega) (by omega) (by simp;omega)
 have hown:=hA.own
 obtain⟨a,c,rfl⟩:=q0q hown
 rw[←List.flatMap_append] at hown
 refine⟨a,c,w9,hA.run,hown,(((Only.refl [] W).alloc _).mono (fun _ h=>by cases h)).trans (Only.of_grown (f:=v.ownBlock.toList) hA.grown (fun y hy=>by simp[hy])) (fun y hy=>Or.inl hy),?_⟩
 rcases hA.ob with h4 | h4
 ·exact Or.inl h4
 ·exact Or.inr ⟨_,h4,by simp⟩
theorem at_new (W:World) (a:Int) (n:NodeA): ∃W',stR Tryz.prog 57 (.pointer (some ⟨W.heap.size,0,none⟩)) (.agg (atC a n)) (W.alloc (.cells #[.int .u64 0,.int .i64 0,.int .u64 0,.int .u64 0,.int .u64 0,.int .u64 0,.int .u64 0,.int .u64 0,.int .u64 0,.int .u64 0,.int .u64 0,.int .u64 0,.int .u64 0,.int .u64 0,.int .u64 0,.int .u64 0,.int .u64 0,.int .u64 0,.int .u64 0,.int .u64 0,.int .u64 0,.int .u64 0] 57))= .ok () W'∧Blk W' W.heap.size 57 (atC a n)∧Below W.heap.size W W':=by
 have hb:Blk (W.alloc (.cells (atC 0 q2w) 57)) W.heap.size 57 (atC 0 q2w):=Blk.new W _ _
 obtain⟨W',h1,h2,h3⟩:=y0j (a':=a) (n':=n) hb
 have hbl:Below W.heap.size W (W.alloc (.cells (atC 0 q2w) 57)):=ba (Below.refl _ _) _
 exact⟨W',h1,h2,hbl.trans (h3.below (fun x hx=>by simp at hx;omega) hbl.size)⟩
theorem at_node {W:World} {b:Nat} {a:Int} {n:NodeA} (h:Blk W b 57 (atC a n)):ldR Tryz.prog 55 (.pointer (some ⟨b,1,none⟩)) W= .ok (.agg (q0x n)) W:=
 h.ldAt 1 (fun j v hv=>by
  have hj:j<21:=by have:=(Array.getElem?_eq_some_iff.1 hv).1;exact this
  rw[v3x a n hj];exact hv) Tryz.underlying55 rfl (by kernel_rfl)
theorem dlook_own {bs:List Int} {rs:List (List (Int×NodeA))} {ps:List (Int×ByteArray)} {w w':World} {e:Ending} (hok:q1a bs rs ps) (h:q6r bs w e w'):
  Below w.heap.size w w'∧ ∃pa pc ra rn rc fa fn fc ka kn kc,e= .returned (.tuple #[.agg #[.slice pa ps.length pc,.slice ra rn rc,.slice fa fn fc,.slice ka kn kc,.int .i64 (rs.length-1:Int),.int .i64 (q2y rs)],.int .i64 0])∧w'.ownsRow w.heap.size 48 2 (.slice pa ps.length pc) ps.length (ps.flatMap q5v):=by
 obtain⟨hbl,(⟨rs',ps',leaves',pv,rv,fv,kv,hok',hl',rfl,q1,q2,q3,q4⟩ | ⟨hno,_⟩)⟩:=h
 ·obtain⟨e1,e2⟩:=z7c hok' hok
  subst e1 e2
  obtain⟨pa,pc,rfl⟩:=q0q q1
  obtain⟨ra,rc,rfl⟩:=q0q q2
  obtain⟨fa,fc,rfl⟩:=q0q q3
  obtain⟨ka,kc,rfl⟩:=q0q q4
  exact⟨hbl,pa,pc,ra,_,rc,fa,_,fc,ka,_,kc,rfl,q1⟩
 ·exact absurd hok (hno rs ps)
def jsT (m P i:Nat):List Nat:=if i=0 then List.range m else(List.range m).eraseIdx P
theorem jsT_lt {m P i:Nat}: ∀j∈jsT m P i,j<m:=fun j hj=>by
 unfold jsT at hj
 split at hj
 ·exact List.mem_range.1 hj
 ·exact List.mem_range.1 ((List.eraseIdx_sublist _ _).subset hj)
theorem jsT_nd (m P i:Nat):(jsT m P i).Nodup:=by
 unfold jsT
 split
 ·exact List.nodup_range
 ·exact(List.eraseIdx_sublist _ _).nodup List.nodup_range
theorem jsT_len {m P:Nat} (i:Nat) (hP:P<m):(jsT m P i).length+(if i=0 then 0 else 1)=m:=by
 unfold jsT
 split
 ·simp
 ·rw[List.length_eraseIdx,List.length_range,if_pos hP];omega
theorem jsT_at {m P i j:Nat} (hj:j<m) (hP:P<m) (h: ¬(i≠0∧j=P)):(jsT m P i)[if i≠0∧P<j then j-1 else j]?=some j:=by
 unfold jsT
 by_cases h0:i=0
 ·rw[if_pos h0,if_neg (by omega)]
  exact List.getElem?_range hj
 ·rw[if_neg h0]
  by_cases h1:P<j
  ·have e:(if i≠0∧P<j then j-1 else j)=j-1:=if_pos ⟨h0,h1⟩
   rw[e,List.getElem?_eraseIdx,if_neg (show ¬j-1<P by omega),show j-1+1=j by omega]
   exact List.getElem?_range hj
  ·have e:(if i≠0∧P<j then j-1 else j)=j:=if_neg (by omega)
   rw[e,List.getElem?_eraseIdx,if_pos (show j<P by omega)]
   exact List.getElem?_range hj
theorem torn_end {slabs per lag K:Nat} {keys:List Nat} {bs bsI:List Int} {r0 pos i:Nat} (hB:Built slabs keys per lag K bs) (hT:TornAt slabs keys per lag K r0 pos i bsI) (hr:r0<nK keys per lag 0) (hp:pos< (ownE keys per lag 0 r0).length) (hi:i≤2*((ownE keys per lag 0 r0).length-pos)) (hz:i=0→bsI=bs):
  r0*per+pos<keys.length∧ ∃ws,Rdb slabs keys per lag K bsI ws∧(List.range (nK keys per lag 0)).flatMap (ws 0)=(jsT keys.length (r0*per+pos) i).map (entJ keys):=by
 have hP:r0*per+pos<keys.length:=by
  have h1:(ownE keys per lag 0 r0)[pos]?=some _:=List.getElem?_eq_getElem hp
  have h2:pos<per:=Nat.lt_of_lt_of_le hp (ownK_len _ _ _)
  rw[ownK_at h2] at h1
  have h3:(ents0 keys)[r0*per+pos]?=some _:=h1
  have h4:=(List.getElem?_eq_some_iff.1 h3).1
  rwa[ents0_len] at h4
 refine⟨hP,?_⟩
 unfold jsT
 by_cases h0:i=0
 ·rw[if_pos h0,hz h0]
  exact⟨_,hB.rdb,hB.flat⟩
 ·rw[if_neg h0]
  exact⟨_,hT.rdb hr hp (by omega) hi,torn_flat (by have:=hB.p2;omega) hr hp⟩
theorem look_torn {slabs per lag K P i:Nat} {keys:List Nat} {bs:List Int} {ws:Nat→Nat→List (Int×Int)} (h:Rdb slabs keys per lag K bs ws) (hP:P<keys.length) (hf:(List.range (nK keys per lag 0)).flatMap (ws 0)=(jsT keys.length P i).map (entJ keys)) {w w':World} {e:Ending} (hl:q3u bs w e w'):
  Below w.heap.size w w'∧ ∃pa pc ra rn rc fa fc ka kc,e= .returned (.tuple #[.agg #[.slice pa (jsT keys.length P i).length pc,.slice ra rn rc,.slice fa 0 fc,.slice ka (if i=0 then 0 else 1) kc,.int .i64 (K:Int),.int .i64 (tK keys per lag (K+1):Int)],.int .i64 0])∧w'.ownsRow w.heap.size 48 2 (.slice pa (jsT keys.length P i).length pc) (jsT keys.length P i).length (((jsT keys.length P i).map (pairJ keys)).flatMap q5v):=by
 have hwh:=h.whole hf jsT_lt (jsT_nd _ _ _)
 obtain⟨hb3,(⟨rs,ps,leaves,Rr,B,pv,rv,fv,kv',hok,hlf,hperm,hsrt,rfl,hP2,hrv,hfv,hkv⟩ | ⟨hno,_⟩)⟩:=hl
 rotate_left
 ·exact absurd hwh (hno _ _)
 obtain⟨rfl,rfl⟩:=z7c hok hwh
 obtain rfl:leaves=rowI keys per lag bs 0:=by
  rw[rowsI_last] at hlf
  injection hlf with hlf
  exact hlf.symm
 have hrch:=h.reach hf hperm
 rw[h.used jsT_lt hrch] at hfv
 have hkl:(z8p bs Rr).length=if i=0 then 0 else 1:=by
  have hl:=h.leaks hrch
  by_cases h0:i=0
  ·rw[if_pos h0,hl.1 (fun j hj=>by unfold jsT;rw[if_pos h0];exact List.mem_range.2 hj)];rfl
  ·rw[if_neg h0]
   refine hl.2 P hP (fun hm=> ?_) (fun j hj hne=> ?_)
   ·unfold jsT at hm
    rw[if_neg h0] at hm
    obtain⟨q,hq1,hq2⟩:=List.mem_eraseIdx_iff_getElem?.1 hm
    have:=(List.getElem?_eq_some_iff.1 hq2)
    obtain⟨c1,c2⟩:=this
    simp at c2
    exact hq1 c2
   ·have:=jsT_at (m:=keys.length) (P:=P) (i:=i) hj hP (fun h=>hne h.2)
    exact List.mem_of_getElem? this
 unfold rowU at hrv hfv hkv
 rw[hkl] at hkv
 have hpo:=hP2.own
 rw[List.length_map] at hpo
 obtain⟨pa,pc,rfl⟩:=q0q hpo
 obtain⟨ra,rc,rfl⟩:=q0q hrv
 obtain⟨fa,fc,rfl⟩:=q0q hfv
 obtain⟨ka,kc,rfl⟩:=q0q hkv
 have hln:((rowsI keys per lag K bs).length-1:Int)=(K:Int):=by unfold rowsI;simp
 exact⟨hb3,pa,pc,ra,_,rc,fa,fc,ka,kc,by rw[hln,Base.nodes];rfl,hpo⟩
theorem ndS_at (keys:List Nat) (per lag r i:Nat):(ndS keys per lag 0 r).k i=((ownE keys per lag 0 r).getD i (0,0)).1∧(ndS keys per lag 0 r).p i=((ownE keys per lag 0 r).getD i (0,0)).2∧(ndS keys per lag 0 r).fi=(nA (uN keys) r:Int):=by
 have e0:tK keys per lag 0+r=r:=Nat.zero_add _
 refine⟨rfl,rfl,?_⟩
 show(nA (uN keys) (tK keys per lag 0+r):Int)=_
 rw[e0]
theorem ndS_len {slabs per lag K:Nat} {keys:List Nat} {bs:List Int} (h:Built slabs keys per lag K bs) {r:Nat} (hr:r<nK keys per lag 0):lenN (ndS keys per lag 0 r)=(ownE keys per lag 0 r).length:=by
 have hw:=h.own0 hr
 obtain⟨a1,a2,a3,_⟩:=h.wsok (k:=0) (List.Sublist.refl _) hr
 rw[hw] at a1 a2
 refine lenN_is _ a1 (fun j hj=> ?_) (fun hl=> ?_)
 ·rw[(ndS_at keys per lag r j).2.1,List.getD_eq_getElem?_getD,List.getElem?_eq_getElem hj]
  exact(a2 _ (List.getElem_mem _)).1
 ·rw[(ndS_at keys per lag r _).2.1,List.getD_eq_getElem?_getD,List.getElem?_eq_none (Nat.le_refl _)];rfl
attribute [local go_sem ↓ high] q6v q7f q7e z2o q0v laLoadAt q0s q0f q0d x1r z7q
attribute [local go_sem] q1x q1p q1v q2t Oper.semAt_some q0h
theorem CheckTorn_z (x:La) (kv:Value) (xs:List Int) (wi at' sN:Int) (hwi:I64 wi) (hat:I64 at') (hsN:I64 sN) (hxs: ∀y∈xs,U64 y) (hxl:xs.length≤9223372036854775807) (hx:I64 x.slabs∧I64 x.per∧I64 x.lag) (w:World) (hK:q1w .u64 w kv xs):
  Calls Tryz.prog 5 #[.agg (laC x kv),.int .i64 wi,.int .i64 at',.int .i64 sN] w fun e w'=>e= .returned (.bool true)∧Below w.heap.size w w':=by
 obtain⟨ka,kc,hkv,_⟩:=id hK
 obtain⟨m0,hm0⟩: ∃m0,m0=xs.length:=⟨_,rfl⟩
 rw[←hm0] at hkv
 obtain⟨W1,hW1⟩: ∃W1,W1=w.alloc (.cells (laC x kv) 24):=⟨_,rfl⟩
 have hb1:Below w.heap.size w W1:=by rw[hW1];exact ba (Below.refl _ _) _
 have k1:Blk W1 w.heap.size 24 (laC x kv):=by rw[hW1];exact Blk.new _ _ _
 have hld:=la_ld k1
 have AZ:=hid (Arena_z x kv (.slice none 0 0) xs [] hxs (fun s hs=>by cases hs) hxl (by simp) hx W1 (hK.bel hb1) ⟨none,0,rfl,Or.inl rfl⟩ rfl)
 have HW1:=hid hW1
 have HB1:=hid hb1
 have HK1:=hid k1
 have HXS:=hid hxs
 have HKV:=hid (hK.bel hb1)
 have HKE:=hid hkv
 clear hW1 hb1 k1 hxs hxl hx hK hwi hat hsN hkv
 go_enter Tryz.func5,Tryz.ntmps5
 go_upto_region 1 with fail
 rw[show _=W1 from HW1.out.symm]
 go_wp2_with fail
 refine AZ.out.mono ?_
 rintro e W2 ⟨hb2,h2⟩
 have HB2:=hid (bx HB1.out hb2)
 have HB12:=hid hb2
 have ck:W2.cell? ⟨w.heap.size,1,none⟩=some (.slice ka m0 kc):=by rw[←HKE.out];exact(HK1.out.bel hb2).cell 1
 have HM0:=hid hm0
 clear hld hb2 hm0
 have KN:=hid known23_z
 rcases h2 with rfl | ⟨g,b,n,R,lv,rows,R0,rfl,hla,hg,hbb,hSp,hBO,hRR⟩
 ·go_wp2_with fail
  refine(KN.out _).mono ?_
  rintro e w3 ⟨rfl,hb3⟩
  have HB3:=hid (bx HB2.out hb3)
  clear hb3
  go_wp2
  go_ret
  exact⟨rfl,HB3.out⟩
 have qx:m0=0∨sN<0∨sN>30∨(m0≠0∧0≤sN∧sN≤30):=by omega
 rcases qx with h | h | h | ⟨hm1,hs0,hs30⟩
 ·subst h
  clear hla hg hbb hSp hBO hRR
  go_wp2_with fail
  refine(KN.out _).mono ?_
  rintro e w3 ⟨rfl,hb3⟩
  have HB3:=hid (bx HB2.out hb3)
  clear hb3
  go_wp2
  go_ret
  exact⟨rfl,HB3.out⟩
 ·by_cases hmz:m0=0
  ·subst hmz
   clear hla hg hbb hSp hBO hRR
   go_wp2_with fail
   refine(KN.out _).mono ?_
   rintro e w3 ⟨rfl,hb3⟩
   have HB3:=hid (bx HB2.out hb3)
   clear hb3
   go_wp2
   go_ret
   exact⟨rfl,HB3.out⟩
  ·have t1:((m0:Int)==0)=false:=by simpa using hmz
   clear hla hg hbb hSp hBO hRR hmz
   go_wp2_with fail
   refine(KN.out _).mono ?_
   rintro e w3 ⟨rfl,hb3⟩
   have HB3:=hid (bx HB2.out hb3)
   clear hb3
   go_wp2
   go_ret
   exact⟨rfl,HB3.out⟩
 ·by_cases hmz:m0=0
  ·subst hmz
   clear hla hg hbb hSp hBO hRR
   go_wp2_with fail
   refine(KN.out _).mono ?_
   rintro e w3 ⟨rfl,hb3⟩
   have HB3:=hid (bx HB2.out hb3)
   clear hb3
   go_wp2
   go_ret
   exact⟨rfl,HB3.out⟩
  ·have t1:((m0:Int)==0)=false:=by simpa using hmz
   have t2: ¬sN<0:=by omega
   clear hla hg hbb hSp hBO hRR hmz
   go_wp2_with fail
   refine(KN.out _).mono ?_
   rintro e w3 ⟨rfl,hb3⟩
   have HB3:=hid (bx HB2.out hb3)
   clear hb3
   go_wp2
   go_ret
   exact⟨rfl,HB3.out⟩
 have t1:((m0:Int)==0)=false:=by simpa using hm1
 have t2: ¬sN<0:=by omega
 have t3: ¬sN>30:=by omega
 obtain rfl:=hRR rfl
 obtain⟨l1,l2,l3,l4,l5,l6,l7,_⟩:=hla
 obtain⟨rk1,rk2⟩:=risKeys_rise HXS.out
 have rkl:(q5b xs).length≤40:=by unfold q5b;rw[List.length_map];have:=q7v xs xs.length;omega
 obtain⟨K,hBu,hrows⟩:=build_built hBO (by omega) (by omega) (by omega) rk2 rk1 (by omega) (by omega)
 obtain⟨keys,hkeys⟩: ∃keys,keys=q5b xs:=⟨_,rfl⟩
 obtain⟨bs,hbs⟩: ∃bs,bs=R.bs:=⟨_,rfl⟩
 rw[←hkeys] at hBu hrows rkl
 rw[←hbs] at hBu
 have hwh:=hBu.whole
 have hn:n=bs.length:=by rw[hbs];exact hSp.ar.ln
 have hn1:n≤1000000:=hSp.ar.big
 have hbyt: ∀x∈bs,0≤x∧x<256:=by rw[hbs];exact hSp.ar.byt
 have hkb:Blk W2 b 5 (byC bs):=by rw[hbs];exact hSp.ar.by'
 have hgk:=hSp.ar.blk
 have LD:=hid (v5m (some ⟨b,0,none⟩) n bs n hn hn1 W2 (bytesIn_blk hkb hbyt (by omega)))
 obtain⟨hh,hhh⟩: ∃hh:Int,hh=((rowsI keys x.per.toNat x.lag.toNat K bs).length-1:Int):=⟨_,rfl⟩
 have hDL:=fun(w w':World) (e:Ending) (h:q6r bs w e w')=>dlook_own hwh h
 obtain⟨T,hT⟩: ∃T,T=tK keys x.per.toNat x.lag.toNat (K+1):=⟨_,rfl⟩
 rw[Base.nodes,←hT,←hhh] at hDL
 have DL:=hid hDL
 have HLV:=hid hSp.lvs
 have HG:=hid hgk
 have HKB:=hid hkb
 have c0:W2.cell? ⟨g,0,none⟩=some (.slice (some ⟨b,0,none⟩) n n):=hgk.cell 0
 have HBU:=hid (⟨hBu,hrows,rkl,hT,hkeys⟩:_∧_∧_∧_∧_)
 have HN:=hid (⟨hn,hn1,hg,hbb⟩:_∧_∧_∧_)
 clear hSp hkb hgk hn hn1 hbyt hbs hg hbb l1 l2 l3 l4 l5 l6 l7 rk1 rk2 hBu hwh hrows rkl hBO hkeys hT hDL hm1 hhh
 go_wp2_with fail
 refine LD.out.mono ?_
 intro e w3 hp
 obtain⟨hb3,pa,pc,xa,xn,xc,fa,fn,fc,ka',kn',kc',rfl,hrep⟩:=DL.out _ _ _ hp
 clear hp
 obtain⟨m,hm⟩: ∃m,m=keys.length:=⟨_,rfl⟩
 rw[pairs0_len,←hm] at hrep ⊢
 obtain⟨W4,st4,k4,hb4⟩:=rep_put w3 pa xa fa ka' m pc xn xc fn fc kn' kc' hh (T:Int)
 have HB34:=hid (bx hb3 hb4)
 have hb3s:=hid hb3.size
 have HB4:=hid (bx HB2.out HB34.out)
 have hpa:=(Only.of_below hb4 []).own hrep (by simp)
 have HPA:=hid hpa
 have HK4:=hid k4
 have HM:=hid hm
 obtain⟨n0,hn0⟩: ∃n0,n0=nK keys x.per.toNat x.lag.toNat 0:=⟨_,rfl⟩
 have hn0p:0<n0:=by rw[hn0];exact nRounds_pos _ _
 obtain⟨r0,hr0,er0⟩:=umod wi n0 hn0p
 have hlv:=HLV.out.only (Only.of_below HB34.out []) (fun k hk=>by cases hk)
 obtain⟨vs,v1,v2,v3⟩:=hlv
 have hrl:rows.length=K+1:=by rw[HBU.out.2.1];simp
 have hrow0:rows[0]?=some (rowK (uN keys) x.per.toNat x.lag.toNat (ents0 keys) 0):=by
  rw[HBU.out.2.1,List.getElem?_map,List.getElem?_range (by omega)];rfl
 obtain⟨kn,hkn⟩: ∃kn,kn=rows.length:=⟨_,rfl⟩
 rw[←hkn] at v2
 obtain⟨gl,lc,rfl,_,_,hgl,hcl⟩:=q2e v2 (by omega)
 obtain⟨v,q1,_,q3⟩:=v3 0 _ hrow0
 have hlen0:(rowK (uN keys) x.per.toNat x.lag.toNat (ents0 keys) 0).length=n0:=by rw[hn0];exact rowS_len _ _ _ _ _
 have q3':=q3
 unfold rowA at q3'
 rw[hlen0] at q3'
 obtain⟨rb,rc,rfl,_,_,hrb,_⟩:=q6o q3' hn0p
 have z0:W4.cell? ⟨gl,0,none⟩=some (.slice (some ⟨rb,0,none⟩) _ rc):=hcl 0 _ q1
 have a7:W4.cell? ⟨g,7,none⟩=some (.slice (some ⟨gl,0,none⟩) kn lc):=(HG.out.bel HB34.out).cell 7
 obtain⟨nd,hnd⟩: ∃nd,nd=ndS keys x.per.toNat x.lag.toNat 0 r0:=⟨_,rfl⟩
 obtain⟨la,hla⟩: ∃la,la=nA (uN keys) r0:=⟨_,rfl⟩
 have hxx:(rowK (uN keys) x.per.toNat x.lag.toNat (ents0 keys) 0)[r0]?=some (la,nd):=by
  have:=rowS_at (u:=uN keys) (t:=tK keys x.per.toNat x.lag.toNat 0) (lvl:=0) (per:=x.per.toNat) (l:=eK keys x.per.toNat x.lag.toNat 0) (r:=r0) (show r0<nK keys x.per.toNat x.lag.toNat 0 by rw[←hn0];exact hr0)
  rw[hla,hnd]
  have e0:tK keys x.per.toNat x.lag.toNat 0+r0=r0:=Nat.zero_add _
  unfold ndS
  rw[e0] at this ⊢
  exact this
 have hld:ldR Tryz.prog 57 (.pointer (some ⟨rb,r0*22,none⟩)) W4= .ok (.agg (atC (la:Int) nd)) W4:=at_ld_at q3 hxx
 have hn0b:n0≤320:=by
  have h1:=HBU.out.1.tin
  have h2:=HBU.out.1.s64
  have h3:=stk_le keys x.per.toNat x.lag.toNat (a:=1) (b:=K+1) (by omega)
  have h4:tK keys x.per.toNat x.lag.toNat 1=0+nK keys x.per.toNat x.lag.toNat 0:=rfl
  omega
 obtain⟨W6,st6',k6,hb6'⟩:=at_new W4.drew (la:Int) nd
 have st6:stR Tryz.prog 57 (.pointer (some ⟨W4.heap.size,0,none⟩)) (.agg (atC (la:Int) nd)) ((W4.alloc (.cells #[.int .u64 0,.int .i64 0,.int .u64 0,.int .u64 0,.int .u64 0,.int .u64 0,.int .u64 0,.int .u64 0,.int .u64 0,.int .u64 0,.int .u64 0,.int .u64 0,.int .u64 0,.int .u64 0,.int .u64 0,.int .u64 0,.int .u64 0,.int .u64 0,.int .u64 0,.int .u64 0,.int .u64 0,.int .u64 0] 57)).drew)= .ok () W6:=st6'
 have hb6:Below W4.heap.size W4 W6:=(Below.refl _ _).drew.trans hb6'
 have k6:Blk W6 W4.heap.size 57 (atC (la:Int) nd):=k6
 clear st6' hb6'
 have un0:IntKind.u64.wrap (n0:Int)=(n0:Int):=IntWalk.u64_in _ (by constructor<;>omega)
 have wr0:IntKind.i64.wrap (r0:Int)=(r0:Int):=IntWalk.i64_in _ (by constructor<;>omega)
 have i0:(0:Int)≤(r0:Int):=by omega
 have i1:(r0:Int)< (n0:Int):=by omega
 have i2:(0:Int)< (kn:Int):=by omega
 have d0: ¬(n0:Int)=0:=by omega
 have d1: ¬n0=0:=by omega
 have HR:=hid (⟨q3,hxx,hnd,hla,hn0,hr0⟩:_∧_∧_∧_∧_∧_)
 have HB6:=hid (bx HB4.out hb6)
 have HB46:=hid hb6
 have HK6:=hid k6
 clear hb3 hb4 hrep k4 hpa hm v1 v2 v3 hrl hrow0 hkn hgl hcl q1 q3 hlen0 q3' hrb hnd hla hxx hb6 k6 hn0 hr0 ck c0
 have hbZ:Below W4.heap.size W4 (W4.alloc (.cells #[.int .u64 0,.int .i64 0,.int .u64 0,.int .u64 0,.int .u64 0,.int .u64 0,.int .u64 0,.int .u64 0,.int .u64 0,.int .u64 0,.int .u64 0,.int .u64 0,.int .u64 0,.int .u64 0,.int .u64 0,.int .u64 0,.int .u64 0,.int .u64 0,.int .u64 0,.int .u64 0,.int .u64 0,.int .u64 0] 57)):=ba (Below.refl _ _) _
 have a7':(W4.alloc (.cells #[.int .u64 0,.int .i64 0,.int .u64 0,.int .u64 0,.int .u64 0,.int .u64 0,.int .u64 0,.int .u64 0,.int .u64 0,.int .u64 0,.int .u64 0,.int .u64 0,.int .u64 0,.int .u64 0,.int .u64 0,.int .u64 0,.int .u64 0,.int .u64 0,.int .u64 0,.int .u64 0,.int .u64 0,.int .u64 0] 57)).cell? ⟨g,7,none⟩=some (.slice (some ⟨gl,0,none⟩) kn lc):=(hbZ.cell (p:=⟨g,7,none⟩) (World.block_lt_of_cell? _ _ a7)).trans a7
 have z0':(W4.alloc (.cells #[.int .u64 0,.int .i64 0,.int .u64 0,.int .u64 0,.int .u64 0,.int .u64 0,.int .u64 0,.int .u64 0,.int .u64 0,.int .u64 0,.int .u64 0,.int .u64 0,.int .u64 0,.int .u64 0,.int .u64 0,.int .u64 0,.int .u64 0,.int .u64 0,.int .u64 0,.int .u64 0,.int .u64 0,.int .u64 0] 57)).cell? ⟨gl,0,none⟩=some (.slice (some ⟨rb,0,none⟩) n0 rc):=(hbZ.cell (p:=⟨gl,0,none⟩) (World.block_lt_of_cell? _ _ z0)).trans z0
 have hld':ldR Tryz.prog 57 (.pointer (some ⟨rb,r0*22,none⟩)) ((W4.alloc (.cells #[.int .u64 0,.int .i64 0,.int .u64 0,.int .u64 0,.int .u64 0,.int .u64 0,.int .u64 0,.int .u64 0,.int .u64 0,.int .u64 0,.int .u64 0,.int .u64 0,.int .u64 0,.int .u64 0,.int .u64 0,.int .u64 0,.int .u64 0,.int .u64 0,.int .u64 0,.int .u64 0,.int .u64 0,.int .u64 0] 57)).drew)= .ok (.agg (atC (la:Int) nd)) ((W4.alloc (.cells #[.int .u64 0,.int .i64 0,.int .u64 0,.int .u64 0,.int .u64 0,.int .u64 0,.int .u64 0,.int .u64 0,.int .u64 0,.int .u64 0,.int .u64 0,.int .u64 0,.int .u64 0,.int .u64 0,.int .u64 0,.int .u64 0,.int .u64 0,.int .u64 0,.int .u64 0,.int .u64 0,.int .u64 0,.int .u64 0] 57)).drew):=at_ld_at ((Only.of_below (hbZ.drew) []).own HR.out.1 (by simp)) HR.out.2.1
 have hld2:ldR Tryz.prog 57 (.pointer (some ⟨rb,r0*22,none⟩)) W4.drew= .ok (.agg (atC (la:Int) nd)) W4.drew:=at_ld_at ((Only.of_below ((Below.refl _ _).drew) []).own HR.out.1 (by simp)) HR.out.2.1
 clear hbZ
 go_upto_region 5 with fail
 go_region
 have ldn:ldR Tryz.prog 55 (.pointer (some ⟨W4.heap.size,1,none⟩)) W6= .ok (.agg (q0x nd)) W6:=at_node HK6.out
 have LN:=hid (x8s nd W6)
 obtain⟨own,hown⟩: ∃own,own=ownE keys x.per.toNat x.lag.toNat 0 r0:=⟨_,rfl⟩
 obtain⟨L,hL⟩: ∃L,L=own.length:=⟨_,rfl⟩
 have hr0:r0<nK keys x.per.toNat x.lag.toNat 0:=by rw[←HR.out.2.2.2.2.1];exact HR.out.2.2.2.2.2
 have hLn:lenN nd=L:=by rw[HR.out.2.2.1,ndS_len HBU.out.1 hr0,hL,hown]
 have hL8:L≤8:=by rw[←hLn];exact q5d nd
 have hat:=fun i=>ndS_at keys x.per.toNat x.lag.toNat r0 i
 rw[←HR.out.2.2.1,←hown,←HR.out.2.2.2.1] at hat
 rw[hLn] at LN
 have HOW:=hid (⟨hown,hL,hr0,hat⟩:_∧_∧_∧_)
 obtain⟨fk,hfk⟩: ∃fk:Nat→Int,∀i,fk i=(own.getD i (0,0)).1:=⟨_,fun _=>rfl⟩
 obtain⟨fp,hfp⟩: ∃fp:Nat→Int,∀i,fp i=(own.getD i (0,0)).2:=⟨_,fun _=>rfl⟩
 have HF:=hid (⟨hfk,hfp⟩:_∧_)
 have CL:Hid (∀W,Below W6.heap.size W6 W→W.cell? ⟨W4.heap.size,0,none⟩=some (.int .u64 (la:Int))∧W.cell? ⟨W4.heap.size,5,none⟩=some (.int .u64 (la:Int))∧ ∀i,i<8→W.cell? ⟨W4.heap.size,6+i,none⟩=some (.int .u64 (fk i))∧W.cell? ⟨W4.heap.size,14+i,none⟩=some (.int .u64 (fp i))):=hid (fun W hb=>by
  have hk:=HK6.out.bel hb
  refine⟨hk.cell 0,?_,fun i hi=>⟨?_,?_⟩⟩
  ·have:=hk.cell 5
   rw[this]
   show some (Value.int .u64 nd.fi)=_
   rw[(hat 0).2.2]
  ·have:=hk.cell (6+i)
   rw[this,y0q _ _ hi,(hat i).1,hfk]
  ·have:=hk.cell (14+i)
   rw[this,y0x _ _ hi,(hat i).2.1,hfp])
 clear hown hL hr0 hLn hat hfk hfp st6 hld hld' hld2 a7 a7' z0 z0' i0 i1 i2 d0 d1 un0 wr0 er0
 all_goals go_wp2_with fail
 refine LN.out.mono ?_
 rintro e w7 ⟨rfl,hb7⟩
 have HB67:=hid hb7
 have HB7:=hid (bx HB6.out hb7)
 clear hb7 ldn
 by_cases hL0:L=0
 ·subst hL0
  go_wp2_with fail
  refine(KN.out _).mono ?_
  rintro e w8 ⟨rfl,hb8⟩
  have HB8:=hid (bx HB7.out hb8)
  clear hb8
  go_wp2
  go_ret
  exact⟨rfl,HB8.out⟩
 have tL:((L:Int)==0)=false:=by simpa using hL0
 obtain⟨pos,hpos,epos⟩:=umod at' L (by omega)
 have unL:IntKind.u64.wrap (L:Int)=(L:Int):=IntWalk.u64_in _ (by constructor<;>omega)
 have wpos:IntKind.i64.wrap (pos:Int)=(pos:Int):=IntWalk.i64_in _ (by constructor<;>omega)
 have d0: ¬(L:Int)=0:=by omega
 obtain⟨z0,z5,zi⟩:=CL.out w7 HB67.out
 obtain⟨ahead,hah⟩: ∃ahead:Int,ahead=if pos=0 then(la:Int) else(own.getD (pos-1) (0,0)).2:=⟨_,rfl⟩
 have HAH:=hid hah
 clear hah
 have hla66:la+192≤66560:=by
  have h1:=HBU.out.1.tlt (k:=0) (by omega) HOW.out.2.2.1
  have h2:=HBU.out.1.tin
  have h3:=HBU.out.1.s64
  have e0:tK keys x.per.toNat x.lag.toNat 0+r0=r0:=Nat.zero_add _
  rw[e0] at h1
  have h4:=nA_in (u:=uN keys) (t:=r0) (slabs:=x.slabs.toNat) (by omega)
  rw[←HR.out.2.2.2.1] at h4
  omega
 have HP:=hid (⟨hpos,hL0⟩:_∧_)
 go_upto_if 93 with fail
 go_cut [16] from 92 to 99 (fun o wd=>o= .int .u64 ahead∧Hid (wd=w7))
 case first=>
  by_cases hp0:pos=0
  ·have t4:decide ((pos:Int)>0)=false:=by simp[hp0]
   have e1:Hid (ahead=(la:Int)):=hid (by rw[HAH.out,if_pos hp0])
   have t4': ¬(pos:Int)>0:=by omega
   have t4'': ¬0<pos:=by omega
   clear hp0 hpos epos unL wpos d0
   go_wp2
   go_meet
   exact⟨by rw[e1.out],rfl⟩
  ·obtain⟨pm,hpm⟩: ∃pm,pos=pm+1:=⟨pos-1,by omega⟩
   have t4:decide ((pos:Int)>0)=true:=by simp;omega
   have t4'':0<pos:=by omega
   have e1:Hid (ahead=fp pm):=hid (by rw[HAH.out,if_neg hp0,hpm,Nat.add_sub_cancel,HF.out.2])
   have wpm:IntKind.i64.wrap ((pos:Int)-1)=(pm:Int):=by rw[IntWalk.i64_in _ (by omega)];omega
   have y1:=(zi pm (by omega)).2
   have i3:(0:Int)≤(pm:Int):=by omega
   have i4:(pm:Int)<8:=by omega
   clear hp0 hpos hpm epos unL wpos d0 zi
   go_wp2
   go_meet
   exact⟨by rw[e1.out],rfl⟩
 case rest=>
  obtain⟨rfl,hwc⟩:=hcut
  rw[hwc.out]
  clear hwc
  obtain⟨putT,hputT⟩: ∃putT:Nat→Int×Int,∀j,putT j=(((la+8*idxT L pos j:Nat):Int),wdT L pos ahead own j):=⟨_,fun _=>rfl⟩
  obtain⟨lb,hlb⟩: ∃lb,lb=la+64:=⟨_,rfl⟩
  obtain⟨p16,hp16⟩: ∃p16,p16=16*pos:=⟨_,rfl⟩
  obtain⟨A0,hA0⟩: ∃A0,A0=la+8*idxT L pos 0:=⟨_,rfl⟩
  have hA0':A0=lb+(p16+8):=by rw[hA0,hlb,hp16];show la+8*(9+2*pos)=_;omega
  have w1:IntKind.u64.wrap ((la:Int)+64)=(lb:Int):=by rw[IntWalk.u64_in _ (by constructor<;>omega)];omega
  have w2:IntKind.i64.wrap (16*(pos:Int))=(p16:Int):=by rw[IntWalk.i64_in _ (by constructor<;>omega)];omega
  obtain⟨p24,hp24⟩: ∃p24,p24=p16+8:=⟨_,rfl⟩
  have w3':IntKind.i64.wrap ((p16:Int)+8)=(p24:Int):=by rw[IntWalk.i64_in _ (by constructor<;>omega)];omega
  have w4:IntKind.u64.wrap (p24:Int)=(p24:Int):=IntWalk.u64_in _ (by constructor<;>omega)
  have w5:IntKind.u64.wrap ((lb:Int)+(p24:Int))=(A0:Int):=by rw[IntWalk.u64_in _ (by constructor<;>omega)];omega
  have hp0:putT 0=((A0:Int),ahead):=by rw[hputT,hA0];rfl
  have happ:=app_put (W:=w7) (N:=w7.heap.size) (v:= .slice none 0 0) (l:=[]) [((A0:Int),ahead)] (World.ownsRow_nil _ _ _ _) (Nat.le_refl _) (by simp) (by simp)
  obtain⟨va,vc,w9,hrun0,hro9,ho9,_⟩:=happ
  have hrun:q0n Tryz.prog #[60,60] 60 #[.slice none 0 0,.slice (some ⟨w7.heap.size,0,none⟩) 1 1] (w7.alloc (.cells #[.int .u64 (A0:Int),.int .u64 ahead] 62))= .ok (.slice va 1 vc) w9:=hrun0
  have hb9:Below w7.heap.size w7 w9:=ho9.below (by simp[Value.ownBlock]) (Nat.le_refl _)
  have HRO:Hid (w9.ownsRow w7.heap.size 62 2 (.slice va 1 vc) 1 (((List.range 1).map putT).flatMap putE)):=hid (by
   have:(List.range 1).map putT=[]++[((A0:Int),ahead)]:=by show[putT 0]=_;rw[hp0];rfl
   rw[this];exact hro9)
  have HB79:=hid hb9
  have HPT:=hid (⟨hputT,hlb,hp16,hp24⟩:_∧_∧_∧_)
  obtain⟨z0,z5,zi⟩:=CL.out w7 HB67.out
  clear hputT hlb hp16 hp24 hA0 hA0' hp0 hrun0 hro9 ho9 hb9
  obtain⟨Lm,hLm⟩: ∃Lm,L=Lm+1:=⟨L-1,by omega⟩
  have wLm:IntKind.i64.wrap ((L:Int)-1)=(Lm:Int):=by rw[IntWalk.i64_in _ (by omega)];omega
  have HLM:=hid hLm
  clear hLm
  go_wp2
  go_loopw [15,18] (fun lv iv wr=> ∃(i:Nat) (a:Option Addr) (q c:Nat),pos≤i∧i≤Lm∧q=1+2*(i-pos)∧iv= .int .i64 i∧lv= .slice a q c∧Hid (wr.ownsRow w7.heap.size 62 2 (.slice a q c) q (((List.range q).map putT).flatMap putE)∧Below w7.heap.size w7 wr)) (fun _ iv _=>L- (intOf iv).toNat)
  case atStart=>exact⟨pos,va,1,vc,Nat.le_refl _,by have:=HLM.out;omega,by omega,rfl,rfl,HRO.out,HB79.out⟩
  case round=>
   obtain⟨i,a,q,c,hi1,hi2,hq,rfl,rfl,hI⟩:=hrel
   obtain⟨wA,rfl⟩: ∃x,x=wr:=⟨_,rfl⟩
   by_cases hlt:i<Lm
   ·have i1:(i:Int)< (Lm:Int):=by omega
    obtain⟨y0,y5,yi⟩:=CL.out wA (bx HB67.out hI.out.2)
    obtain⟨ip,hip⟩: ∃ip,ip=i+1:=⟨_,rfl⟩
    have hLm:=HLM.out
    have y1:=(yi ip (by omega)).1
    have y2:=(yi ip (by omega)).2
    obtain⟨i16,hi16⟩: ∃i16,i16=16*i:=⟨_,rfl⟩
    obtain⟨i24,hi24⟩: ∃i24,i24=i16+8:=⟨_,rfl⟩
    obtain⟨A1,hA1⟩: ∃A1,A1=lb+i16:=⟨_,rfl⟩
    obtain⟨A2,hA2⟩: ∃A2,A2=lb+i24:=⟨_,rfl⟩
    have hpt:=HPT.out
    have x1:IntKind.i64.wrap ((i:Int)+1)=(ip:Int):=by rw[IntWalk.i64_in _ (by omega)];omega
    have x2:IntKind.i64.wrap (16*(i:Int))=(i16:Int):=by rw[IntWalk.i64_in _ (by omega)];omega
    have x3:IntKind.u64.wrap (i16:Int)=(i16:Int):=IntWalk.u64_in _ (by constructor<;>omega)
    have x4:IntKind.u64.wrap ((lb:Int)+(i16:Int))=(A1:Int):=by rw[IntWalk.u64_in _ (by constructor<;>omega)];omega
    have x5:IntKind.i64.wrap ((i16:Int)+8)=(i24:Int):=by rw[IntWalk.i64_in _ (by omega)];omega
    have x6:IntKind.u64.wrap (i24:Int)=(i24:Int):=IntWalk.u64_in _ (by constructor<;>omega)
    have x7:IntKind.u64.wrap ((lb:Int)+(i24:Int))=(A2:Int):=by rw[IntWalk.u64_in _ (by constructor<;>omega)];omega
    have j0:(0:Int)≤(ip:Int):=by omega
    have j1:(ip:Int)<8:=by omega
    have hpos':=HP.out.1
    have n1:putT q=((A1:Int),fk ip):=by
     rw[hpt.1,hq]
     have e1:idxT L pos (1+2*(i-pos))=8+2*i:=by unfold idxT;rw[if_neg (by omega),if_neg (by omega)];omega
     have e2:wdT L pos ahead own (1+2*(i-pos))=fk ip:=by unfold wdT;rw[if_neg (by omega),if_neg (by omega),if_pos (by omega),HF.out.1,show pos+(1+2*(i-pos))/2+1=ip by omega]
     rw[e1,e2,hA1,hpt.2.1,hi16]
     congr 1;omega
    have n2:putT (q+1)=((A2:Int),fp ip):=by
     rw[hpt.1,hq]
     have e1:idxT L pos (1+2*(i-pos)+1)=9+2*i:=by unfold idxT;rw[if_neg (by omega),if_neg (by omega)];omega
     have e2:wdT L pos ahead own (1+2*(i-pos)+1)=fp ip:=by unfold wdT;rw[if_neg (by omega),if_neg (by omega),if_neg (by omega),HF.out.2,show pos+(1+2*(i-pos)+1)/2=ip by omega]
     rw[e1,e2,hA2,hi24,hpt.2.1,hi16]
     congr 1;omega
    have hll:((List.range q).map putT).length=q:=by simp
    have happ:=app_put (W:=wA.drew) (N:=w7.heap.size) (v:= .slice a q c) (l:=(List.range q).map putT) [((A1:Int),fk ip),((A2:Int),fp ip)] (by rw[hll];exact((Only.refl [] _).drew).own hI.out.1 (by simp)) hI.out.2.size (by simp) (by rw[hll];show q+2≤1000;omega)
    rw[hll] at happ
    obtain⟨va2,vc2,w10,hrun0,hro10,ho10,hn10⟩:=happ
    have hrun2:q0n Tryz.prog #[60,60] 60 #[.slice a q c,.slice (some ⟨wA.heap.size,0,none⟩) 2 2] ((wA.alloc (.cells #[.int .u64 (A1:Int),.int .u64 (fk ip),.int .u64 (A2:Int),.int .u64 (fp ip)] 62)).drew)= .ok (.slice va2 (q+2) vc2) w10:=hrun0
    have HN10:Hid (w10.ownsRow w7.heap.size 62 2 (.slice va2 (q+2) vc2) (q+2) (((List.range (q+2)).map putT).flatMap putE)∧Below w7.heap.size w7 w10):=hid ⟨by
     have:(List.range (q+2)).map putT=(List.range q).map putT++[((A1:Int),fk ip),((A2:Int),fp ip)]:=by
      rw[List.range_succ,List.range_succ,List.map_append,List.map_append,List.append_assoc]
      show _++[putT q,putT (q+1)]=_
      rw[n1,n2]
     rw[this];exact hro10,by
     refine(hI.out.2.drew).trans (ho10.below (fun y hy=> ?_) (hI.out.2.drew).size)
     exact(q0l hI.out.1 y (by simpa[Option.mem_toList] using hy)).1⟩
    have HNM:=hid (⟨hi1,hlt,hq,hip⟩:_∧_∧_∧_)
    clear hip hi16 hi24 hA1 hA2 hpt hpos' n1 n2 hll hrun0 hro10 ho10 hn10 hi1 hi2 hq hlt yi y0 y5 hLm
    go_wp2
    go_region
    all_goals go_wp2
    go_roundw
    case rel=>exact⟨i+1,va2,q+2,vc2,by have:=HNM.out;omega,by have:=HNM.out;omega,by have:=HNM.out;omega,by rw[HNM.out.2.2.2],rfl,HN10.out⟩
    case measure=>have:=HNM.out;have:=HLM.out;first | (simp[intOf];done) | (simp[intOf];omega)
   ·have hie:i=Lm:=by omega
    have i1: ¬(i:Int)< (Lm:Int):=by omega
    have hLm:=HLM.out
    have hpos':=HP.out.1
    have hpt:=HPT.out
    obtain⟨l16,hl16⟩: ∃l16,l16=16*Lm:=⟨_,rfl⟩
    obtain⟨l24,hl24⟩: ∃l24,l24=l16+8:=⟨_,rfl⟩
    obtain⟨A3,hA3⟩: ∃A3,A3=lb+l24:=⟨_,rfl⟩
    obtain⟨M,hM⟩: ∃M,M=q+1:=⟨_,rfl⟩
    have x2:IntKind.i64.wrap (16*(Lm:Int))=(l16:Int):=by rw[IntWalk.i64_in _ (by omega)];omega
    have x5:IntKind.i64.wrap ((l16:Int)+8)=(l24:Int):=by rw[IntWalk.i64_in _ (by omega)];omega
    have x6:IntKind.u64.wrap (l24:Int)=(l24:Int):=IntWalk.u64_in _ (by constructor<;>omega)
    have x7:IntKind.u64.wrap ((lb:Int)+(l24:Int))=(A3:Int):=by rw[IntWalk.u64_in _ (by constructor<;>omega)];omega
    have n1:putT q=((A3:Int),0):=by
     rw[hpt.1]
     have e1:idxT L pos q=9+2*(L-1):=by unfold idxT;rw[if_neg (by omega),if_pos (by omega)]
     have e2:wdT L pos ahead own q=0:=by unfold wdT;rw[if_neg (by omega),if_pos (by omega)]
     rw[e1,e2,hA3,hl24,hpt.2.1,hl16]
     congr 1;omega
    have hll:((List.range q).map putT).length=q:=by simp
    have happ:=app_put (W:=wA) (N:=w7.heap.size) (v:= .slice a q c) (l:=(List.range q).map putT) [((A3:Int),0)] (by rw[hll];exact hI.out.1) hI.out.2.size (by simp) (by rw[hll];show q+1≤1000;omega)
    rw[hll] at happ
    obtain⟨va2,vc2,w11,hrun0,hro11,ho11,_⟩:=happ
    have hrun2:q0n Tryz.prog #[60,60] 60 #[.slice a q c,.slice (some ⟨wA.heap.size,0,none⟩) 1 1] (wA.alloc (.cells #[.int .u64 (A3:Int),.int .u64 0] 62))= .ok (.slice va2 M vc2) w11:=by rw[hM];exact hrun0
    have HRW:Hid (w11.ownsRow w7.heap.size 62 2 (.slice va2 M vc2) M (((List.range M).map putT).flatMap putE)):=hid (by
     have:(List.range M).map putT=(List.range q).map putT++[((A3:Int),0)]:=by
      rw[hM,List.range_succ,List.map_append]
      show _++[putT q]=_
      rw[n1]
     rw[this,hM];exact hro11)
    have HB11:Hid (Below w7.heap.size w7 w11):=hid (hI.out.2.trans (ho11.below (fun y hy=>(q0l hI.out.1 y (by simpa[Option.mem_toList] using hy)).1) hI.out.2.size))
    have hM2:M=2*(L-pos):=by omega
    have HMM:=hid (⟨hM2,HN.out.2.2.2⟩:_∧_)
    have hM16:M≤16:=by omega
    obtain⟨gp,vc3,e6,hgp7,_,hgpl,hcp⟩:=q6o HRW.out (by omega)
    injection e6 with e6 en1 en2
    subst e6
    have HCP:=hid (⟨hcp,hgp7,hgpl⟩:_∧_∧_)
    have hb211:=bx HB34.out (bx HB46.out (bx HB67.out HB11.out))
    have HKB11:=hid (HKB.out.bel hb211)
    have HG11:=hid (HG.out.bel hb211)
    have HNE:Hid (g≠b∧gp≠b∧b<w7.heap.size):=hid (by
     have h1:=HKB.out.lt
     have h2:=(bx HB34.out (bx HB46.out HB67.out)).size
     refine⟨fun e=> ?_,by omega,by omega⟩
     have h3:W2.heap[g]?=_:=HG.out
     have h4:W2.heap[b]?=_:=HKB.out
     rw[e,h4] at h3
     injection h3 with h3
     injection h3 with _ h3
     cases h3)
    clear en1 en2 hcp hgp7 hgpl hb211 hro11 ho11 hrun0 hll n1 hM hM2 hA3 hl24 hl16 hpt hpos' hLm hie hlt hi1 hi2 hq
    go_wp2
    go_loopw [19] (fun iv wr=> ∃i:Nat,i≤M∧iv= .int .i64 i∧Hid (∃bsI,Blk wr b 5 (byC bsI)∧TornAt x.slabs.toNat keys x.per.toNat x.lag.toNat K r0 pos i bsI∧(i=0→bsI=bs)∧Only [b] w11 wr∧(i:Int)≤sN)) (fun iv _=>M- (intOf iv).toNat)
    case atStart=>exact⟨0,Nat.zero_le _,rfl,bs,HKB11.out,HBU.out.1.torn HOW.out.2.2.1 (by rw[←HOW.out.1,←HOW.out.2.1];exact HP.out.1),fun _=>rfl,Only.refl _ _,by simpa using hs0⟩
    case round=>
     obtain⟨i,hi,rfl,hI2⟩:=hrel
     obtain⟨wB,rfl⟩: ∃x,x=wr:=⟨_,rfl⟩
     have hiS:=hI2.out
     go_upto_region 22 with fail
     go_cut [168] from 160 to 168 (fun c wd=>c= .bool (decide (i<M∧(i:Int)<sN))∧Hid (wd=wB))
     case first=>
      clear hiS
      by_cases s1:i<M
      ·have d1:(i:Int)< (M:Int):=by omega
       by_cases s2:(i:Int)<sN
       ·have HD:=hid (show decide (i<M∧(i:Int)<sN)=true from decide_eq_true ⟨s1,s2⟩)
        clear s1 hi
        go_wp2
        go_meet
        exact⟨by rw[HD.out],hid rfl⟩
       ·have HD:=hid (show decide (i<M∧(i:Int)<sN)=false from decide_eq_false (by omega))
        clear s1 hi
        go_wp2
        go_meet
        exact⟨by rw[HD.out],hid rfl⟩
      ·have d1: ¬(i:Int)< (M:Int):=by omega
       have HD:=hid (show decide (i<M∧(i:Int)<sN)=false from decide_eq_false (by omega))
       clear s1 hi
       go_wp2
       go_meet
       exact⟨by rw[HD.out],hid rfl⟩
     case rest=>
      obtain⟨rfl,hwc⟩:=hcut
      rw[hwc.out]
      clear hwc hiS
      by_cases hlt:i<M∧(i:Int)<sN
      ·rw[decide_eq_true hlt]
       obtain⟨bsI,hkI,hTI,hz,hoI,hiS⟩:=hI2.out
       have i1:(i:Int)< (M:Int):=by omega
       have i2:(i:Int)<sN:=hlt.2
       have i0:(0:Int)≤(i:Int):=by omega
       obtain⟨A,hA⟩: ∃A,A=la+8*idxT L pos i:=⟨_,rfl⟩
       have hwdU:U64 (wdT L pos ahead own i):=by
        have h1:=wdT_U HBU.out.1.toBase (r0:=r0) (pos:=pos) (by rw[←HR.out.2.2.2.1];omega) L i
        rw[←HOW.out.1,←HR.out.2.2.2.1,←HAH.out] at h1
        exact h1
       obtain⟨X,hX⟩: ∃X:Nat,X=(wdT L pos ahead own i).toNat:=⟨_,rfl⟩
       unfold U64 at hwdU
       have hXw:((X:Nat):Int)=wdT L pos ahead own i:=by omega
       have hX64:X<18446744073709551616:=by omega
       have hidx:idxT L pos i≤23:=by
        have h1:=HMM.out.1
        have h2:=HP.out.1
        unfold idxT;split;omega;split<;>omega
       have hA66:A+8≤66560:=by omega
       have xA:IntKind.i64.wrap (A:Int)=(A:Int):=IntWalk.i64_in _ (by omega)
       have hlen:n=bsI.length:=by
        have h1:=hTI.len
        have h2:=HBU.out.1.len
        have h3:=HN.out.1
        omega
       have hAl:A+8≤bsI.length:=by
        have h1:=hTI.len
        have h2:=HBU.out.1.tlt (k:=0) (by omega) HOW.out.2.2.1
        have h3:=HBU.out.1.tin
        have e0:tK keys x.per.toNat x.lag.toNat 0+r0=r0:=Nat.zero_add _
        rw[e0] at h2
        have h4:=nA_in (u:=uN keys) (t:=r0) (slabs:=x.slabs.toNat) (by omega)
        rw[←HR.out.2.2.2.1] at h4
        omega
       have hTN:TornAt x.slabs.toNat keys x.per.toNat x.lag.toNat K r0 pos (i+1) (putW bsI A X):=by
        have h1:=hTI.next HOW.out.2.2.1 (by rw[←HOW.out.1,←HOW.out.2.1];exact HP.out.1) (by rw[←HOW.out.1,←HOW.out.2.1,←HMM.out.1];exact hlt.1)
        unfold wdE at h1
        rw[←HOW.out.1,←HOW.out.2.1,←HR.out.2.2.2.1,←HAH.out,←hA,←hX] at h1
        exact h1
       have hpi:((List.range M).map putT)[i]?=some ((A:Int),(X:Int)):=by
        rw[List.getElem?_map,List.getElem?_range hlt.1,Option.map_some,HPT.out.1,←hA,hXw]
       obtain⟨p1,p2⟩:=putL_at _ _ _ hpi
       have cp1':=HCP.out.1 _ _ p1
       have cp2':=HCP.out.1 _ _ p2
       rw[Nat.zero_add] at cp1' cp2'
       have hnb:gp∉ [b]:=by simpa using HNE.out.2.1
       have cp1:=(hoI.cell (p:=⟨gp,i*2,none⟩) (World.block_lt_of_cell? _ _ cp1') hnb).trans cp1'
       have cp2:=(hoI.cell (p:=⟨gp,i*2+1,none⟩) (World.block_lt_of_cell? _ _ cp2') hnb).trans cp2'
       have cg:wB.cell? ⟨g,0,none⟩=some (.slice (some ⟨b,0,none⟩) n n):=(hoI.blk HG11.out (by simpa using HNE.out.1)).cell 0
       have SW:=hid (fun W (h:Blk W b 5 (byC bsI))=>SetW_z b n n bsI A X hX64 hlen hAl (by rw[←hlen];exact HN.out.2.1) W h)
       have HKI:=hid hkI
       have HOI:=hid hoI
       have HNX:=hid (⟨hTN,hlt,hTI,hz⟩:_∧_∧_∧_)
       have d1:wB.drew.cell? ⟨g,0,none⟩=some (.slice (some ⟨b,0,none⟩) n n):=cg
       have d2:wB.drew.cell? ⟨gp,i*2,none⟩=some (.int .u64 (A:Int)):=cp1
       have d3:wB.drew.cell? ⟨gp,i*2+1,none⟩=some (.int .u64 (X:Int)):=cp2
       have i3:decide ((i:Int)<sN)=true:=decide_eq_true i2
       clear hA hX hXw hwdU hidx hA66 hlen hAl hTN hpi p1 p2 cp1' cp2' hnb hX64 hkI hoI hTI hz hlt hi hiS
       go_upto_region 24 with fail
       go_region_held3 (fun w'=>w'.cell? ⟨g,0,none⟩=some (.slice (some ⟨b,0,none⟩) n n)∧w'.cell? ⟨gp,i*2,none⟩=some (.int .u64 (A:Int))∧w'.cell? ⟨gp,i*2+1,none⟩=some (.int .u64 (X:Int)))
        (first | (with_reducible exact⟨x0,x1,x2⟩) | (with_reducible exact⟨d1,d2,d3⟩) | (with_reducible exact⟨cg,cp1,cp2⟩))
        ((go_at_call 21;(with_reducible refine(SW.out _ (by first | exact HKI.out | exact HKI.out.drew | exact HKI.out.drewN _)).mono ?_);rintro e v1 ⟨rfl,hk1,ho1⟩;have x0:=(ho1.cell (p:=⟨g,0,none⟩) (World.block_lt_of_cell? _ _ d1) (by simpa using HNE.out.1)).trans d1;have x1:=(ho1.cell (p:=⟨gp,i*2,none⟩) (World.block_lt_of_cell? _ _ d2) (by simpa using HNE.out.2.1)).trans d2;have x2:=(ho1.cell (p:=⟨gp,i*2+1,none⟩) (World.block_lt_of_cell? _ _ d3) (by simpa using HNE.out.2.1)).trans d3;have HV1:=hid hk1;have HO1:=hid ho1;clear hk1 ho1))
       all_goals go_wp2
       all_goals go_roundw
       case rel=>exact⟨i+1,HNX.out.2.1.1,by go_num,hid ⟨_,HV1.out,HNX.out.1,fun h=>by omega,by first | exact HOI.out.trans HO1.out (fun _ h=>Or.inl h) | exact HOI.out.drew.trans HO1.out (fun _ h=>Or.inl h),by have:=HNX.out.2.1.2;omega⟩⟩
       case measure=>have:=HNX.out.2.1.1;first | (simp[intOf];done) | (simp[intOf];omega)
      ·rw[decide_eq_false hlt]
       obtain⟨bsI,hkI,hTI,hz,hoI,hiS⟩:=hI2.out
       have hpL:pos< (ownE keys x.per.toNat x.lag.toNat 0 r0).length:=by rw[←HOW.out.1,←HOW.out.2.1];exact HP.out.1
       obtain⟨hPm,ws,hRd,hfl⟩:=torn_end HBU.out.1 hTI HOW.out.2.2.1 hpL (by rw[←HOW.out.1,←HOW.out.2.1,←HMM.out.1];exact hi) hz
       have hiz:(i=0↔sN=0):=by
        have:=HMM.out.1
        have:=HP.out.1
        constructor<;>intro h<;>omega
       obtain⟨P,hPP⟩: ∃P,P=r0*x.per.toNat+pos:=⟨_,rfl⟩
       rw[←hPP] at hPm hfl
       obtain⟨jn,hjn⟩: ∃jn,jn=(jsT keys.length P i).length:=⟨_,rfl⟩
       obtain⟨lk,hlk⟩: ∃lk,lk=if i=0 then 0 else 1:=⟨_,rfl⟩
       have hLT:=fun(w w':World) (e:Ending) (h:q3u bsI w e w')=>look_torn hRd hPm hfl h
       rw[←hjn,←hlk,←HBU.out.2.2.2.1] at hLT
       have LT:=hid hLT
       have hlenI:n=bsI.length:=by
        have h1:=hTI.len
        have h2:=HBU.out.1.len
        have h3:=HN.out.1
        omega
       have LK:=hid (v8x (some ⟨b,0,none⟩) n n bsI hlenI HN.out.2.1 (by have:=HN.out.2.1;omega) wB (bytesIn_blk hkI hTI.byt (by omega)))
       have hkey:(own[pos]?).isSome:=by rw[HOW.out.1,List.getElem?_eq_getElem hpL];rfl
       have hkP:fk pos=((keys.getD P 0:Nat):Int):=by
        rw[HF.out.1,HOW.out.1,List.getD_eq_getElem?_getD,ownK_at (Nat.lt_of_lt_of_le hpL (ownK_len _ _ _)),←hPP]
        have h1:(eK keys x.per.toNat x.lag.toNat 0)[P]?=_:=ents0_at hPm
        rw[h1];rfl
       have hbw: ∀W,Below w7.heap.size w7 W→Only [b] W wB→True:=fun _ _ _=>trivial
       have hb1:=HNE.out.2.2
       have hbB:W4.heap.size≠b:=by
        have h1:=HKB.out.lt
        have h2:=HB34.out.size
        omega
       have hbR:w3.heap.size≠b:=by
        have h1:=HKB.out.lt
        have h2:=hb3s.out
        omega
       have cg:wB.cell? ⟨g,0,none⟩=some (.slice (some ⟨b,0,none⟩) n n):=(hoI.blk HG11.out (by simpa using HNE.out.1)).cell 0
       have hb711:=bx HB67.out HB11.out
       have cP:wB.cell? ⟨W4.heap.size,6+pos,none⟩=some (.int .u64 (fk pos)):=by
        have h1:=((CL.out w11 hb711).2.2 pos (by have:=HP.out.1;omega)).1
        exact(hoI.cell (p:=⟨W4.heap.size,6+pos,none⟩) (World.block_lt_of_cell? _ _ h1) (by simpa using hbB)).trans h1
       have hKR:=hoI.blk (HK4.out.bel (bx HB46.out hb711)) (by simpa using hbR)
       have hPR:=hoI.own ((Only.of_below (bx HB46.out hb711) []).own HPA.out (by simp)) (fun k hk hm=>by
        have h1:=(q0l HPA.out k hk).1
        have h2:=HKB.out.lt
        rw[List.mem_singleton.1 hm] at h1
        omega)
       have HKR:=hid hKR
       have HPR:=hid hPR
       have HJ:=hid (⟨hPm,hjn,hlk,hiz,hkP⟩:_∧_∧_∧_∧_)
       have HCP:=hid cP
       have HWB:Hid (Below w.heap.size w wB):=hid (by
        have h1:=bx HB7.out HB11.out
        refine h1.trans (hoI.below (fun y hy=> ?_) h1.size)
        rw[List.mem_singleton.1 hy]
        have h2:=HN.out.2.2.2
        have h3:=HB1.out.size
        omega)
       clear hkI hTI hz hoI hiS hpL hRd hfl hPP hjn hlk hLT hlenI hkey hkP hbw hb1 hbB hbR hb711 cP hKR hPR hPm hiz
       go_wp2_with fail
       refine LK.out.mono ?_
       intro e w13 hp
       obtain⟨hb13,pa2,pc2,ra2,rn2,rc2,fa2,fc2,ka2,kc2,rfl,hrep2⟩:=LT.out _ _ _ hp
       clear hp
       obtain⟨W15,st15,k15,hb15⟩:=rep_put w13 pa2 ra2 fa2 ka2 jn pc2 rn2 rc2 0 fc2 lk kc2 (K:Int) (T:Int)
       have hb1315:=bx hb13 hb15
       have HB15:=hid (HWB.out.trans (hb1315.mono HWB.out.size))
       have HK15:=hid k15
       have HR15:=hid ((Only.of_below hb15 []).own hrep2 (by simp))
       have HKR15:=hid (HKR.out.bel hb1315)
       have HPR15:=hid ((Only.of_below hb1315 []).own HPR.out (by simp))
       have cP15:=(hb1315.cell (p:=⟨W4.heap.size,6+pos,none⟩) (World.block_lt_of_cell? _ _ HCP.out)).trans HCP.out
       have eT:((T:Int) !=(T:Int))=false:=by simp
       have s5:W15.cell? ⟨w13.heap.size,5,none⟩=some (.int .i64 (T:Int)):=HK15.out.cell 5
       have s5':W15.cell? ⟨w3.heap.size,5,none⟩=some (.int .i64 (T:Int)):=HKR15.out.cell 5
       have j0:(0:Int)≤(pos:Int):=by omega
       have j8:(pos:Int)<8:=by have:=HP.out.1;omega
       obtain⟨gn,hgn⟩: ∃gn,gn=fk pos:=⟨_,rfl⟩
       rw[←hgn] at cP15
       have HGN:=hid hgn
       have hm16:m≤40:=by have:=HM.out;have:=HBU.out.2.2.1;omega
       clear hb13 hb15 hb1315 k15 hrep2 cg hgn
       go_wp2
       go_loopw [23,24] (fun kv iv wr=> ∃(q k:Nat),q≤m∧k=(if i≠0∧P<q then q-1 else q)∧iv= .int .i64 q∧kv= .int .i64 k∧Hid (Below W15.heap.size W15 wr)) (fun _ iv _=>m- (intOf iv).toNat)
       case atStart=>exact⟨0,0,Nat.zero_le _,by simp,rfl,rfl,Below.refl _ _⟩
       case round=>
        obtain⟨q,k,hq,hk,rfl,rfl,hI3⟩:=hrel
        obtain⟨wC,rfl⟩: ∃x,x=wr:=⟨_,rfl⟩
        have r0:wC.cell? ⟨w3.heap.size,0,none⟩=some (.slice pa m pc):=(HKR15.out.bel hI3.out).cell 0
        have r1:wC.cell? ⟨w13.heap.size,0,none⟩=some (.slice pa2 jn pc2):=(HK15.out.bel hI3.out).cell 0
        by_cases hqm:q<m
        ·have i1:(q:Int)< (m:Int):=by omega
         have i0:(0:Int)≤(q:Int):=by omega
         obtain⟨key,hkey⟩: ∃key:Nat,key=keys.getD q 0:=⟨_,rfl⟩
         have hps:=pairs0_at (keys:=keys) (j:=q) (by have:=HM.out;omega)
         rw[←hkey] at hps
         obtain⟨S,hS⟩: ∃S,S=strOfNums (numL key):=⟨_,rfl⟩
         rw[←hS] at hps
         obtain⟨g8,pc8,e8,_,_,_,hc8⟩:=q6o ((Only.of_below hI3.out []).own HPR15.out (by simp)) (by omega)
         injection e8 with e8 en1 en2
         subst e8
         obtain⟨p1,p2⟩:=z5n _ q _ hps
         have y1:=hc8 _ _ p1
         have y2:=hc8 _ _ p2
         rw[Nat.zero_add] at y1 y2
         have hk64:key<18446744073709551616:=by
          rw[hkey,List.getD_eq_getElem?_getD,List.getElem?_eq_getElem (by have:=HM.out;omega)]
          exact HBU.out.1.kk _ (List.getElem_mem _)
         have hgn:gn=((keys.getD P 0:Nat):Int):=by rw[HGN.out];exact HJ.out.2.2.2.2
         have hhit:((key:Int)==gn)=decide (q=P):=by
          have hPm:=HJ.out.1
          have hmm:=HM.out
          by_cases hqP:q=P
          ·rw[decide_eq_true hqP,hgn,hkey,hqP];simp
          ·rw[decide_eq_false hqP]
           have hne:key≠keys.getD P 0:=by
            rw[hkey,List.getD_eq_getElem?_getD,List.getD_eq_getElem?_getD,List.getElem?_eq_getElem (by omega),List.getElem?_eq_getElem hPm]
            simp only[Option.getD_some]
            rcases Nat.lt_or_gt_of_ne hqP with h | h
            ·have:=List.pairwise_iff_getElem.1 HBU.out.1.rise q P (by omega) hPm h;omega
            ·have:=List.pairwise_iff_getElem.1 HBU.out.1.rise P q hPm (by omega) h;omega
           rw[hgn,beq_eq_false_iff_ne]
           intro e
           exact hne (by exact_mod_cast e)
         have HQ:=hid (⟨hqm,hk,hps,hkey,hS,hk64⟩:_∧_∧_∧_∧_∧_)
         clear hkey hps hS en1 en2 hc8 p1 p2 hk64 hgn hqm hq hk
         go_upto_region 33 with fail
         go_cut [227] from 216 to 227 (fun c wd=>c= .bool (decide (i≠0∧q=P))∧Hid (wd=wC))
         case first=>
          by_cases hsz:sN=0
          ·have s1: ¬sN>0:=by omega
           have s1':decide (sN>0)=false:=decide_eq_false s1
           have hi0:=HJ.out.2.2.2.1.2 hsz
           have HD:=hid (show decide (i≠0∧q=P)=false from decide_eq_false (by omega))
           clear hsz hi0
           go_wp2
           go_meet
           exact⟨by rw[HD.out],hid rfl⟩
          ·have s1:sN>0:=by omega
           have s1':decide (sN>0)=true:=decide_eq_true s1
           have hi0:i≠0:=fun e=>hsz (HJ.out.2.2.2.1.1 e)
           have HD:=hid (show decide (i≠0∧q=P)=decide (q=P) by simp[hi0])
           have HH:=hid hhit
           clear hsz hi0 hhit
           obtain⟨hb,hhb⟩: ∃hb,hb=((key:Int)==gn):=⟨_,rfl⟩
           have HHB:=hid hhb
           cases hb
           ·have b1:((key:Int)==gn)=false:=hhb.symm
            clear hhb
            go_wp2
            go_meet
            exact⟨by rw[HD.out,←HH.out,←HHB.out],hid rfl⟩
           ·have b1:((key:Int)==gn)=true:=hhb.symm
            clear hhb
            go_wp2
            go_meet
            exact⟨by rw[HD.out,←HH.out,←HHB.out],hid rfl⟩
         case rest=>
          obtain⟨rfl,hwc⟩:=hcut
          rw[hwc.out]
          clear hwc hhit
          by_cases hit:i≠0∧q=P
          ·rw[decide_eq_true hit]
           have HIT:=hid hit
           clear hit
           go_wp2
           go_roundw
           case rel=>exact⟨q+1,k,HQ.out.1,by have h1:=HQ.out.2.1;have h2:=HIT.out;rw[if_neg (by omega)] at h1;rw[if_pos (by omega)];omega,by go_num,rfl,hI3⟩
           case measure=>have:=HQ.out.1;first | (simp[intOf];done) | (simp[intOf];omega)
          ·rw[decide_eq_false hit]
           have hjs:=jsT_at (m:=keys.length) (P:=P) (i:=i) (j:=q) (by have:=HQ.out.1;have:=HM.out;omega) HJ.out.1 hit
           rw[←HQ.out.2.1] at hjs
           have hkj:k<jn:=by rw[HJ.out.2.1];exact(List.getElem?_eq_some_iff.1 hjs).1
           have hps2:((jsT keys.length P i).map (pairJ keys))[k]?=some ((key:Int),S):=by
            rw[List.getElem?_map,hjs,HQ.out.2.2.2.2.1,HQ.out.2.2.2.1];rfl
           obtain⟨g9,pc9,e9,_,_,_,hc9⟩:=q6o ((Only.of_below hI3.out []).own HR15.out (by simp)) (by omega)
           injection e9 with e9 en1 en2
           subst e9
           obtain⟨p1,p2⟩:=z5n _ k _ hps2
           have v1:=hc9 _ _ p1
           have v2:=hc9 _ _ p2
           rw[Nat.zero_add] at v1 v2
           have hS120:S.size≤120:=by
            have h1:=z9n HQ.out.2.2.2.2.2
            rw[HQ.out.2.2.2.2.1,←q2v,q8p (x0c key)]
            omega
           have hk64:=HQ.out.2.2.2.2.2
           have hnq:=fun W=>x9l (key:Int) S W ⟨by omega,by omega⟩ (by unfold maxLen;omega)
           have c1: ¬(k:Int)≥(jn:Int):=by omega
           have c1':decide ((k:Int)≥(jn:Int))=false:=decide_eq_false c1
           have k0:(0:Int)≤(k:Int):=by omega
           have k1:(k:Int)< (jn:Int):=by omega
           have HIT:=hid hit
           have hjm:jn≤40:=by have:=jsT_len (m:=keys.length) (P:=P) i HJ.out.1;have:=HJ.out.2.1;have:=HM.out;omega
           clear hit hjs hkj hps2 en1 en2 hc9 p1 p2 hk64
           go_upto_region 34 with fail
           go_quiet (fail)
           go_wp2
           go_roundw
           case rel=>exact⟨q+1,k+1,HQ.out.1,by
            have h1:=HQ.out.2.1
            have h2:=HIT.out
            by_cases hc:i≠0∧P<q
            ·rw[if_pos hc] at h1;rw[if_pos (by omega)];omega
            ·rw[if_neg hc] at h1;rw[if_neg (by omega)];omega,by go_num,by go_num,hid (by refine bx hI3.out ?_;(repeat(first | exact Below.refl _ _ | (refine ba ?_ _) | (refine Below.drew ?_) | (refine below_drewN ?_ _) | (refine Below.alloc ?_ (by first | omega | (simp;done) | (simp;omega)) _) | (refine Below.setCell ?_ (by first | omega | (simp;done) | (simp;omega)) _) | (refine bx ?_ (by assumption)) | (refine Below.trans ?_ (Below.mono (by assumption) (by first | omega | (simp;done) | (simp;omega)))))))⟩
           case measure=>have:=HQ.out.1;first | (simp[intOf];done) | (simp[intOf];omega)
        ·obtain rfl:q=m:=by omega
         have i1: ¬(q:Int)< (q:Int):=by omega
         have hkj:k=jn:=by
          have h1:=jsT_len (m:=keys.length) (P:=P) i HJ.out.1
          have h2:=HJ.out.2.1
          have h3:=HM.out
          have h4:=HJ.out.1
          by_cases h0:i=0
          ·rw[if_pos h0] at h1;rw[if_neg (by omega)] at hk;omega
          ·rw[if_neg h0] at h1;rw[if_pos (by omega)] at hk;omega
         have r2:wC.cell? ⟨w13.heap.size,3,none⟩=some (.slice ka2 lk kc2):=(HK15.out.bel hI3.out).cell 3
         have r3:wC.cell? ⟨w13.heap.size,2,none⟩=some (.slice fa2 0 fc2):=(HK15.out.bel hI3.out).cell 2
         have b1:((k:Int)==(jn:Int))=true:=by rw[hkj];simp
         have b2:((lk:Int)==(lk:Int))=true:=by simp
         have HBC:=hid (bx HB15.out hI3.out)
         clear hq hk hqm hkj
         go_upto_if 249 with fail
         go_cut [25] from 248 to 249 (fun c wd=>c= .int .i64 (lk:Int)∧Hid (wd=wC))
         case first=>
          by_cases hsz:sN=0
          ·have s1: ¬sN>0:=by omega
           have s1':decide (sN>0)=false:=decide_eq_false s1
           have HL:=hid (show lk=0 by rw[HJ.out.2.2.1,if_pos (HJ.out.2.2.2.1.2 hsz)])
           clear hsz
           go_wp2
           go_meet
           exact⟨by rw[HL.out];rfl,hid rfl⟩
          ·have s1:sN>0:=by omega
           have s1':decide (sN>0)=true:=decide_eq_true s1
           have HL:=hid (show lk=1 by rw[HJ.out.2.2.1,if_neg (fun e=>hsz (HJ.out.2.2.2.1.1 e))])
           clear hsz
           go_wp2
           go_meet
           exact⟨by rw[HL.out];rfl,hid rfl⟩
         case rest=>
          obtain⟨rfl,hwc⟩:=hcut
          rw[hwc.out]
          clear hwc
          go_wp2_with fail
          refine(KN.out _).mono ?_
          rintro e w20 ⟨rfl,hb20⟩
          have HB20:=hid (bx HBC.out hb20)
          clear hb20
          go_wp2
          go_ret
          exact⟨rfl,HB20.out⟩
end Go.Proofs.YtibiekfjbibpbaaGreat
