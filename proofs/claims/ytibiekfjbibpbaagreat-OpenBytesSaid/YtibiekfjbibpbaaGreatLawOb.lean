/- The law's opens: an opening of any bytes, to its end. -/
import Derived.Test.YtibiekfjbibpbaaGreatOpN
set_option maxRecDepth 100000
set_option maxHeartbeats 4000000
set_option linter.unusedVariables false
set_option linter.unusedSimpArgs false
namespace Go.Proofs.YtibiekfjbibpbaaGreat
open Go.RowKit
attribute [local go_sem ↓ high] repLoadAt append_shut2
attribute [local go_sem] ldM_run Oper.semAt_some appM2_run
theorem opn_start {N q o m:Nat} {v:Value} {B:MB} {bs:List Int} {w2 w3:World} (hq:bs.length=8*q) (hq0:0<q) (hM:MemIs w2 m B (freshM (wordsOf bs))) (hlo: ∀k∈footM m B (freshM (wordsOf bs)),N≤k) (hN:N≤w2.heap.size) (ho:w2.heap.size≤o) (hB:Blk w3 o 212 (opnC m v nilS (stepV o) false 0 nilS nilS nilS nilS 0 0))
  (hr:rowU w3 w2.heap.size v (adL (List.range q))) (hno:v.ownBlock≠some o) (hb:Below w2.heap.size w2 w3): ∃tg c,v= .slice (some ⟨tg,0,none⟩) q c∧OpnL N w3 o m B (memK (wordsOf bs) 0) 0 q c tg nilS:=by
 have hal:(adL (List.range q)).length=q:=by simp[adL]
 have hwl:(wordsOf bs).length=q:=by simp[wordsOf];omega
 rcases hr.2 with⟨_,h2⟩ | ⟨tg,c,cur,h2,h3,h4,h5,h6,h7,h8⟩
 ·omega
 rw[hal] at h2 h5 h8
 have hfl:=hM.foot_lt
 have hfm:footM m B (memK (wordsOf bs) 0)=footM m B (freshM (wordsOf bs)):=rfl
 refine⟨tg,c,h2,⟨hM.only (Only.of_below hb []) (by simp),by show(wordsOf bs).length=_;omega,by rw[←h2];exact hB,⟨h5,by unfold maxLen at h6;omega⟩,fun i hi=> ?_,(Array.getElem?_eq_some_iff.1 h4).1,World.ownsRow_nil _ _ _ _,?_,fun b hb=>by simp[nilS,Value.ownBlock] at hb,?_⟩⟩
 ·have h9:(cur.toList.take (q*1))[i]?=some (adrV i):=by rw[h8,List.getElem?_map];unfold adL;rw[List.getElem?_map,List.getElem?_range (by omega)];rfl
  rw[List.getElem?_take,if_pos (by omega)] at h9
  rw[(show Blk w3 tg 51 cur from h4).cell]
  simpa using h9
 ·refine⟨fun hc=> ?_,fun e=>hno (by rw[h2,e];rfl),fun hc=> ?_⟩
  ·have:=hfl o hc;omega
  ·have:=hfl tg hc;omega
 ·exact⟨by omega,by omega,hlo⟩
theorem arg_of_in {w:World} {p:Option Addr} {c:Nat} {bs:List Int} (h:BytesIn w p c bs) (hc:c≤maxLen) (h0:0<bs.length):ByArg w (.slice p bs.length c) bs:=by
 obtain⟨b,off,rfl,h1,h2⟩:=h.2.2 h0
 exact⟨h.2.1,Or.inr ⟨_,c,rfl,h.1,hc,Or.inr ⟨b,off,rfl,h1,h2⟩⟩⟩
theorem fldStats (x a b c:Int) (w:World):(Instr.field 129 (.agg #[.int .u64 x,.int .u64 a,.int .u64 b,.int .u64 c]) 0).run Tryz.prog w= .ok (.int .u64 x) w:=by kernel_rfl
theorem OReport_z (o m:Nat) (B:MB) (M:MemS) (bs:List Int) (tv wv pv rv fv kv:Value) (err h nn:Int) (ps:List (Int×ByteArray)) (R F K:List Int) (herr:err=0∨err=6∧h=0∧nn=0∧ps=[]∧R=[]∧F=[]∧K=[]) (hlen:ps.length≤1000000∧R.length≤1000000∧F.length≤1000000∧K.length≤1000000) (w:World)
  (H:OpnD w o m B M bs tv wv true err h nn ps R F K pv rv fv kv):
  Calls Tryz.prog 33 #[.pointer (some ⟨o,0,none⟩)] w fun e w'=> ∃pv rv fv kv,e= .returned (.tuple #[.agg #[pv,rv,fv,kv,.int .i64 h,.int .i64 nn],.int .i64 err])∧RepAt w' pv rv fv kv ps R F K∧Below w.heap.size w w'∧ ∀v∈[pv,rv,fv,kv],∀k,v.ownBlock=some k→w.heap.size≤k:=by
 rcases herr with rfl | ⟨rfl,rfl,rfl,rfl,rfl,rfl,rfl⟩
 ·obtain⟨pa,pc,rfl,_⟩:=H.rep.pc
  obtain⟨ra,rc,rfl,_⟩:=H.rep.ra
  obtain⟨fa,fc,rfl,_⟩:=H.rep.fa
  obtain⟨ka,kc,rfl,_⟩:=H.rep.ka
  refine(OReport_ok o m B M bs tv wv h nn ps R F K pa ra fa ka pc rc fc kc hlen w H).mono ?_
  rintro e w' ⟨a1,c1,a2,c2,a3,c3,a4,c4,rfl,h1,h2,h3,h4,h5⟩
  refine⟨_,_,_,_,rfl,RepAt.of_own h1 h2 h3 h4,h5,fun v hv k hk=> ?_⟩
  simp only[List.mem_cons,List.not_mem_nil,or_false] at hv
  rcases hv with rfl | rfl | rfl | rfl
  ·exact(own_block h1 k hk).1
  ·exact(own_blockU h2 k hk).1
  ·exact(own_blockU h3 k hk).1
  ·exact(own_blockU h4 k hk).1
 ·refine(OReport_err o m B M.view.length M.st H.mem.pos H.mem.big tv wv true pv rv fv kv 0 0 6 6 rfl (by omega) w H.mem.blk H.blk).mono ?_
  rintro e w' ⟨rfl,h5⟩
  obtain⟨pa,pc,ra,rc,fa,fc,ka,kc,he,h6⟩:=ans_none w'
  refine⟨.slice none 0 0,.slice none 0 0,.slice none 0 0,.slice none 0 0,rfl,?_,h5,fun v hv k hk=> ?_⟩
  ·exact⟨Or.inl ⟨rfl,rfl,rfl⟩,⟨none,0,rfl,Nat.le_refl _⟩,⟨none,0,rfl,Or.inl rfl⟩,⟨none,0,rfl,Or.inl rfl⟩,⟨none,0,rfl,Or.inl rfl⟩⟩
  ·simp only[List.mem_cons,List.not_mem_nil,or_false] at hv
   rcases hv with rfl | rfl | rfl | rfl<;>cases hk
theorem Opens_no (v:Value) (bs:List Int) (w:World) (h:ByArg w v bs) (hl:bs.length≤100000) (hm:mayB bs.length=false):
  Calls Tryz.prog 37 #[v] w fun e w'=>e= .returned (.bool true)∧Below w.heap.size w w':=by
 obtain⟨p,cap,rfl,hby,hcap⟩:=h.form
 obtain⟨p',cap',W1,hrun,hby1,hnew,hb1⟩:=byCopy h (by omega)
 have MN:=hid (Of_no p' bs.length cap' hm (by omega) W1)
 obtain⟨n,hn⟩: ∃n,n=bs.length:=⟨_,rfl⟩
 rw[←hn] at hrun MN ⊢
 have HB1:=hid hb1
 clear h hby hby1 hnew hb1 hl hm hn
 go_enter Tryz.func37,Tryz.ntmps37
 go_wp2_with fail
 refine MN.out.mono ?_
 rintro e w2 hp
 obtain⟨rfl,rfl⟩:=hp
 go_wp2_with fail
 go_ret
 exact⟨rfl,HB1.out⟩
def ObF (q n m o:Nat) (err:Int) (pv:Value) (S0:ByteArray) (g1 g2:Array Value):Nat→Value→World→Prop
 | 0,v,_=>v= .int .i64 (q:Int)
 | 1,v,_=>v= .int .i64 (q:Int)
 | 2,v,_=>v= .bool true
 | 3,v,_=>v= .bool true
 | 4,v,_=>v= .pointer (some ⟨o,0,none⟩)
 | 5,v,_=>v= .int .i64 0
 | 6,v,_=>v= .bool true
 | 7,v,_=>v= .bool true
 | 8,v,_=>v= .bool true
 | 9,v,_=>v=ptrV m
 | 10,v,_=>v= .agg #[.int .u64 (q:Int),.int .u64 0,.int .u64 0,.int .u64 0]
 | 11,v,_=>v= .int .u64 (q:Int)
 | 12,v,_=>v= .int .i64 (q:Int)
 | 13,v,_=>v= .int .u64 (q:Int)
 | 14,v,_=>v= .bool true
 | 15,v,_=>v= .bool true
 | 16,v,_=>v= .bool true
 | 17,v,_=>v= .int .i64 err
 | 18,v,_=>v= .int .i64 err
 | 19,v,_=>v= .bool true
 | 20,v,_=>v= .bool true
 | 21,v,_=>v= .bool true
 | 22,v,_=>v= .int .i64 err
 | 23,v,_=>v= .int .i64 err
 | 24,v,_=>v= .bool true
 | 25,v,_=>v= .bool true
 | 26,v,_=>v= .bool true
 | 27,v,_=>v= .agg g1
 | 28,v,_=>v= .agg g2
 | 29,v,_=>v= .bool true
 | 30,v,_=>v= .bool true
 | 31,v,_=>v= .bool true
 | 32,v,_=>v=ptrV m
 | 33,v,w=> ∃a c,v= .slice a n c∧ ∀X,Below w.heap.size w X→(convert 36 9 (.slice a n c)).run Tryz.prog X= .ok (.string S0) X
 | 34,v,_=>v= .string S0
 | 35,v,_=>v=pv
 | 36,v,_=>v= .string S0
 | 37,v,_=>v= .bool true
 | 38,v,_=>v= .bool true
 | 39,v,_=>v= .bool true
 | 40,v,_=>v=ptrV m
 | 41,v,_=> ∃a c,v= .slice a 0 c
 | 42,v,_=>v= .int .i64 0
 | 43,v,_=>v= .bool true
 | 44,v,_=>v= .bool true
 | _,_,_=>True
theorem ObF.bel {q n m o:Nat} {err:Int} {pv:Value} {S0:ByteArray} {g1 g2:Array Value} {w w':World} (hb:Below w.heap.size w w') (j:Nat) (v:Value) (h:ObF q n m o err pv S0 g1 g2 j v w):ObF q n m o err pv S0 g1 g2 j v w':=by
 by_cases hj:j=33
 ·subst hj
  obtain⟨a,c,h1,h2⟩:=h
  exact⟨a,c,h1,fun X hX=>h2 X (bx hb hX)⟩
 ·unfold ObF at h ⊢
  split at h<;>first | exact h | exact absurd rfl hj
theorem Opens_yes (v:Value) (bs:List Int) (w:World) (h:ByArg w v bs) (hl:bs.length≤100000) (hm:mayB bs.length=true):
  Calls Tryz.prog 37 #[v] w fun e w'=>e= .returned (.bool true)∧Below w.heap.size w w':=by
 obtain⟨p,cap,rfl,hby,hcap⟩:=h.form
 obtain⟨p',cap',W1,hrun,hby1,hnew,hb1⟩:=byCopy h (by omega)
 obtain⟨q1,q2,e1,hbi1,hc1⟩:=hby1.form
 injection e1 with e1 _ e2
 subst e1 e2
 have MZ:=hid (MOf_z p' cap' bs hm hc1 W1 hbi1)
 obtain⟨q,hq⟩: ∃q,bs.length=8*q:=⟨bs.length/8,by unfold mayB at hm;simp at hm;omega⟩
 have hq0:0<q:=by unfold mayB at hm;simp at hm;omega
 have hq1:q≤12500:=by omega
 obtain⟨n,hn⟩: ∃n,n=bs.length:=⟨_,rfl⟩
 rw[←hn] at hrun MZ ⊢
 obtain⟨hh,nn,err,ps,R,F,K,herr,hsm,hlen,hlk,hdl⟩:=looks_same h.1
 have HQ:=hid (⟨hq,hq0,hq1,hn⟩:_∧_∧_∧_)
 have HBY:=hid h
 have HBI:=hid hby
 have HB1:=hid hb1
 have HS:=hid (⟨herr,hsm,hlen⟩:_∧_∧_)
 have HLK:=hid hlk
 have HDL:=hid hdl
 clear h hby hcap hby1 hnew hbi1 hc1 hb1 hl hm herr hsm hlen hlk hdl hq hq0 hq1 hn
 go_enter Tryz.func37,Tryz.ntmps37
 go_wp2_with fail
 refine MZ.out.mono ?_
 rintro e w2 ⟨m,B,rfl,hM,hb2,hlo⟩
 have ON:=hid (ONew_in m B q ⟨0,0,0,0⟩ HQ.out.2.1 (by have:=HQ.out;omega) w2 (by have h1:=hM.blk;have h2:(freshM (wordsOf bs)).view.length=q:=(by have:=HQ.out;simp[freshM,wordsOf];omega);rw[h2] at h1;exact h1))
 have HM:=hid (⟨hM,hb2,hlo⟩:_∧_∧_)
 clear hM hb2 hlo MZ hrun
 go_wp2_with fail
 refine(callsIn_wide.1 ON.out).mono ?_
 rintro e w3 ⟨o,v,rfl,ho,hol,hB3,hr3,hno,hb3⟩
 obtain⟨tg,c,rfl,hL⟩:=opn_start (N:=W1.heap.size) HQ.out.1 HQ.out.2.1 HM.out.1 HM.out.2.2 HM.out.2.1.size ho hB3 hr3 hno hb3
 have HL:=hid (⟨hL,bx HM.out.2.1 hb3⟩:_∧_)
 clear ho hol hB3 hr3 hno hb3 hL ON
 go_wp2_with fail
 refine(RWords24_z p q n cap (by have:=HQ.out;omega) (by have:=HQ.out;omega) _).mono ?_
 rintro e w4 ⟨rfl,rfl⟩
 have OR:=hid (OReport_err o m B _ _ HL.out.1.mem.pos HL.out.1.mem.big _ _ false _ _ _ _ 0 0 0 7 rfl (by omega) w4 HL.out.1.mem.blk HL.out.1.blk)
 go_wp2_with fail
 refine OR.out.mono ?_
 rintro e w5 ⟨rfl,hb5⟩
 have HL5:=hid (⟨HL.out.1.bel hb5,HL.out.2.trans (hb5.mono HL.out.2.size)⟩:_∧_)
 clear hb5 OR
 unfold rep0
 go_wp2_with fail
 refine(OLeft_z o m B _ _ HL5.out.1.mem.pos HL5.out.1.mem.big _ _ _ _ _ _ _ _ _ _ _ _ _ (HL5.out.1.mem.blk.alloc _) (HL5.out.1.blk.alloc _)).mono ?_
 rintro e w6 ⟨rfl,hw6⟩
 have hb6:Below w5.heap.size w5 w6:=by rw[hw6];exact ba (Below.refl _ _) _
 have qe:((q:Int) !=(q:Int))=false:=by simp
 have OW:Hid (Calls Tryz.prog 31 #[ptrV m,.pointer (some ⟨o,0,none⟩),.int .i64 ((q:Int)+1)] w6 fun e w'=>e= .returned (.int .i64 (q:Int))∧Below W1.heap.size w6 w'∧
   ∃tv wv' pv rv fv kv,OpnD w' o m B (memK (wordsOf bs) q) bs tv wv' true err hh nn ps R F K pv rv fv kv):=by
  have h1:=OWhole_z W1.heap.size o m B q c tg (q+1) bs HBI.out.2.1 HQ.out.1 HQ.out.2.1 (by have:=HQ.out;omega) (by omega) (by have:=HQ.out;omega) err hh nn ps R F K HLK.out w6 (HL5.out.1.bel hb6)
  rw[show((q+1:Nat):Int)=(q:Int)+1 by omega] at h1
  exact hid h1
 have HB6:=hid (HL5.out.2.trans (hb6.mono HL5.out.2.size))
 have iq:(q:Int)≤12500:=by have:=HQ.out;omega
 have iq0:(0:Int)< (q:Int):=by have:=HQ.out;omega
 clear hw6 hb6 HL HL5
 go_wp2_with fail
 refine OW.out.mono ?_
 rintro e w7 ⟨rfl,hb7,tv,wv,pv,rv,fv,kv,hD⟩
 have HD:=hid hD
 have HB7:=hid (HB6.out.trans hb7)
 have OR:=hid (OReport_z o m B _ bs tv wv pv rv fv kv err hh nn ps R F K HS.out.1 HS.out.2.2 w7 hD)
 clear OW HB6 hb7 hD
 go_wp2_with fail
 refine OR.out.mono ?_
 rintro e w8 ⟨rp,rr,rf,rk,rfl,hrep,hb8,hnew8⟩
 obtain⟨pa,pc,rfl,_⟩:=hrep.pc
 obtain⟨ra,rc,rfl,_⟩:=hrep.ra
 obtain⟨fa,fc,rfl,_⟩:=hrep.fa
 obtain⟨ka,kc,rfl,_⟩:=hrep.ka
 obtain⟨pn,hpn⟩: ∃pn,pn=ps.length:=⟨_,rfl⟩
 obtain⟨rn,hrn⟩: ∃rn,rn=R.length:=⟨_,rfl⟩
 obtain⟨fn,hfn⟩: ∃fn,fn=F.length:=⟨_,rfl⟩
 obtain⟨kn,hkn⟩: ∃kn,kn=K.length:=⟨_,rfl⟩
 rw[←hpn,←hrn,←hfn,←hkn] at hrep ⊢
 have HNM:=hid (⟨hpn,hrn,hfn,hkn⟩:_∧_∧_∧_)
 obtain⟨T1,hT1⟩: ∃T1,T1=w8.heap.size:=⟨_,rfl⟩
 obtain⟨W9,hW9⟩: ∃W9,W9=w8.alloc (.cells #[.slice pa pn pc,.slice ra rn rc,.slice fa fn fc,.slice ka kn kc,.int .i64 hh,.int .i64 nn] 32):=⟨_,rfl⟩
 have hb9:Below w8.heap.size w8 W9:=by rw[hW9];exact ba (Below.refl _ _) _
 have hK9:Blk W9 T1 32 #[.slice pa pn pc,.slice ra rn rc,.slice fa fn fc,.slice ka kn kc,.int .i64 hh,.int .i64 nn]:=by rw[hW9,hT1];exact Blk.new _ _ _
 have hN7:W1.heap.size≤w7.heap.size:=HB7.out.size
 have HB9:=hid (HB7.out.trans ((bx hb8 hb9).mono hN7))
 have HX:=hid (⟨hrep.bel hb9,hK9,HD.out.bel (bx hb8 hb9)⟩:_∧_∧_)
 have HT1:=hid hT1
 have HW9:=hid hW9
 have RO:=hid (ROpen24_z hh nn err ps R F K p cap bs n HQ.out.2.2.2 (by have:=HQ.out;omega) HDL.out W9 (bytesBel HBI.out (bx HB1.out HB9.out)))
 clear hpn hrn hfn hkn hT1 hW9 hb9 hK9 hrep hb8 hnew8 HB7 HD OR
 go_wp2_with fail
 rw[show _=W9 from HW9.out.symm]
 rw[←HT1.out]
 refine RO.out.mono ?_
 rintro e w10 ⟨⟨pa2,pc2,ra2,rc2,fa2,fc2,ka2,kc2,rfl,hrep2⟩,hb10⟩
 rw[←HNM.out.1,←HNM.out.2.1,←HNM.out.2.2.1,←HNM.out.2.2.2] at hrep2 ⊢
 obtain⟨T2,hT2⟩: ∃T2,T2=w10.heap.size:=⟨_,rfl⟩
 obtain⟨W11,hW11⟩: ∃W11,W11=w10.alloc (.cells #[.slice pa2 pn pc2,.slice ra2 rn rc2,.slice fa2 fn fc2,.slice ka2 kn kc2,.int .i64 hh,.int .i64 nn] 32):=⟨_,rfl⟩
 have hb11:Below w10.heap.size w10 W11:=by rw[hW11];exact ba (Below.refl _ _) _
 have hK11:Blk W11 T2 32 #[.slice pa2 pn pc2,.slice ra2 rn rc2,.slice fa2 fn fc2,.slice ka2 kn kc2,.int .i64 hh,.int .i64 nn]:=by rw[hW11,hT2];exact Blk.new _ _ _
 have hbb:=bx hb10 hb11
 have HY:=hid (⟨HX.out.1.bel hbb,HX.out.2.1.bel hbb,HX.out.2.2.bel hbb,hrep2.bel hb11,hK11,HB9.out.trans (hbb.mono HB9.out.size)⟩:_∧_∧_∧_∧_∧_)
 have HT2:=hid hT2
 have HW11:=hid hW11
 have SD:=hid (OStep_done o m B _ _ HY.out.2.2.1.mem.pos HY.out.2.2.1.mem.big _ _ _ _ _ _ _ _ _ W11 HY.out.2.2.1.mem.blk HY.out.2.2.1.blk)
 clear hT2 hW11 hb11 hK11 hbb hrep2 hb10 HX HB9 RO HT1 HW9
 go_wp2_with fail
 rw[show _=W11 from HW11.out.symm]
 rw[←HT2.out]
 refine SD.out.mono ?_
 rintro e w12 ⟨rfl,hb12⟩
 have HZ:=hid (⟨HY.out.1.bel hb12,HY.out.2.1.bel hb12,HY.out.2.2.1.bel hb12,HY.out.2.2.2.1.bel hb12,HY.out.2.2.2.2.1.bel hb12,HY.out.2.2.2.2.2.trans (hb12.mono HY.out.2.2.2.2.2.size)⟩:_∧_∧_∧_∧_∧_)
 clear hb12 HY SD HT2 HW11
 go_upto_region 13 with fail
 obtain⟨ta,tc,rfl⟩:=HZ.out.2.2.1.tv
 obtain⟨S0,hS0⟩: ∃S0,S0=strOfNums bs:=⟨_,rfl⟩
 have bs1:(S0.toList==S0.toList)=true:=by simp
 have be:(err==err)=true:=by simp
 have u64q:IntKind.u64.wrap (q:Int)=(q:Int):=by rw[IntKind.wrap_u64];omega
 have qq:((q:Int)==(q:Int))=true:=by simp
 have KS:Hid (∀X,Below w12.heap.size w12 X→(ldR Tryz.prog 32 (.pointer (some ⟨T1,0,none⟩)) X= .ok (.agg #[.slice pa pn pc,.slice ra rn rc,.slice fa fn fc,.slice ka kn kc,.int .i64 hh,.int .i64 nn]) X∧ldR Tryz.prog 32 (.pointer (some ⟨T2,0,none⟩)) X= .ok (.agg #[.slice pa2 pn pc2,.slice ra2 rn rc2,.slice fa2 fn fc2,.slice ka2 kn kc2,.int .i64 hh,.int .i64 nn]) X∧(convert 36 9 (.slice p n cap)).run Tryz.prog X= .ok (.string S0) X)∧Below w12.heap.size w12 X):=by
  refine hid fun X hb=>⟨⟨(HZ.out.2.1.bel hb).ld (P:=Tryz.prog) Tryz.underlying32 rfl (by kernel_rfl),(HZ.out.2.2.2.2.1.bel hb).ld (P:=Tryz.prog) Tryz.underlying32 rfl (by kernel_rfl),?_⟩,hb⟩
  have h1:=by_conv (HBY.out.bel (bx HB1.out (HZ.out.2.2.2.2.2.trans (hb.mono HZ.out.2.2.2.2.2.size))))
  rw[HQ.out.2.2.2,hS0]
  exact h1
 have LF:Hid (∀X,Below w12.heap.size w12 X→Calls Tryz.prog 119 #[.pointer (some ⟨o,0,none⟩)] X fun e w'=>e= .returned (.int .i64 0)∧w'=X):=
  hid fun X hb=>OLeft_z o m B _ _ HZ.out.2.2.1.mem.pos HZ.out.2.2.1.mem.big ta 0 tc _ _ _ _ _ _ _ _ _ X (HZ.out.2.2.1.mem.blk.bel hb) (HZ.out.2.2.1.blk.bel hb)
 have SF:Hid (∀X,Below w12.heap.size w12 X→Calls Tryz.prog 61 #[ptrV m] X fun e w'=>e= .returned (.agg #[.int .u64 (q:Int),.int .u64 0,.int .u64 0,.int .u64 0])∧Below X.heap.size X w'):=
  hid fun X hb=>stats_k m B _ q X (HZ.out.2.2.1.mem.only (Only.of_below hb []) (by simp))
 have EF:Hid (∀X,Below w12.heap.size w12 X→Calls Tryz.prog 17 #[.agg #[.slice pa pn pc,.slice ra rn rc,.slice fa fn fc,.slice ka kn kc,.int .i64 hh,.int .i64 nn],.agg #[.slice pa2 pn pc2,.slice ra2 rn rc2,.slice fa2 fn fc2,.slice ka2 kn kc2,.int .i64 hh,.int .i64 nn]] X fun e w'=>e= .returned (.bool true)∧Below X.heap.size X w'):=
  hid fun X hb=>(DSame_yes hh nn pn pn pa pa2 pc pc2 (.slice ra rn rc) (.slice fa fn fc) (.slice ka kn kc) (.slice ra2 rn rc2) (.slice fa2 fn fc2) (.slice ka2 kn kc2) ps R F K X (HZ.out.1.bel hb) (HZ.out.2.2.2.1.bel hb) HS.out.2.2 HS.out.2.1)
 have IF:Hid (∀X,Below w12.heap.size w12 X→Calls Tryz.prog 120 #[ptrV m] X fun e w'=> ∃p c,e= .returned (.slice p n c)∧(∀Y,Below w'.heap.size w' Y→(convert 36 9 (.slice p n c)).run Tryz.prog Y= .ok (.string S0) Y)∧Below X.heap.size X w'):=by
  refine hid fun X hb=>(Image_z m B _ X (HZ.out.2.2.1.mem.only (Only.of_below hb []) (by simp)) (words_rng HBI.out.2.1)).mono ?_
  rintro e w' ⟨ip,ic,rfl,h1,h2,h3⟩
  have hbw:bytesW (memK (wordsOf bs) q).image=bs:=bytes_words q HBI.out.2.1 HQ.out.1
  rw[hbw] at h1 ⊢
  have h4:=arg_of_in h1 h2 (by have:=HQ.out;omega)
  rw[HQ.out.2.2.2,hS0]
  exact⟨ip,ic,rfl,fun Y hY=>by_conv (h4.bel hY),h3⟩
 have NF:Hid (∀X,Below w12.heap.size w12 X→Calls Tryz.prog 121 #[ptrV m] X fun e w'=>(∃a c,e= .returned (.slice a 0 c))∧Below X.heap.size X w'):=
  hid fun X hb=>Lines_no m B _ X (HZ.out.2.2.1.mem.only (Only.of_below hb []) (by simp)) rfl
 have B00:Below w12.heap.size w12 w12:=Below.refl _ _
 have B0:Below w12.heap.size w12 w12.drew:=(Below.refl _ _).drew
 have HZB:=hid (HB1.out.trans (HZ.out.2.2.2.2.2.mono HB1.out.size))
 clear HZ HM hS0
 refine wp_region_inv 45 (fun listed a X=>Below w12.heap.size w12 X∧ ∃x:Nat→Value,FactsE (ObF q n m o err (.slice p n cap) S0 #[.slice pa pn pc,.slice ra rn rc,.slice fa fn fc,.slice ka kn kc,.int .i64 hh,.int .i64 nn] #[.slice pa2 pn pc2,.slice ra2 rn rc2,.slice fa2 fn fc2,.slice ka2 kn kc2,.int .i64 hh,.int .i64 nn]) listed x X∧a={ tmps:= #[.slice p n cap,undef,.bool false,ptrV m,.int .i64 0,.pointer (some ⟨o,0,none⟩),.int .i64 (q:Int),.pointer (some ⟨w5.heap.size,0,none⟩),.int .i64 7,.int .i64 (q:Int),.pointer (some ⟨T1,0,none⟩),.int .i64 err,.pointer (some ⟨T2,0,none⟩),.int .i64 err,.bool true,.int .i64 err,.tuple #[ptrV m,.int .i64 0],.slice p n cap,.slice p' n cap',.tuple #[ptrV m,.int .i64 0],ptrV m,.int .i64 0,.int .i64 0,.bool false,.bool false,ptrV m,.bool false,.bool false,undef,undef,undef,undef,undef,undef,ptrV m,.pointer (some ⟨o,0,none⟩),.slice p n cap,.int .i64 (q:Int),.tuple #[.agg #[.slice none 0 0,.slice none 0 0,.slice none 0 0,.slice none 0 0,.int .i64 0,.int .i64 0],.int .i64 7],.pointer (some ⟨o,0,none⟩),.tuple #[.agg #[.slice none 0 0,.slice none 0 0,.slice none 0 0,.slice none 0 0,.int .i64 0,.int .i64 0],.int .i64 7],.agg #[.slice none 0 0,.slice none 0 0,.slice none 0 0,.slice none 0 0,.int .i64 0,.int .i64 0],.int .i64 7,.pointer (some ⟨o,0,none⟩),.int .i64 (q:Int),.int .i64 (q:Int),.bool false,.bool false,.int .i64 7,.bool false,.bool false,ptrV m,.pointer (some ⟨o,0,none⟩),.int .i64 (q:Int),.int .i64 ((q:Int)+1),.int .i64 (q:Int),.tuple #[.agg #[.slice pa pn pc,.slice ra rn rc,.slice fa fn fc,.slice ka kn kc,.int .i64 hh,.int .i64 nn],.int .i64 err],.pointer (some ⟨o,0,none⟩),.tuple #[.agg #[.slice pa pn pc,.slice ra rn rc,.slice fa fn fc,.slice ka kn kc,.int .i64 hh,.int .i64 nn],.int .i64 err],.agg #[.slice pa pn pc,.slice ra rn rc,.slice fa fn fc,.slice ka kn kc,.int .i64 hh,.int .i64 nn],.int .i64 err,.tuple #[.agg #[.slice pa2 pn pc2,.slice ra2 rn rc2,.slice fa2 fn fc2,.slice ka2 kn kc2,.int .i64 hh,.int .i64 nn],.int .i64 err],.slice p n cap,.tuple #[.agg #[.slice pa2 pn pc2,.slice ra2 rn rc2,.slice fa2 fn fc2,.slice ka2 kn kc2,.int .i64 hh,.int .i64 nn],.int .i64 err],.agg #[.slice pa2 pn pc2,.slice ra2 rn rc2,.slice fa2 fn fc2,.slice ka2 kn kc2,.int .i64 hh,.int .i64 nn],.int .i64 err,.tuple #[.bool true,.int .i64 err],.pointer (some ⟨o,0,none⟩),.tuple #[.bool true,.int .i64 err],.bool true,.int .i64 err,x 0,x 1,x 2,x 3,x 4,x 5,x 6,x 7,x 8,x 9,x 10,x 11,x 12,x 13,x 14,x 15,x 16,x 17,x 18,x 19,x 20,x 21,x 22,x 23,x 24,x 25,x 26,x 27,x 28,x 29,x 30,x 31,x 32,x 33,x 34,x 35,x 36,x 37,x 38,x 39,x 40,x 41,x 42,x 43,x 44],defers:=[] }) rfl (by kernel_rfl) ?_ ?_ ?_
 ·exact⟨B0,fun _=>undef,fun i hi=>(by rw[getD_replicate_false] at hi;cases hi),rfl⟩
 ·rintro listed a X i op hi ho hun hdep ⟨hbX,x,hx,rfl⟩
  rcases(by omega:i=0∨i=1∨i=2∨i=3∨i=4∨i=5∨i=6∨i=7∨i=8∨i=9∨i=10∨i=11∨i=12∨i=13∨i=14∨i=15∨i=16∨i=17∨i=18∨i=19∨i=20∨i=21∨i=22∨i=23∨i=24∨i=25∨i=26∨i=27∨i=28∨i=29∨i=30∨i=31∨i=32∨i=33∨i=34∨i=35∨i=36∨i=37∨i=38∨i=39∨i=40∨i=41∨i=42∨i=43∨i=44) with rfl | rfl | rfl | rfl | rfl | rfl | rfl | rfl | rfl | rfl | rfl | rfl | rfl | rfl | rfl | rfl | rfl | rfl | rfl | rfl | rfl | rfl | rfl | rfl | rfl | rfl | rfl | rfl | rfl | rfl | rfl | rfl | rfl | rfl | rfl | rfl | rfl | rfl | rfl | rfl | rfl | rfl | rfl | rfl | rfl
  ·cases ho
   refine wpOp_at rfl rfl (wp_value (v:= .int .i64 (q:Int)) ?_ ⟨hbX,upd x 0 _,hx.step (fun j v h=>h) rfl,rfl⟩)
   go_simp
  ·cases ho
   refine wpOp_at rfl rfl (wp_value (v:= .int .i64 (q:Int)) ?_ ⟨hbX,upd x 1 _,hx.step (fun j v h=>h) rfl,rfl⟩)
   go_simp
  ·cases ho
   have e71:x 0= .int .i64 (q:Int):=hx 0 (hdep { on:=0,ground:= .data } (by simp) rfl)
   have e72:x 1= .int .i64 (q:Int):=hx 1 (hdep { on:=1,ground:= .data } (by simp) rfl)
   refine wpOp_at rfl rfl (wp_value (v:= .bool true) ?_ ⟨hbX,upd x 2 _,hx.step (fun j v h=>h) rfl,rfl⟩)
   rw[e71,e72]
   go_simp
  ·cases ho
   have e73:x 2= .bool true:=hx 2 (hdep { on:=2,ground:= .data } (by simp) rfl)
   refine wpOp_at rfl rfl (wp_value (v:= .bool true) ?_ ⟨hbX,upd x 3 _,hx.step (fun j v h=>h) rfl,rfl⟩)
   rw[e73]
   go_simp
  ·cases ho
   have eg:x 3= .bool true:=hx 3 (hdep { on:=3,ground:= .guard } (by simp) rfl)
   refine wpOp_ok rfl (by rw[eg];rfl) (wp_value (v:= .pointer (some ⟨o,0,none⟩)) ?_ ⟨hbX,upd x 4 _,hx.step (fun j v h=>h) rfl,rfl⟩)
   go_simp
  ·cases ho
   have eg:x 3= .bool true:=hx 3 (hdep { on:=3,ground:= .guard } (by simp) rfl)
   have e75:x 4= .pointer (some ⟨o,0,none⟩):=hx 4 (hdep { on:=4,ground:= .data } (by simp) rfl)
   refine wpOp_ok rfl (by rw[eg];rfl) (wp_enter (f:=119) (args:= #[x 4]) (by kernel_rfl) ?_)
   have C:=LF.out X hbX
   rw[←e75] at C
   refine C.mono ?_
   rintro e X' ⟨rfl,rfl⟩
   exact⟨_,rfl,hbX,upd x 5 _,hx.step (fun j v h=>h) rfl,rfl⟩
  ·cases ho
   have eg:x 3= .bool true:=hx 3 (hdep { on:=3,ground:= .guard } (by simp) rfl)
   have e76:x 5= .int .i64 0:=hx 5 (hdep { on:=5,ground:= .data } (by simp) rfl)
   refine wpOp_ok rfl (by rw[eg];rfl) (wp_value (v:= .bool true) ?_ ⟨hbX,upd x 6 _,hx.step (fun j v h=>h) rfl,rfl⟩)
   rw[e76]
   go_simp
  ·cases ho
   have e74:x 3= .bool true:=hx 3 (hdep { on:=3,ground:= .data } (by simp) rfl)
   have e77:x 6= .bool true:=hx 6 (hdep { on:=6,ground:= .data } (by simp) rfl)
   refine wpOp_at rfl rfl (wp_value (v:= .bool true) ?_ ⟨hbX,upd x 7 _,hx.step (fun j v h=>h) rfl,rfl⟩)
   rw[e74,e77]
   go_simp
  ·cases ho
   have e78:x 7= .bool true:=hx 7 (hdep { on:=7,ground:= .data } (by simp) rfl)
   refine wpOp_at rfl rfl (wp_value (v:= .bool true) ?_ ⟨hbX,upd x 8 _,hx.step (fun j v h=>h) rfl,rfl⟩)
   rw[e78]
   go_simp
  ·cases ho
   have eg:x 8= .bool true:=hx 8 (hdep { on:=8,ground:= .guard } (by simp) rfl)
   refine wpOp_ok rfl (by rw[eg];rfl) (wp_value (v:=ptrV m) ?_ ⟨hbX,upd x 9 _,hx.step (fun j v h=>h) rfl,rfl⟩)
   go_simp
  ·cases ho
   have eg:x 8= .bool true:=hx 8 (hdep { on:=8,ground:= .guard } (by simp) rfl)
   have e80:x 9=ptrV m:=hx 9 (hdep { on:=9,ground:= .data } (by simp) rfl)
   refine wpOp_ok rfl (by rw[eg];rfl) (wp_enter (f:=61) (args:= #[x 9]) (by kernel_rfl) ?_)
   have C:=SF.out X hbX
   rw[←e80] at C
   refine C.mono ?_
   rintro e X' ⟨rfl,hb1⟩
   exact⟨_,rfl,bx hbX hb1,upd x 10 _,hx.step (ObF.bel hb1) rfl,rfl⟩
  ·cases ho
   have eg:x 8= .bool true:=hx 8 (hdep { on:=8,ground:= .guard } (by simp) rfl)
   have e81:x 10= .agg #[.int .u64 (q:Int),.int .u64 0,.int .u64 0,.int .u64 0]:=hx 10 (hdep { on:=10,ground:= .data } (by simp) rfl)
   have hl:=fldStats (q:Int) 0 0 0 X
   refine wpOp_ok rfl (by rw[eg];rfl) (wp_value (v:= .int .u64 (q:Int)) ?_ ⟨hbX,upd x 11 _,hx.step (fun j v h=>h) rfl,rfl⟩)
   rw[e81]
   go_simp
  ·cases ho
   have eg:x 8= .bool true:=hx 8 (hdep { on:=8,ground:= .guard } (by simp) rfl)
   refine wpOp_ok rfl (by rw[eg];rfl) (wp_value (v:= .int .i64 (q:Int)) ?_ ⟨hbX,upd x 12 _,hx.step (fun j v h=>h) rfl,rfl⟩)
   go_simp
  ·cases ho
   have eg:x 8= .bool true:=hx 8 (hdep { on:=8,ground:= .guard } (by simp) rfl)
   have e83:x 12= .int .i64 (q:Int):=hx 12 (hdep { on:=12,ground:= .data } (by simp) rfl)
   refine wpOp_ok rfl (by rw[eg];rfl) (wp_value (v:= .int .u64 (q:Int)) ?_ ⟨hbX,upd x 13 _,hx.step (fun j v h=>h) rfl,rfl⟩)
   rw[e83]
   go_simp
  ·cases ho
   have eg:x 8= .bool true:=hx 8 (hdep { on:=8,ground:= .guard } (by simp) rfl)
   have e82:x 11= .int .u64 (q:Int):=hx 11 (hdep { on:=11,ground:= .data } (by simp) rfl)
   have e84:x 13= .int .u64 (q:Int):=hx 13 (hdep { on:=13,ground:= .data } (by simp) rfl)
   refine wpOp_ok rfl (by rw[eg];rfl) (wp_value (v:= .bool true) ?_ ⟨hbX,upd x 14 _,hx.step (fun j v h=>h) rfl,rfl⟩)
   rw[e82,e84]
   go_simp
  ·cases ho
   have e79:x 8= .bool true:=hx 8 (hdep { on:=8,ground:= .data } (by simp) rfl)
   have e85:x 14= .bool true:=hx 14 (hdep { on:=14,ground:= .data } (by simp) rfl)
   refine wpOp_at rfl rfl (wp_value (v:= .bool true) ?_ ⟨hbX,upd x 15 _,hx.step (fun j v h=>h) rfl,rfl⟩)
   rw[e79,e85]
   go_simp
  ·cases ho
   have e86:x 15= .bool true:=hx 15 (hdep { on:=15,ground:= .data } (by simp) rfl)
   refine wpOp_at rfl rfl (wp_value (v:= .bool true) ?_ ⟨hbX,upd x 16 _,hx.step (fun j v h=>h) rfl,rfl⟩)
   rw[e86]
   go_simp
  ·cases ho
   have eg:x 16= .bool true:=hx 16 (hdep { on:=16,ground:= .guard } (by simp) rfl)
   refine wpOp_ok rfl (by rw[eg];rfl) (wp_value (v:= .int .i64 err) ?_ ⟨hbX,upd x 17 _,hx.step (fun j v h=>h) rfl,rfl⟩)
   go_simp
  ·cases ho
   have eg:x 16= .bool true:=hx 16 (hdep { on:=16,ground:= .guard } (by simp) rfl)
   refine wpOp_ok rfl (by rw[eg];rfl) (wp_value (v:= .int .i64 err) ?_ ⟨hbX,upd x 18 _,hx.step (fun j v h=>h) rfl,rfl⟩)
   go_simp
  ·cases ho
   have eg:x 16= .bool true:=hx 16 (hdep { on:=16,ground:= .guard } (by simp) rfl)
   have e88:x 17= .int .i64 err:=hx 17 (hdep { on:=17,ground:= .data } (by simp) rfl)
   have e89:x 18= .int .i64 err:=hx 18 (hdep { on:=18,ground:= .data } (by simp) rfl)
   refine wpOp_ok rfl (by rw[eg];rfl) (wp_value (v:= .bool true) ?_ ⟨hbX,upd x 19 _,hx.step (fun j v h=>h) rfl,rfl⟩)
   rw[e88,e89]
   go_simp
  ·cases ho
   have e87:x 16= .bool true:=hx 16 (hdep { on:=16,ground:= .data } (by simp) rfl)
   have e90:x 19= .bool true:=hx 19 (hdep { on:=19,ground:= .data } (by simp) rfl)
   refine wpOp_at rfl rfl (wp_value (v:= .bool true) ?_ ⟨hbX,upd x 20 _,hx.step (fun j v h=>h) rfl,rfl⟩)
   rw[e87,e90]
   go_simp
  ·cases ho
   have e91:x 20= .bool true:=hx 20 (hdep { on:=20,ground:= .data } (by simp) rfl)
   refine wpOp_at rfl rfl (wp_value (v:= .bool true) ?_ ⟨hbX,upd x 21 _,hx.step (fun j v h=>h) rfl,rfl⟩)
   rw[e91]
   go_simp
  ·cases ho
   have eg:x 21= .bool true:=hx 21 (hdep { on:=21,ground:= .guard } (by simp) rfl)
   refine wpOp_ok rfl (by rw[eg];rfl) (wp_value (v:= .int .i64 err) ?_ ⟨hbX,upd x 22 _,hx.step (fun j v h=>h) rfl,rfl⟩)
   go_simp
  ·cases ho
   have eg:x 21= .bool true:=hx 21 (hdep { on:=21,ground:= .guard } (by simp) rfl)
   refine wpOp_ok rfl (by rw[eg];rfl) (wp_value (v:= .int .i64 err) ?_ ⟨hbX,upd x 23 _,hx.step (fun j v h=>h) rfl,rfl⟩)
   go_simp
  ·cases ho
   have eg:x 21= .bool true:=hx 21 (hdep { on:=21,ground:= .guard } (by simp) rfl)
   have e93:x 22= .int .i64 err:=hx 22 (hdep { on:=22,ground:= .data } (by simp) rfl)
   have e94:x 23= .int .i64 err:=hx 23 (hdep { on:=23,ground:= .data } (by simp) rfl)
   refine wpOp_ok rfl (by rw[eg];rfl) (wp_value (v:= .bool true) ?_ ⟨hbX,upd x 24 _,hx.step (fun j v h=>h) rfl,rfl⟩)
   rw[e93,e94]
   go_simp
  ·cases ho
   have e92:x 21= .bool true:=hx 21 (hdep { on:=21,ground:= .data } (by simp) rfl)
   have e95:x 24= .bool true:=hx 24 (hdep { on:=24,ground:= .data } (by simp) rfl)
   refine wpOp_at rfl rfl (wp_value (v:= .bool true) ?_ ⟨hbX,upd x 25 _,hx.step (fun j v h=>h) rfl,rfl⟩)
   rw[e92,e95]
   go_simp
  ·cases ho
   have e96:x 25= .bool true:=hx 25 (hdep { on:=25,ground:= .data } (by simp) rfl)
   refine wpOp_at rfl rfl (wp_value (v:= .bool true) ?_ ⟨hbX,upd x 26 _,hx.step (fun j v h=>h) rfl,rfl⟩)
   rw[e96]
   go_simp
  ·cases ho
   have eg:x 26= .bool true:=hx 26 (hdep { on:=26,ground:= .guard } (by simp) rfl)
   have hl:=(KS.out X hbX).1.1
   refine wpOp_ok rfl (by rw[eg];rfl) (wp_value (v:= .agg #[.slice pa pn pc,.slice ra rn rc,.slice fa fn fc,.slice ka kn kc,.int .i64 hh,.int .i64 nn]) ?_ ⟨hbX,upd x 27 _,hx.step (fun j v h=>h) rfl,rfl⟩)
   go_simp
  ·cases ho
   have eg:x 26= .bool true:=hx 26 (hdep { on:=26,ground:= .guard } (by simp) rfl)
   have hl:=(KS.out X hbX).1.2.1
   refine wpOp_ok rfl (by rw[eg];rfl) (wp_value (v:= .agg #[.slice pa2 pn pc2,.slice ra2 rn rc2,.slice fa2 fn fc2,.slice ka2 kn kc2,.int .i64 hh,.int .i64 nn]) ?_ ⟨hbX,upd x 28 _,hx.step (fun j v h=>h) rfl,rfl⟩)
   go_simp
  ·cases ho
   have eg:x 26= .bool true:=hx 26 (hdep { on:=26,ground:= .guard } (by simp) rfl)
   have e98:x 27= .agg #[.slice pa pn pc,.slice ra rn rc,.slice fa fn fc,.slice ka kn kc,.int .i64 hh,.int .i64 nn]:=hx 27 (hdep { on:=27,ground:= .data } (by simp) rfl)
   have e99:x 28= .agg #[.slice pa2 pn pc2,.slice ra2 rn rc2,.slice fa2 fn fc2,.slice ka2 kn kc2,.int .i64 hh,.int .i64 nn]:=hx 28 (hdep { on:=28,ground:= .data } (by simp) rfl)
   refine wpOp_ok rfl (by rw[eg];rfl) (wp_enter (f:=17) (args:= #[x 27,x 28]) (by kernel_rfl) ?_)
   have C:=EF.out X hbX
   rw[←e98,←e99] at C
   refine C.mono ?_
   rintro e X' ⟨rfl,hb1⟩
   exact⟨_,rfl,bx hbX hb1,upd x 29 _,hx.step (ObF.bel hb1) rfl,rfl⟩
  ·cases ho
   have e97:x 26= .bool true:=hx 26 (hdep { on:=26,ground:= .data } (by simp) rfl)
   have e100:x 29= .bool true:=hx 29 (hdep { on:=29,ground:= .data } (by simp) rfl)
   refine wpOp_at rfl rfl (wp_value (v:= .bool true) ?_ ⟨hbX,upd x 30 _,hx.step (fun j v h=>h) rfl,rfl⟩)
   rw[e97,e100]
   go_simp
  ·cases ho
   have e101:x 30= .bool true:=hx 30 (hdep { on:=30,ground:= .data } (by simp) rfl)
   refine wpOp_at rfl rfl (wp_value (v:= .bool true) ?_ ⟨hbX,upd x 31 _,hx.step (fun j v h=>h) rfl,rfl⟩)
   rw[e101]
   go_simp
  ·cases ho
   have eg:x 31= .bool true:=hx 31 (hdep { on:=31,ground:= .guard } (by simp) rfl)
   refine wpOp_ok rfl (by rw[eg];rfl) (wp_value (v:=ptrV m) ?_ ⟨hbX,upd x 32 _,hx.step (fun j v h=>h) rfl,rfl⟩)
   go_simp
  ·cases ho
   have eg:x 31= .bool true:=hx 31 (hdep { on:=31,ground:= .guard } (by simp) rfl)
   have e103:x 32=ptrV m:=hx 32 (hdep { on:=32,ground:= .data } (by simp) rfl)
   refine wpOp_ok rfl (by rw[eg];rfl) (wp_enter (f:=120) (args:= #[x 32]) (by kernel_rfl) ?_)
   have C:=IF.out X hbX
   rw[←e103] at C
   refine C.mono ?_
   rintro e X' ⟨ia,ic,rfl,hcv,hb1⟩
   exact⟨_,rfl,bx hbX hb1,upd x 33 _,hx.step (ObF.bel hb1) ⟨ia,ic,rfl,hcv⟩,rfl⟩
  ·cases ho
   have eg:x 31= .bool true:=hx 31 (hdep { on:=31,ground:= .guard } (by simp) rfl)
   obtain⟨ia,ic,e104,hcv⟩:=hx 33 (hdep { on:=33,ground:= .data } (by simp) rfl)
   have hl:=hcv X (Below.refl _ _)
   refine wpOp_ok rfl (by rw[eg];rfl) (wp_value (v:= .string S0) ?_ ⟨hbX,upd x 34 _,hx.step (fun j v h=>h) rfl,rfl⟩)
   rw[e104]
   go_simp
  ·cases ho
   have eg:x 31= .bool true:=hx 31 (hdep { on:=31,ground:= .guard } (by simp) rfl)
   refine wpOp_ok rfl (by rw[eg];rfl) (wp_value (v:= .slice p n cap) ?_ ⟨hbX,upd x 35 _,hx.step (fun j v h=>h) rfl,rfl⟩)
   go_simp
  ·cases ho
   have eg:x 31= .bool true:=hx 31 (hdep { on:=31,ground:= .guard } (by simp) rfl)
   have e106:x 35= .slice p n cap:=hx 35 (hdep { on:=35,ground:= .data } (by simp) rfl)
   have hl:=(KS.out X hbX).1.2.2
   refine wpOp_ok rfl (by rw[eg];rfl) (wp_value (v:= .string S0) ?_ ⟨hbX,upd x 36 _,hx.step (fun j v h=>h) rfl,rfl⟩)
   rw[e106]
   go_simp
  ·cases ho
   have eg:x 31= .bool true:=hx 31 (hdep { on:=31,ground:= .guard } (by simp) rfl)
   have e105:x 34= .string S0:=hx 34 (hdep { on:=34,ground:= .data } (by simp) rfl)
   have e107:x 36= .string S0:=hx 36 (hdep { on:=36,ground:= .data } (by simp) rfl)
   refine wpOp_ok rfl (by rw[eg];rfl) (wp_value (v:= .bool true) ?_ ⟨hbX,upd x 37 _,hx.step (fun j v h=>h) rfl,rfl⟩)
   rw[e105,e107]
   go_simp
  ·cases ho
   have e102:x 31= .bool true:=hx 31 (hdep { on:=31,ground:= .data } (by simp) rfl)
   have e108:x 37= .bool true:=hx 37 (hdep { on:=37,ground:= .data } (by simp) rfl)
   refine wpOp_at rfl rfl (wp_value (v:= .bool true) ?_ ⟨hbX,upd x 38 _,hx.step (fun j v h=>h) rfl,rfl⟩)
   rw[e102,e108]
   go_simp
  ·cases ho
   have e109:x 38= .bool true:=hx 38 (hdep { on:=38,ground:= .data } (by simp) rfl)
   refine wpOp_at rfl rfl (wp_value (v:= .bool true) ?_ ⟨hbX,upd x 39 _,hx.step (fun j v h=>h) rfl,rfl⟩)
   rw[e109]
   go_simp
  ·cases ho
   have eg:x 39= .bool true:=hx 39 (hdep { on:=39,ground:= .guard } (by simp) rfl)
   refine wpOp_ok rfl (by rw[eg];rfl) (wp_value (v:=ptrV m) ?_ ⟨hbX,upd x 40 _,hx.step (fun j v h=>h) rfl,rfl⟩)
   go_simp
  ·cases ho
   have eg:x 39= .bool true:=hx 39 (hdep { on:=39,ground:= .guard } (by simp) rfl)
   have e111:x 40=ptrV m:=hx 40 (hdep { on:=40,ground:= .data } (by simp) rfl)
   refine wpOp_ok rfl (by rw[eg];rfl) (wp_enter (f:=121) (args:= #[x 40]) (by kernel_rfl) ?_)
   have C:=NF.out X hbX
   rw[←e111] at C
   refine C.mono ?_
   rintro e X' ⟨⟨la,lc,rfl⟩,hb1⟩
   exact⟨_,rfl,bx hbX hb1,upd x 41 _,hx.step (ObF.bel hb1) ⟨la,lc,rfl⟩,rfl⟩
  ·cases ho
   have eg:x 39= .bool true:=hx 39 (hdep { on:=39,ground:= .guard } (by simp) rfl)
   obtain⟨ia,ic,e112⟩:=hx 41 (hdep { on:=41,ground:= .data } (by simp) rfl)
   refine wpOp_ok rfl (by rw[eg];rfl) (wp_value (v:= .int .i64 0) ?_ ⟨hbX,upd x 42 _,hx.step (fun j v h=>h) rfl,rfl⟩)
   rw[e112]
   go_simp
  ·cases ho
   have eg:x 39= .bool true:=hx 39 (hdep { on:=39,ground:= .guard } (by simp) rfl)
   have e113:x 42= .int .i64 0:=hx 42 (hdep { on:=42,ground:= .data } (by simp) rfl)
   refine wpOp_ok rfl (by rw[eg];rfl) (wp_value (v:= .bool true) ?_ ⟨hbX,upd x 43 _,hx.step (fun j v h=>h) rfl,rfl⟩)
   rw[e113]
   go_simp
  ·cases ho
   have e110:x 39= .bool true:=hx 39 (hdep { on:=39,ground:= .data } (by simp) rfl)
   have e114:x 43= .bool true:=hx 43 (hdep { on:=43,ground:= .data } (by simp) rfl)
   refine wpOp_at rfl rfl (wp_value (v:= .bool true) ?_ ⟨hbX,upd x 44 _,hx.step (fun j v h=>h) rfl,rfl⟩)
   rw[e110,e114]
   go_simp
 ·rintro a X ⟨hbX,x,hx,rfl⟩
  have e44:x 44= .bool true:=hx 44 rfl
  rw[e44]
  simp only[List.drop_succ_cons,List.drop_zero]
  have HBX:=hid (bx HZB.out hbX)
  clear hx hbX
  go_wp2
  go_ret
  exact⟨rfl,HBX.out⟩
theorem Opens_z (v:Value) (bs:List Int) (w:World) (h:ByArg w v bs) (hl:bs.length≤100000):
  Calls Tryz.prog 37 #[v] w fun e w'=>e= .returned (.bool true)∧Below w.heap.size w w':=by
 cases hm:mayB bs.length with
 | false=>exact Opens_no v bs w h hl hm
 | true=>exact Opens_yes v bs w h hl hm
theorem known24_z (w:World):Calls Tryz.prog 28 #[] w fun e w'=>e= .returned (.bool true)∧Below w.heap.size w w':=by
 have NM:=hid (New_m 2048 (by decide) w)
 obtain⟨Z,hZ⟩: ∃Z:List Int,Z=List.replicate 2048 0:=⟨_,rfl⟩
 have hz0: ∀x∈Z,0≤x∧x<256:=fun x hx=>by rw[hZ,List.mem_replicate] at hx;rw[hx.2];omega
 have hzl:Z.length=8*256:=by rw[hZ];simp
 have hw:wordsOf Z=List.replicate 256 0:=by rw[hZ];exact wordsOf_zeros 2048
 have hlk: ∀w w' e,LookPost Z w e w'→Below w.heap.size w w'∧AnsOf 0 0 6 [] [] [] [] e w':=fun w w' e h=>by
  rw[hZ] at h
  obtain⟨rfl,h2⟩:=look_none zero_no h
  exact⟨h2,ans_none w'⟩
 have HZ:=hid (⟨hz0,hzl,hw,hlk⟩:_∧_∧_∧_)
 clear hz0 hzl hw hlk hZ
 go_enter Tryz.func28,Tryz.ntmps28
 go_wp2_with fail
 refine NM.out.mono ?_
 rintro e w2 ⟨m,B,rfl,hM,hb2,hlo⟩
 have hM2:MemIs w2 m B (freshM (wordsOf Z)):=by rw[HZ.out.2.2.1];exact hM
 have hlo2: ∀k∈footM m B (freshM (wordsOf Z)),w.heap.size≤k:=by rw[HZ.out.2.2.1];exact fun k hk=>Nat.le_of_lt (hlo k hk)
 have ON:=hid (ONew_in m B 256 ⟨0,0,0,0⟩ (by omega) (by omega) w2 (by have h1:=hM2.blk;have h2:(freshM (wordsOf Z)).view.length=256:=(by show(wordsOf Z).length=256;rw[HZ.out.2.2.1];simp);rw[h2] at h1;exact h1))
 have HM:=hid (⟨hM2,hb2,hlo2⟩:_∧_∧_)
 clear hM hM2 hb2 hlo hlo2 NM
 go_wp2_with fail
 refine(callsIn_wide.1 ON.out).mono ?_
 rintro e w3 ⟨o,v,rfl,ho,hol,hB3,hr3,hno,hb3⟩
 obtain⟨tg,c,rfl,hL⟩:=opn_start (N:=w.heap.size) HZ.out.2.1 (by omega) HM.out.1 HM.out.2.2 HM.out.2.1.size ho hB3 hr3 hno hb3
 have OW:Hid (Calls Tryz.prog 31 #[ptrV m,.pointer (some ⟨o,0,none⟩),.int .i64 257] w3 fun e w'=>e= .returned (.int .i64 256)∧Below w.heap.size w3 w'∧
   ∃tv wv' pv rv fv kv,OpnD w' o m B (memK (wordsOf Z) 256) Z tv wv' true 6 0 0 [] [] [] [] pv rv fv kv):=hid (OWhole_z w.heap.size o m B 256 c tg 257 Z HZ.out.1 HZ.out.2.1 (by omega) (by omega) (by omega) (by omega) 6 0 0 [] [] [] [] HZ.out.2.2.2 w3 hL)
 have HB3:=hid (bx HM.out.2.1 hb3)
 clear ho hol hB3 hr3 hno hb3 hL ON HM
 go_wp2_with fail
 refine OW.out.mono ?_
 rintro e w4 ⟨rfl,hb4,tv,wv,pv,rv,fv,kv,hD⟩
 have SD:=hid (OStep_done o m B _ _ hD.mem.pos hD.mem.big _ _ _ _ _ _ _ _ _ w4 hD.mem.blk hD.blk)
 have HB4:=hid (HB3.out.trans hb4)
 clear hD OW hb4
 go_wp2_with fail
 refine SD.out.mono ?_
 rintro e w5 ⟨rfl,hb5⟩
 have HB5:=hid (bx HB4.out hb5)
 clear hb5
 go_wp2
 go_ret
 exact⟨rfl,HB5.out⟩
theorem OpenBytes_z (v:Value) (bs:List Int) (w:World) (h:ByArg w v bs) (hl63:bs.length≤9223372036854775807):
  Calls Tryz.prog 10 #[v] w fun e w'=>e= .returned (.bool true)∧Below w.heap.size w w':=by
 obtain⟨p,cap,rfl,hby,hcap⟩:=h.form
 obtain⟨n,hn⟩: ∃n,n=bs.length:=⟨_,rfl⟩
 by_cases hbig:n>8192
 ·have j1:(n:Int)>8192:=by omega
  have j2:decide ((n:Int)>8192)=true:=decide_eq_true j1
  rw[←hn]
  clear h hby hn hl63
  go_enter Tryz.func10,Tryz.ntmps10
  go_wp2_with fail
  refine(known24_z _).mono ?_
  rintro e w1 ⟨rfl,hb1⟩
  go_wp2
  go_ret
  exact⟨rfl,hb1⟩
 ·have j1: ¬(n:Int)>8192:=by omega
  have j2:decide ((n:Int)>8192)=false:=decide_eq_false j1
  have OZ:=hid (Opens_z _ bs w h (by omega))
  rw[←hn] at OZ ⊢
  clear h hby hn hl63
  go_enter Tryz.func10,Tryz.ntmps10
  go_wp2_with fail
  refine OZ.out.mono ?_
  rintro e w1 ⟨rfl,hb1⟩
  have HB:=hid hb1
  clear hb1
  go_wp2_with fail
  refine(known24_z _).mono ?_
  rintro e w2 ⟨rfl,hb2⟩
  have HB2:=hid (bx HB.out hb2)
  clear hb2
  go_wp2
  go_ret
  exact⟨rfl,HB2.out⟩
end Go.Proofs.YtibiekfjbibpbaaGreat
