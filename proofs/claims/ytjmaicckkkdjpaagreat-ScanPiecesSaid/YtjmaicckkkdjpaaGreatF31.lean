import Derived.Test.YtjmaicckkkdjpaaGreatF30
set_option maxRecDepth 100000
set_option maxHeartbeats 8000000
set_option linter.unusedVariables false
set_option linter.unusedSimpArgs false
/- The chapter's rows of scans. -/
namespace Go.Proofs.YtjmaicckkkdjpaaGreat
open Go.RowKit
theorem fldP (c:Int) (s:ByteArray) (a:Option Addr) (n k:Nat) (W:World):(Instr.field 41 (.agg (respP c s (.slice a n k))) 2).run Tryz.prog W= .ok (.slice a n k) W:=by kernel_rfl
attribute [local go_sem] fldP
theorem pq1:pairsEq [(3,strOfNums [51]),(5,strOfNums [53]),(7,strOfNums [55])] [(3,{ data:= #[51] }),(5,{ data:= #[53] }),(7,{ data:= #[55] })]=true:=by kernel_rfl
theorem pq2:pairsEq [(5,strOfNums [53])] [(5,{ data:= #[53] })]=true:=by kernel_rfl
theorem sm0:((0:Int)==0&& (strBQ { data:= #[] } { data:= #[] }&&pairsEq [] []))=true:=by kernel_rfl
structure Tri (W0:World) (si m:Nat) (MB:MB) (M:MemS) (ga gb gc:Nat) (xa xb xc:ScP) (fa fb fc:List Nat) (W:World):Prop where
 a:ScAt W0 si m MB M ga xa fa W
 b:ScAt W0 si m MB M gb xb fb W
 c:ScAt W0 si m MB M gc xc fc W
 ba: ∀z∈gb::fb,z∉ga::fa
 ca: ∀z∈gc::fc,z∉ga::fa
 cb: ∀z∈gc::fc,z∉gb::fb
theorem Known21_z (w:World):Calls Tryz.prog 28 #[] w fun e w'=>e= .returned (.bool true)∧Below w.heap.size w w':=by
 obtain⟨W1,hW1⟩: ∃W1,W1=w.alloc (.cells #[.int .u64 3,.int .u64 5,.int .u64 7] 25):=⟨_,rfl⟩
 have hb1:Below w.heap.size w W1:=by rw[hW1];exact ba (Below.refl _ _) _
 have k1:Blk W1 w.heap.size 25 #[.int .u64 3,.int .u64 5,.int .u64 7]:=by rw[hW1];exact Blk.new _ _ _
 have hn:NumsAt .u64 W1 (.slice (some ⟨w.heap.size,0,none⟩) 3 3) [3,5,7]:=⟨_,3,rfl,Or.inr ⟨w.heap.size,0,rfl,k1.lt,fun i x hx=>by
  match i,hx with
  | 0,hx=>injection hx with hx;rw[←hx];exact k1.cell 0
  | 1,hx=>injection hx with hx;rw[←hx];exact k1.cell 1
  | 2,hx=>injection hx with hx;rw[←hx];exact k1.cell 2⟩⟩
 have BZ:Calls Tryz.prog 27 #[.agg #[.int .i64 3,.slice (some ⟨w.heap.size,0,none⟩) 3 3,.int .i64 2,.int .i64 0]] W1 fun e w'=>BgPs W1 ⟨3,2,0⟩ [3,5,7] e w':=SBegin_z ⟨3,2,0⟩ _ [3,5,7] (fun y hy=>by simp at hy;rcases hy with rfl | rfl | rfl<;>(unfold U64;omega)) (by simp) (by show I64 3∧I64 2∧I64 0;unfold I64;omega) W1 hn
 have BZ:=hid BZ
 have HW1:=hid hW1
 have HB1:=hid hb1
 clear hW1 hb1 k1 hn
 go_enter Tryz.func28,Tryz.ntmps28
 go_wp2_with fail
 rw[show _=W1 from HW1.out.symm]
 refine BZ.out.mono ?_
 rintro e w2 ⟨hb2,(⟨_,hno⟩ | ⟨wb,g,b,nb,R,lv,rows,K,si,m,MB,rfl,hW⟩)⟩
 ·exact absurd ⟨⟨by decide,by decide,by decide,by decide,by decide,by decide,by decide⟩,by rw[ris357];exact bld_three⟩ hno
 have HB2:=hid (bx HB1.out hb2)
 have HW:=hid hW
 obtain⟨V,hV⟩: ∃V,V=wordsOf R.bs:=⟨_,rfl⟩
 have hS0:=hW.start
 rw[←hV] at hS0
 have c1:w2.cell? ⟨wb,1,none⟩=some (ptrV si):=by obtain⟨_,_,_,_,_,_,hO,_⟩:=hW.ov;exact hO.blk.cell 1
 have HSX:Hid (∀X,Below w2.heap.size w2 X→ScWd w2 si m MB V (freshM V) X):=hid fun X hb=>hS0.bel hb
 have NN:Hid (∀(lo hi limit:Int) X,Below w2.heap.size w2 X→Calls Tryz.prog 29 #[ptrV si,.int .i64 0,.int .u64 lo,.int .u64 hi,.int .i64 limit] X fun e w'=> ∃sg f,e= .returned (ptrV sg)∧ScAt w2 si m MB (freshM V) sg (scNew 0 lo hi limit) f w'∧(∀z∈sg::f,X.heap.size≤z)∧Below X.heap.size X w'):=hid fun lo hi limit X hb=>((HSX.out X hb).new hb.size 0 lo hi limit).mono (by
  rintro e w' ⟨sg,f,h1,_,h2,h3,h4⟩
  exact⟨sg,f,h1,h2,h3,h4⟩)
 have HV:=hid hV
 clear hb2 hW hV hS0 BZ
 go_upto_region 4 with fail
 go_cut [2,3,4] from 12 to 26 (fun va vb vc wd=> ∃ga gb gc:Nat,va=ptrV ga∧vb=ptrV gb∧vc=ptrV gc∧Hid (Below w2.heap.size w2 wd∧ ∃fa fb fc,Tri w2 si m MB (freshM V) ga gb gc (scNew 0 0 9 5) (scNew 0 5 9 1) (scNew 0 6 6 1) fa fb fc wd))
 case first=>
  go_region_held3 (fun X=>X.cell? ⟨wb,1,none⟩=some (ptrV si)) (go_keep) (first
   | (have HX:=HB;go_at_call 29;refine(NN.out 6 6 1 _ (by first | exact HB.out.2.2)).mono ?_;rintro e v3 ⟨gc,fc,rfl,p1,p2,p3⟩;have d3:v3.cell? ⟨wb,1,none⟩=some (ptrV si):=cell_bel p3 d2;have HC:=hid (⟨p1,p2,p3⟩:_∧_∧_);clear p1 p2 p3 HX)
   | (have HX:=HA;go_at_call 29;refine(NN.out 5 9 1 _ (by first | exact HA.out.2.2)).mono ?_;rintro e v2 ⟨gb,fb,rfl,p1,p2,p3⟩;have d2:v2.cell? ⟨wb,1,none⟩=some (ptrV si):=cell_bel p3 d1;have HB:=hid (⟨p1,(⟨p2,p3⟩:_∧_),bx HA.out.2.2 p3⟩:_∧_∧_);clear p1 p2 p3 HX)
   | (go_at_call 29;refine(NN.out 0 9 5 _ (by first | exact Below.refl _ _ | exact(Below.refl _ _).drew)).mono ?_;rintro e v1 ⟨ga,fa,rfl,p1,p2,p3⟩;have d1:v1.cell? ⟨wb,1,none⟩=some (ptrV si):=cell_bel p3 c1;have HA:=hid (⟨p1,p2,(by first | exact bx (Below.refl _ _) p3 | exact bx (Below.refl _ _).drew p3)⟩:_∧_∧Below w2.heap.size w2 v1);clear p1 p2 p3))
  all_goals
   go_wp2
   go_meet
   refine⟨ga,gb,gc,rfl,rfl,rfl,hid ⟨bx HB.out.2.2 HC.out.2.2,fa,fb,fc,?_⟩⟩
   have hla:=HA.out.1.is.lt
   have hlb:=HB.out.1.is.lt
   have s1:=HB.out.2.1.2.size
   have la: ∀z∈ga::fa,z<v1.heap.size:=fun z hz=>(List.mem_cons.1 hz).elim (fun e=>e▸hla.1) (hla.2 z)
   have lb: ∀z∈gb::fb,z<v2.heap.size:=fun z hz=>(List.mem_cons.1 hz).elim (fun e=>e▸hlb.1) (hlb.2 z)
   refine⟨(HA.out.1.bel HB.out.2.1.2).bel HC.out.2.2,HB.out.1.bel HC.out.2.2,HC.out.1,fun z hz hc=> ?_,fun z hz hc=> ?_,fun z hz hc=> ?_⟩
   ·have:=HB.out.2.1.1 z hz;have:=la z hc;omega
   ·have:=HC.out.2.1 z hz;have:=la z hc;omega
   ·have:=HC.out.2.1 z hz;have:=lb z hc;omega
 case rest=>
  obtain⟨ga,gb,gc,rfl,rfl,rfl,hT⟩:=hcut
  obtain⟨L,hL⟩: ∃L:Nat,L=(nK (risKeys [3,5,7]) (La.per ⟨3,2,0⟩).toNat (La.lag ⟨3,2,0⟩).toNat 0*(70*tK (risKeys [3,5,7]) (La.per ⟨3,2,0⟩).toNat (La.lag ⟨3,2,0⟩).toNat (K+1)+40)+17*5):=⟨_,rfl⟩
  have KBo:Hid (∀M W,ScWd w2 si m MB V M W→Calls Tryz.prog 31 #[ptrV wb,.int .i64 5] W fun e w'=>e= .returned (.int .i64 (L:Int))∧w'=W):=hid fun M W h=>by
   rw[HV.out] at h
   have:=HW.out.boundAt h 5 (by omega)
   rw[←hL] at this
   exact this
  have KCc:Hid (∀M W,ScWd w2 si m MB V M W→W.cell? ⟨wb,2,none⟩=some (ptrV m)):=hid fun M W h=>by
   rw[HV.out] at h
   obtain⟨⟨sp,h1⟩,_⟩:=HW.out.now h
   exact h1.cell 2
  have KD:Hid (∀(lo hi limit:Int),(0≤lo∧hi<18446744073709551616∧1≤limit∧limit≤256∧lo≤hi)→ ∀M W sg f,ScWd w2 si m MB V M W→ScAt w2 si m MB M sg (scNew 0 lo hi limit) f W→w2.heap.size≤W.heap.size→Calls Tryz.prog 30 #[ptrV m,ptrV sg,.int .i64 (L:Int)] W fun e w'=> ∃x' M' f',e= .returned (.bool true)∧ScEnd [3,5,7] lo hi limit x'∧ScWd w2 si m MB V M' w'∧ScAt w2 si m MB M' sg x' f' w'∧ScBy w2 si m MB M M' sg f f' W w'∧W.heap.size≤w'.heap.size):=hid fun lo hi limit hc M W sg f h ha hl=>by
   rw[HV.out] at h
   have:=HW.out.done h 5 (by omega) (c:=0) ⟨by omega,by omega⟩ hc.1 hc.2.1 hc.2.2.1 hc.2.2.2.1 hc.2.2.2.2 ha hl
   rw[←hL,ris357] at this
   rw[HV.out]
   exact this
  clear hL
  have hS1:=HSX.out wc hT.out.1
  have hS1d:=hS1.bel (Below.drew (Below.refl _ wc))
  have e0:wc.drew.cell? ⟨wb,2,none⟩=some (ptrV m):=KCc.out _ _ hS1d
  obtain⟨hb3,fa,fb,fc,hTT⟩:=hT.out
  have HTT:=hid hTT
  have HS0:=hid hS1d
  have HL0:Hid (w2.heap.size≤wc.drew.heap.size):=hid hb3.size
  clear hS1 hS1d hTT hb3 hT NN c1
  go_upto_region 5 with fail
  go_region_held3 (fun X=>X.cell? ⟨wb,2,none⟩=some (ptrV m)) (first | go_keep | (exact sC) | (exact e0))
   (first
   | (go_at_call 31;refine(KBo.out _ _ (by first | exact HS2.out | exact HS1.out | exact HS0.out)).mono ?_;rintro e w9 ⟨rfl,rfl⟩)
   | (go_at_call 30;refine(KD.out 6 6 1 (by omega) _ _ _ _ HS2.out HC2.out HL2.out).mono ?_;rintro e w6 ⟨xc,M3,fc1,rfl,q1,q2,q3,q4,q5⟩;have sC:=KCc.out _ _ q2;have HE3:=hid (⟨q1,q3,q4,Nat.le_trans HL2.out q5⟩:_∧_∧_∧_);have HS3:=hid q2;clear q1 q2 q3 q4 q5)
   | (go_at_call 30;refine(KD.out 5 9 1 (by omega) _ _ _ _ HS1.out HB1'.out HL1.out).mono ?_;rintro e w5 ⟨xb,M2,fb1,rfl,q1,q2,q3,q4,q5⟩;have sC:=KCc.out _ _ q2;have HE2:=hid (⟨q1,q3,q4⟩:_∧_∧_);have HC2:=hid ((q4 _ _ _ HC1.out.1 HTT.out.cb).1);have HS2:=hid q2;have HL2:=hid (Nat.le_trans HL1.out q5);clear q1 q2 q3 q4 q5)
   | (go_at_call 30;refine(KD.out 0 9 5 (by omega) _ _ _ _ HS0.out (HTT.out.a.bel (Below.drew (Below.refl _ wc))) HL0.out).mono ?_;rintro e w4 ⟨xa,M1,fa1,rfl,q1,q2,q3,q4,q5⟩;have sC:=KCc.out _ _ q2;have HE1:=hid (⟨q1,q3,q4⟩:_∧_∧_);have HB1':=hid ((q4 _ _ _ (HTT.out.b.bel (Below.drew (Below.refl _ wc))) HTT.out.ba).1);have HC1:=hid (q4 _ _ _ (HTT.out.c.bel (Below.drew (Below.refl _ wc))) HTT.out.ca);have HS1:=hid q2;have HL1:=hid (Nat.le_trans HL0.out q5);clear q1 q2 q3 q4 q5))
  obtain⟨e3,hc6,by3,_⟩:=HE3.out
  obtain⟨e2,hb5,by2⟩:=HE2.out
  obtain⟨e1,ha4,by1⟩:=HE1.out
  have dca:=HC1.out.2
  have dba:=(by1 _ _ _ (HTT.out.b.bel (Below.drew (Below.refl _ wc))) HTT.out.ba).2
  have dcb:=(by2 _ _ _ HC1.out.1 HTT.out.cb).2
  obtain⟨ha5,dab⟩:=by2 _ _ _ ha4 (fun z hz hc=>dba z hc hz)
  obtain⟨ha6,_⟩:=by3 _ _ _ ha5 (fun z hz hc=>dca z hc hz)
  obtain⟨hb6,_⟩:=by3 _ _ _ hb5 (fun z hz hc=>dcb z hc hz)
  have pa:xa.pairs=[(3,strOfNums [51]),(5,strOfNums [53]),(7,strOfNums [55])]:=e1.pairs.trans ans0
  have pb:xb.pairs=[(5,strOfNums [53])]:=e2.pairs.trans ans1
  have pc':xc.pairs=[]:=e3.pairs.trans ans2
  have RA:=hid (SResp_z si m ga xa fa1 e1.done e1.e (by rw[pa];simp) w6 ha6.is)
  have RB:Hid (∀X,Below w6.heap.size w6 X→Calls Tryz.prog 32 #[ptrV gb] X (ScRsp [(5,strOfNums [53])] X)):=hid fun X hb=>by rw[←pb];exact SResp_z si m gb xb fb1 e2.done e2.e (by rw[pb];simp) X (hb6.bel hb).is
  have RC:Hid (∀X,Below w6.heap.size w6 X→Calls Tryz.prog 32 #[ptrV gc] X (ScRsp [] X)):=hid fun X hb=>by rw[←pc'];exact SResp_z si m gc xc fc1 e3.done e3.e (by rw[pc'];simp) X (hc6.bel hb).is
  rw[pa] at RA
  have HB6:Hid (Below w.heap.size w w6):=hid (by
   have h1:=(HW.out.now (by rw[←HV.out];exact HS3.out)).2.2.1
   exact HB2.out.trans (h1.mono HB1.out.size))
  clear e3 hc6 by3 e2 hb5 by2 e1 ha4 by1 dca dba dcb ha5 dab ha6 hb6 pa pb pc' sC e0
  clear HE1 HE2 HE3 HS0 HS1 HS2 HS3 HC1 HC2 HB1' HL0 HL1 HL2 KD KBo KCc HTT HSX HW
  go_wp2_with fail
  refine RA.out.mono ?_
  rintro e w7 ⟨v,rfl,hrow,hb7⟩
  obtain⟨ra,rc,rfl⟩:=row_form1 hrow
  have HR7:Hid (w7.ownsRow w6.heap.size 96 2 (.slice ra 3 rc) 3 (pc [(3,strOfNums [51]),(5,strOfNums [53]),(7,strOfNums [55])])):=hid hrow
  have HB7:=hid hb7
  rw[show([(3,strOfNums [51]),(5,strOfNums [53]),(7,strOfNums [55])]:List (Int×ByteArray)).length=3 from rfl]
  clear hrow hb7 RA
  go_upto_region 8 with fail
  obtain⟨W8,hW8⟩: ∃W8,W8=w7.alloc (.cells #[.int .u64 5,.string { data:= #[53] }] 96):=⟨_,rfl⟩
  rw[show _=W8 from hW8.symm]
  have hb8:Below w7.heap.size w7 W8:=by rw[hW8];exact ba (Below.refl _ _) _
  have k8:Blk W8 w7.heap.size 96 #[.int .u64 5,.string { data:= #[53] }]:=by rw[hW8];exact Blk.new _ _ _
  have KP:Hid (∀X,Below W8.heap.size W8 X→X.cell? ⟨w7.heap.size,0,none⟩=some (.int .u64 5)∧X.cell? ⟨w7.heap.size,1,none⟩=some (.string { data:= #[53] })):=hid fun X hb=>⟨cell_bel hb (k8.cell 0),cell_bel hb (k8.cell 1)⟩
  obtain⟨s0,s1⟩:=KP.out W8.drew (Below.refl _ _).drew
  have H68:Hid (∀X,Below W8.heap.size W8 X→Below w6.heap.size w6 X):=hid fun X hb=>bx (bx HB7.out hb8) hb
  have SP1:Hid (∀X b,Below W8.heap.size W8 X→Blk X b 96 #[.int .u64 3,.string { data:= #[51] },.int .u64 5,.string { data:= #[53] },.int .u64 7,.string { data:= #[55] }]→Calls Tryz.prog 33 #[.slice ra 3 rc,.slice (some ⟨b,0,none⟩) 3 3] X fun e w'=>e= .returned (.bool true)∧Below X.heap.size X w'):=hid fun X b hb hB=>by
   have h1:=(Only.of_below (bx hb8 hb) []).own HR7.out (by simp)
   refine(RSamePairs_z _ _ [(3,strOfNums [51]),(5,strOfNums [53]),(7,strOfNums [55])] [(3,{ data:= #[51] }),(5,{ data:= #[53] }),(7,{ data:= #[55] })] X (own_less h1 (Nat.zero_le _)) ⟨rfl,Or.inr ⟨b,3,_,rfl,Nat.zero_le _,hB,by simp,by unfold maxLen;omega,rfl,rfl⟩⟩ (by simp) (by simp)).mono ?_
   rintro e w' ⟨rfl,h⟩
   rw[pq1]
   exact⟨rfl,h⟩
  have SP2:Hid (∀X b a c,X.ownsRow 0 96 2 (.slice a 1 c) 1 (pc [(5,strOfNums [53])])→Blk X b 96 #[.int .u64 5,.string { data:= #[53] }]→Calls Tryz.prog 33 #[.slice a 1 c,.slice (some ⟨b,0,none⟩) 1 1] X fun e w'=>e= .returned (.bool true)∧Below X.heap.size X w'):=hid fun X b a c hr hB=>by
   refine(RSamePairs_z _ _ [(5,strOfNums [53])] [(5,{ data:= #[53] })] X hr ⟨rfl,Or.inr ⟨b,1,_,rfl,Nat.zero_le _,hB,by simp,by unfold maxLen;omega,rfl,rfl⟩⟩ (by simp) (by simp)).mono ?_
   rintro e w' ⟨rfl,h⟩
   rw[pq2]
   exact⟨rfl,h⟩
  have SM:Hid (∀X a c,X.ownsRow 0 96 2 (.slice a 0 c) 0 (pc [])→Calls Tryz.prog 12 #[.agg (respP 0 { data:= #[] } (.slice a 0 c)),.agg #[.int .i64 0,.string { data:= #[] },.slice none 0 0]] X fun e w'=>e= .returned (.bool true)∧Below X.heap.size X w'):=hid fun X a c hr=>by
   refine(RSame_z 0 0 { data:= #[] } { data:= #[] } _ _ [] [] X hr (World.ownsRow_nil _ _ _ _) (by simp) (by simp)).mono ?_
   rintro e w' ⟨rfl,h⟩
   rw[sm0]
   exact⟨rfl,h⟩
  clear hW8 hb8 k8
  go_region_held3 (fun X=>X.cell? ⟨w7.heap.size,0,none⟩=some (.int .u64 5)∧X.cell? ⟨w7.heap.size,1,none⟩=some (.string { data:= #[53] })) (first | (refine KP.out _ ?_;(repeat(first | assumption | exact Below.refl _ _ | refine Below.drew ?_ | refine ba ?_ _));done))
   (first
   | (go_at_call 12;refine(SM.out _ _ _ HRC.out).mono ?_;rintro e v5 ⟨rfl,p1⟩;have hv5:Below W8.heap.size W8 v5:=bx hv4 p1;clear p1)
   | (have hq:=SP2.out v2 _ _ _ HRB.out HLB.out;go_at_call 33;(with_reducible refine hq.mono ?_);rintro e v3 ⟨rfl,p1⟩;have hv3:Below W8.heap.size W8 v3:=bx (by(repeat(first | assumption | exact Below.refl _ _ | refine Below.drew ?_ | refine ba ?_ _));done) p1;clear p1 hq)
   | (have hq:=SP2.out (v2.alloc (.cells #[.int .u64 5,.string { data:= #[53] }] 96)) _ _ _ (((Only.refl [] v2).alloc _).own HRB.out (by simp)) (Blk.new v2 _ _);go_at_call 33;(with_reducible refine hq.mono ?_);rintro e v3 ⟨rfl,p1⟩;have hv3:Below W8.heap.size W8 v3:=bx (by(repeat(first | assumption | exact Below.refl _ _ | refine Below.drew ?_ | refine ba ?_ _));done) p1;clear p1 hq)
   | (have hq:=SP2.out (v2.alloc (.cells #[.int .u64 5,.string { data:= #[53] }] 96)).drew _ _ _ ((((Only.refl [] v2).alloc _).drew).own HRB.out (by simp)) (Blk.drew (Blk.new v2 _ _));go_at_call 33;(with_reducible refine hq.mono ?_);rintro e v3 ⟨rfl,p1⟩;have hv3:Below W8.heap.size W8 v3:=bx (by(repeat(first | assumption | exact Below.refl _ _ | refine Below.drew ?_ | refine ba ?_ _));done) p1;clear p1 hq)
   | (go_at_call 33;(with_reducible refine(SP1.out _ _ (by(repeat(first | assumption | exact Below.refl _ _ | refine Below.drew ?_ | refine ba ?_ _));done) (by first | with_reducible exact Blk.new _ _ _ | with_reducible exact Blk.drew (Blk.new _ _ _))).mono ?_);rintro e v1 ⟨rfl,p1⟩;have hv1:Below W8.heap.size W8 v1:=bx (by(repeat(first | assumption | exact Below.refl _ _ | refine Below.drew ?_ | refine ba ?_ _));done) p1;clear p1)
   | (have HX:=HRB;go_at_call 32;refine(RC.out _ (by refine H68.out _ ?_;(repeat(first | assumption | exact Below.refl _ _ | refine Below.drew ?_ | refine ba ?_ _));done)).mono ?_;rintro e v4 ⟨y,rfl,p2,p1⟩;obtain⟨ya,yc,rfl⟩:=row_form1 p2;have HRC:=hid (own_less p2 (Nat.zero_le _));have hv4:Below W8.heap.size W8 v4:=bx (by(repeat(first | assumption | exact Below.refl _ _ | refine Below.drew ?_ | refine ba ?_ _));done) p1;clear p1 p2 HX)
   | (go_at_call 32;refine(RB.out _ (by refine H68.out _ ?_;(repeat(first | assumption | exact Below.refl _ _ | refine Below.drew ?_ | refine ba ?_ _));done)).mono ?_;rintro e v2 ⟨y,rfl,p2,p1⟩;obtain⟨ya,yc,rfl⟩:=row_form1 p2;have HRB:=hid (own_less p2 (Nat.zero_le _));(try(have HLB:=hid ((Blk.drew (Blk.new v1 96 #[.int .u64 5,.string { data:= #[53] }])).bel p1)));(try(have HLB:=hid ((Blk.new v1 96 #[.int .u64 5,.string { data:= #[53] }]).bel p1)));have hv2:Below W8.heap.size W8 v2:=bx (by(repeat(first | assumption | exact Below.refl _ _ | refine Below.drew ?_ | refine ba ?_ _));done) p1;clear p1 p2))
  all_goals
   have HE:=hid (HB6.out.trans ((H68.out _ hv5).mono HB6.out.size))
   clear hv1 hv2 hv3 hv4 hv5
   go_wp2
   go_ret
   exact⟨rfl,HE.out⟩
end Go.Proofs.YtjmaicckkkdjpaaGreat
/- What is laid, as the map has it: the document's map and a scan's answer are alike. -/
namespace Go.Proofs.YtjmaicckkkdjpaaGreat
open Go.RowKit
def prK (ks:List Nat):List (Int×ByteArray):=ks.map fun k:Nat=>((k:Int),strOfNums (numL k))
theorem placeI_all {k:Int}: ∀{ps:List (Int×ByteArray)},(∀p∈ps,p.1<k)→placeI k ps=ps.length
 | [],_=>rfl
 | p::ps,h=>by
  show(if p.1<k then placeI k ps+1 else 0)=_
  rw[if_pos (h p (by simp)),placeI_all (fun q hq=>h q (by simp[hq]))];rfl
theorem putM_end {k:Int} {s:ByteArray} {ps:List (Int×ByteArray)} (h: ∀p∈ps,p.1<k):putM k s ps=ps++[(k,s)]:=by
 have hp:=placeI_all h
 rw[putM_new (placeB_out (by omega)),hp,List.take_length,List.drop_length,List.append_nil]
theorem abs_plL {ks:List Nat} (hr:ks.Pairwise (· < ·)):absLQ (plL ks)=prK ks:=by
 induction ks using snocRec with
 | nil=>rfl
 | snoc L k ih=>
  rw[List.pairwise_append] at hr
  have e:plL (L++[k])=plL L++[((k:Int),strOfNums (numL k),false)]:=by unfold plL;rw[List.map_append];rfl
  rw[e,absL_put,ih hr.1,putM_end]
  ·unfold prK;rw[List.map_append];rfl
  ·intro p hp
   obtain⟨j,hj,rfl⟩:=List.mem_map.1 hp
   have:=hr.2.2 j hj k (by simp)
   show(j:Int)< (k:Int)
   omega
theorem ents_pr (ks:List Nat):(ents0 ks).map txtE2=prK ks:=by
 apply List.ext_getElem?
 intro i
 unfold prK
 rw[List.getElem?_map,List.getElem?_map]
 by_cases h:i<ks.length
 ·rw[ents0_at h,List.getElem?_eq_getElem h]
  show some (txtE2 _)=some _
  unfold txtE2
  rw[List.getD_eq_getElem?_getD,List.getElem?_eq_getElem h];rfl
 ·rw[List.getElem?_eq_none (by rw[ents0_len];omega),List.getElem?_eq_none (by omega)];rfl
theorem pairEq_refl (p:Int×ByteArray):pairEq p p=true:=by unfold pairEq;simp
theorem pairsEq_refl (ps:List (Int×ByteArray)):pairsEq ps ps=true:=pairsEq_all rfl (fun k h1 h2=>pairEq_refl _)
end Go.Proofs.YtjmaicckkkdjpaaGreat
/- A scan whose bounds may not be; what the law's whole comes to, whatever the bounds; its answer. -/
namespace Go.Proofs.YtjmaicckkkdjpaaGreat
open Go.RowKit
theorem SArg_z (si m g:Nat) (x:ScP) (f:List Nat) (hd:x.done=false) (ha:x.limit<1∨256<x.limit∨x.hi<x.lo) (w:World) (hs:ScIs w si m g x f) (hsi:w.cell? ⟨si,0,none⟩=some (ptrV m)):
  Calls Tryz.prog 37 #[ptrV g] w fun e w'=>e= .returned (outS true 2)∧ScIs w' si m g (x.fin 2) f∧Only [g] w w':=by
 obtain⟨⟨R,uv,fv,us,bs,h1,h2,h3,rfl,h4⟩,h5⟩:=hs
 obtain⟨T,ub,rfl⟩:=h2.iface
 refine(SStep_arg si m g T ub x R fv hd ha w h1 hsi).mono ?_
 rintro e w' ⟨rfl,hb,ho⟩
 have hn: ∀z∈us++(bs++R.bl),z∉ [g]:=fun z hz hc=>by
  rw[List.mem_singleton] at hc
  exact h5 (hc▸hz)
 exact⟨rfl,⟨⟨R,_,fv,us,bs,hb,h2.only ho (fun z hz=>hn z (by simp[hz])) (fun z hz=>hn z (by simp[hz])),h3.only ho (fun z hz=>hn z (by simp[hz])),rfl,h4⟩,h5⟩,ho⟩
theorem SOver_z (si m g:Nat) (x:ScP) (f:List Nat) (hd:x.done=true) (w:World) (hs:ScIs w si m g x f) (hsi:w.cell? ⟨si,0,none⟩=some (ptrV m)):
  Calls Tryz.prog 37 #[ptrV g] w fun e w'=>e= .returned (outS true x.e)∧Below w.heap.size w w':=by
 obtain⟨⟨R,uv,fv,us,bs,h1,h2,h3,rfl,h4⟩,h5⟩:=hs
 obtain⟨T,ub,rfl⟩:=h2.iface
 refine(SStep_done si m g T ub x R fv hd w h1 hsi).mono ?_
 rintro e w' ⟨rfl,ho⟩
 exact⟨rfl,ho.below (by simp) (Nat.le_refl _)⟩
theorem SLArg_z (si m g:Nat) (B:MB) (M:MemS) (x:ScP) (f:List Nat) (hd:x.done=false) (ha:x.limit<1∨256<x.limit∨x.hi<x.lo) (w:World) (hm:MemIs w m B M) (hgm:g∉footM m B M) (hs:ScIs w si m g x f) (hsi:w.cell? ⟨si,0,none⟩=some (ptrV m)) (hgs:g≠si):
  Calls Tryz.prog 63 #[ptrV m,ptrV g] w fun e w'=>e= .returned (.tuple #[.bool true,.bool true])∧ScIs w' si m g (x.fin 2) f∧ ∃w1 w2,Below w.heap.size w w1∧Only [g] w1 w2∧Below w2.heap.size w2 w':=by
 have D1:=hid (SDid_z m B M w hm)
 have SZ:Hid (∀w1,Below w.heap.size w w1→Calls Tryz.prog 37 #[ptrV g] w1 fun e w'=>e= .returned (outS true 2)∧ScIs w' si m g (x.fin 2) f∧Only [g] w1 w'):=hid fun w1 hb=>SArg_z si m g x f hd ha w1 (hs.only (Only.of_below hb []) (by simp) (by simp)) (cell_bel hb hsi)
 have DZ:Hid (∀w1 w2,Below w.heap.size w w1→Only [g] w1 w2→Calls Tryz.prog 117 #[ptrV m] w2 fun e w'=>e= .returned (.tuple #[.int .u64 (didV M.st),.int .u64 M.st.b])∧Below w2.heap.size w2 w'):=hid fun w1 w2 hb ho=>SDid_z m B M w2 ((hm.only (Only.of_below hb []) (by simp)).only ho (fun z hz hc=>by rw[List.mem_singleton] at hc;exact hgm (hc▸hz)))
 have b9:(M.st.b==M.st.b)=true:=by simp
 have b8:decide (IntKind.u64.wrap (didV M.st-didV M.st)≤1)=true:=decide_eq_true (by rw[Int.sub_self,IntKind.wrap_u64];omega)
 clear hd ha hm hgm hs hsi
 unfold outS at SZ
 go_enter Tryz.func63,Tryz.ntmps63
 go_wp2_with fail
 refine D1.out.mono ?_
 rintro e w1 ⟨rfl,hb1⟩
 have S1:=hid (SZ.out w1 hb1)
 have HB1:=hid hb1
 clear hb1 SZ D1
 go_wp2_with fail
 refine S1.out.mono ?_
 rintro e w2 ⟨rfl,hI,ho⟩
 have D2:=hid (DZ.out w1 w2 HB1.out ho)
 have H2:=hid (⟨hI,ho⟩:_∧_)
 clear hI ho S1 DZ
 go_wp2_with fail
 refine D2.out.mono ?_
 rintro e w3 ⟨rfl,hb3⟩
 have HB3:=hid hb3
 clear hb3 D2
 go_wp2_with fail
 go_ret2
 exact⟨rfl,H2.out.1.only (Only.of_below HB3.out []) (by simp) (by simp),w1,w2,HB1.out,H2.out.2,HB3.out⟩
theorem SLArgs_z (L:Nat) (hL:0<L) (hL2:L<4611686018427387904) (si m g:Nat) (B:MB) (M:MemS) (x:ScP) (f:List Nat) (hd:x.done=false) (ha:x.limit<1∨256<x.limit∨x.hi<x.lo) (w:World) (hm:MemIs w m B M) (hgm:g∉footM m B M) (hs:ScIs w si m g x f) (hsi:w.cell? ⟨si,0,none⟩=some (ptrV m)) (hgs:g≠si):
  Calls Tryz.prog 30 #[ptrV m,ptrV g,.int .i64 (L:Int)] w fun e w'=>e= .returned (.bool true)∧ScIs w' si m g (x.fin 2) f∧ ∃w1 w2,Below w.heap.size w w1∧Only [g] w1 w2∧Below w2.heap.size w2 w':=by
 have SZ:=hid (SLArg_z si m g B M x f hd ha w hm hgm hs hsi hgs)
 have i1:((0:Nat):Int)< (L:Int):=by omega
 clear hd ha hm hgm hs hsi
 go_enter Tryz.func30,Tryz.ntmps30
 go_wp2
 go_loopw [7] (fun i wr=>i= .int .i64 ((0:Nat):Int)∧wr=w) (fun i _=>0)
 case atStart=>exact⟨rfl,rfl⟩
 case round=>
  obtain⟨rfl,rfl⟩:=hrel
  go_wp2_with fail
  refine SZ.out.mono ?_
  rintro e w2 ⟨rfl,hI⟩
  have H2:=hid hI
  clear hI SZ
  go_wp2_with fail
  go_ret
  exact⟨rfl,H2.out⟩
theorem respP_ldS {w:World} {b:Nat} {c:Int} {s:ByteArray} {v:Value} (h:Blk w b 41 (respP c s v)):ldR Tryz.prog 41 (.pointer (some ⟨b,0,none⟩)) w= .ok (.agg (respP c s v)) w:=h.ld Tryz.underlying41 rfl (by kernel_rfl)
def ansB (lo hi lim:Int) (ks:List Nat):List (Int×ByteArray):=if boundsErr lo hi lim=0 then ansS ks lo hi lim.toNat else[]
structure FinS (rc:Int) (ps:List (Int×ByteArray)) (x:ScP):Prop where
 done:x.done=true
 e:x.e=rc
 tries:x.tries=0
 pairs:rc=0→x.pairs=ps
theorem scan_ans (lo hi lim:Int) (ks:List Nat):scanL lo hi lim (prK ks)=ansS ks lo hi lim.toNat:=by
 unfold scanL ansS
 rw[←ents_pr,List.filter_map,List.map_take]
 rfl
section
variable {N0:Nat} {W0:World} {x:La} {xs:List Int} {wb g b nb:Nat} {R:AR} {lv:Value} {rows:List (List (Nat×NodeA))} {K si m:Nat} {MB:MB}
theorem WorIs.fin (h:WorIs N0 W0 x xs wb g b nb R lv rows K si m MB) {M:MemS} {W:World} (hw:ScWd W0 si m MB (wordsOf R.bs) M W) (p:Nat) (hp0:0<p) (hp:p≤1000) {c lo hi lim:Int} (hc:0≤c∧c≤64) (hlo:0≤lo) (hhi:hi<18446744073709551616)
  {sg:Nat} {f:List Nat} (ha:ScAt W0 si m MB M sg (scNew c lo hi lim) f W) (hl:W0.heap.size≤W.heap.size):
  Calls Tryz.prog 30 #[ptrV m,ptrV sg,.int .i64 ((nK (risKeys xs) x.per.toNat x.lag.toNat 0*(70*tK (risKeys xs) x.per.toNat x.lag.toNat (K+1)+40)+17*p:Nat):Int)] W fun e w'=> ∃x' M' f',e= .returned (.bool true)∧FinS (boundsErr lo hi lim) (ansB lo hi lim (risKeys xs)) x'∧ScWd W0 si m MB (wordsOf R.bs) M' w'∧ScAt W0 si m MB M' sg x' f' w'∧W.heap.size≤w'.heap.size:=by
 by_cases hb:boundsErr lo hi lim=0
 ·obtain⟨b1,b2,b3⟩:=bounds_ok hb
  refine(h.done hw p hp hc hlo hhi b2 b3 b1 ha hl).mono ?_
  rintro e w' ⟨x',M',f',rfl,h1,h2,h3,_,h5⟩
  exact⟨x',M',f',rfl,⟨h1.done,by rw[hb];exact h1.e,h1.tries,fun _=>by unfold ansB;rw[if_pos hb];exact h1.pairs⟩,h2,h3,h5⟩
 ·have h2:=boundsErr_two hb
  have hbad:lim<1∨256<lim∨hi<lo:=by
   unfold boundsErr at hb
   split at hb<;>omega
  have hi:=hw.inn ha
  obtain⟨n1,n2,n3,n4⟩:=h.few
  have hn0:nK (risKeys xs) x.per.toNat x.lag.toNat 0≤tK (risKeys xs) x.per.toNat x.lag.toNat (K+1):=by
   have h1:=stk_le (risKeys xs) x.per.toNat x.lag.toNat (show 0+1≤K+1 by omega)
   rw[tK_succ] at h1
   omega
  have hb1:nK (risKeys xs) x.per.toNat x.lag.toNat 0*(70*tK (risKeys xs) x.per.toNat x.lag.toNat (K+1)+40)≤80*5640:=Nat.mul_le_mul (by omega) (by omega)
  have hgs:sg≠si:=fun e=>ha.sin (by simp[e])
  refine(SLArgs_z _ (by omega) (by omega) si m sg MB M (scNew c lo _ lim) f rfl hbad W hw.mem.is hi.gm ha.is hw.sc hgs).mono ?_
  rintro e w' ⟨rfl,hI,w1,w2,q1,q2,q3⟩
  have hO:Only [sg] W w':=((Only.of_below q1 [sg]).trans q2 (fun y hy=>Or.inl hy)).trans (Only.of_below q3 [sg]) (fun y hy=>Or.inl hy)
  have far: ∀z∈footM m MB M,z∉ [sg]:=fun z hz hc=>by
   rw[List.mem_singleton] at hc
   exact hi.gm (hc▸hz)
  obtain⟨ks,k1,k2⟩:=hw.since
  refine⟨_,M,f,rfl,⟨rfl,h2.symm,rfl,fun h=>absurd h (by rw[h2];decide)⟩,⟨hw.mem.only hO far,hw.st,(hO.cell (p:=⟨si,0,none⟩) (World.block_lt_of_cell? _ _ hw.sc) (by simp;exact fun e=>hgs e.symm)).trans hw.sc,hw.sim,hw.view,hw.quiet,hw.foot,ks++[sg],fun k hk=> ?_,(k2.mono (fun y hy=>by simp[hy])).trans hO (fun y hy=>Or.inl (by simp at hy;simp[hy]))⟩,⟨hI,ha.far,ha.sin,ha.lo⟩,hO.size⟩
  rcases List.mem_append.1 hk with h1 | h1
  ·exact k1 k h1
  ·exact Or.inl (ha.lo k (by rw[List.mem_singleton] at h1;simp[h1]))
end
theorem SRespF_z (si m g:Nat) (x:ScP) (f:List Nat) {rc:Int} {ps:List (Int×ByteArray)} (h:FinS rc ps x) (h0:rc≠0→ps=[]) (hl:ps.length≤1000000) (w:World) (hs:ScIs w si m g x f):
  Calls Tryz.prog 32 #[ptrV g] w fun e w'=> ∃a c,e= .returned (.agg (respP rc { data:= #[] } (.slice a ps.length c)))∧w'.ownsRow w.heap.size 96 2 (.slice a ps.length c) ps.length (pc ps)∧Below w.heap.size w w':=by
 by_cases hr:rc=0
 ·have hp:=h.pairs hr
  subst hr
  refine(SResp_z si m g x f h.done h.e (by rw[hp];exact hl) w hs).mono ?_
  rintro e w' ⟨v,rfl,h1,h2⟩
  rw[hp] at h1
  obtain⟨a,c,rfl⟩:=row_form1 h1
  exact⟨a,c,rfl,h1,h2⟩
 ·have hp:=h0 hr
  subst hp
  refine(SResp_err si m g x f h.done (by rw[h.e];exact hr) w hs).mono ?_
  rintro e w' ⟨rfl,h2⟩
  rw[h.e]
  exact⟨none,0,rfl,World.ownsRow_nil _ _ _ _,h2⟩
end Go.Proofs.YtjmaicckkkdjpaaGreat
