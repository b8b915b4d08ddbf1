import Derived.Test.YtjmaicckkkdjpaaGreatS30
set_option maxRecDepth 100000
set_option maxHeartbeats 8000000
set_option linter.unusedVariables false
set_option linter.unusedSimpArgs false
/- The law's small world of three keys. -/
namespace Go.Proofs.YtjmaicckkkdjpaaGreat
open Go.RowKit
theorem bldT_stop:((AR.new 3).vals [3,5,7] 3).1.lvStop 2 0 ((AR.new 3).vals [3,5,7] 3).2 1:=Or.inl (by
 have h:(((((AR.new 3).vals [3,5,7] 3).1.lvls 2 0 ((AR.new 3).vals [3,5,7] 3).2 1).1.levelRow 1 2 ((((AR.new 3).vals [3,5,7] 3).1.lvls 2 0 ((AR.new 3).vals [3,5,7] 3).2 1).2.2)).length==1)=true:=by kernel_rfl
 simpa using h)
theorem bld_three: ¬BldNo 3 [3,5,7] 2 0:=by
 have h0:(AR.new 3).valsRoomy [3,5,7] 3:=fun i hi=>by
  rcases(by omega:i=0∨i=1∨i=2) with rfl | rfl | rfl
  ·have h:((((AR.new 3).vals [3,5,7] 0).1.newValue.2==0):Bool)=false:=by kernel_rfl
   simpa using h
  ·have h:((((AR.new 3).vals [3,5,7] 1).1.newValue.2==0):Bool)=false:=by kernel_rfl
   simpa using h
  ·have h:((((AR.new 3).vals [3,5,7] 2).1.newValue.2==0):Bool)=false:=by kernel_rfl
   simpa using h
 have h1:((AR.new 3).vals [3,5,7] 3).1.lvRoom 2 0 ((AR.new 3).vals [3,5,7] 3).2 0:=fun k hk=>by
  have hn:nRounds 2 ((((AR.new 3).vals [3,5,7] 3).1.lvls 2 0 ((AR.new 3).vals [3,5,7] 3).2 0).2.2)=2:=by kernel_rfl
  rw[hn] at hk
  rcases(by omega:k=0∨k=1) with rfl | rfl
  ·have h:((((((AR.new 3).vals [3,5,7] 3).1.lvls 2 0 ((AR.new 3).vals [3,5,7] 3).2 0).1.rounds 0 2 ((((AR.new 3).vals [3,5,7] 3).1.lvls 2 0 ((AR.new 3).vals [3,5,7] 3).2 0).2.2) 0).1.newNode.2==0):Bool)=false:=by kernel_rfl
   simpa using h
  ·have h:((((((AR.new 3).vals [3,5,7] 3).1.lvls 2 0 ((AR.new 3).vals [3,5,7] 3).2 0).1.rounds 0 2 ((((AR.new 3).vals [3,5,7] 3).1.lvls 2 0 ((AR.new 3).vals [3,5,7] 3).2 0).2.2) 1).1.newNode.2==0):Bool)=false:=by kernel_rfl
   simpa using h
 have h2:((AR.new 3).vals [3,5,7] 3).1.lvRoom 2 0 ((AR.new 3).vals [3,5,7] 3).2 1:=fun k hk=>by
  have hn:nRounds 2 ((((AR.new 3).vals [3,5,7] 3).1.lvls 2 0 ((AR.new 3).vals [3,5,7] 3).2 1).2.2)=1:=by kernel_rfl
  rw[hn] at hk
  obtain rfl:k=0:=by omega
  have h:((((((AR.new 3).vals [3,5,7] 3).1.lvls 2 0 ((AR.new 3).vals [3,5,7] 3).2 1).1.rounds 1 2 ((((AR.new 3).vals [3,5,7] 3).1.lvls 2 0 ((AR.new 3).vals [3,5,7] 3).2 1).2.2) 0).1.newNode.2==0):Bool)=false:=by kernel_rfl
  simpa using h
 rintro(h | ⟨k,h3,h4⟩)
 ·exact h h0
 ·rcases k with _ | _ | k
  ·exact h4 h1
  ·exact h4 h2
  ·exact h3 1 (by omega) bldT_stop
theorem ris357:risKeys [3,5,7]=[3,5,7]:=by kernel_rfl
theorem ans0:ansS [3,5,7] 0 9 5=[(3,strOfNums [51]),(5,strOfNums [53]),(7,strOfNums [55])]:=by kernel_rfl
theorem ans1:ansS [3,5,7] 5 9 1=[(5,strOfNums [53])]:=by kernel_rfl
theorem ans2:ansS [3,5,7] 6 6 1=[]:=by kernel_rfl
theorem WorIs.bound {N0:Nat} {W X:World} {x:La} {xs:List Int} {wb g b nb:Nat} {R:AR} {lv:Value} {rows:List (List (Nat×NodeA))} {K si m:Nat} {MB:MB} (h:WorIs N0 W x xs wb g b nb R lv rows K si m MB) (p:Nat) (hp:p≤1000) (hB: ∃sp,Blk X wb 92 #[ptrV g,ptrV si,ptrV m,sp]) (hA:ArIs X g b nb R lv) {N:Nat} (hL:LvsA X N lv rows):
  Calls Tryz.prog 31 #[ptrV wb,.int .i64 (p:Int)] X fun e w'=>e= .returned (.int .i64 ((nK (risKeys xs) x.per.toNat x.lag.toNat 0*(70*tK (risKeys xs) x.per.toNat x.lag.toNat (K+1)+40)+17*p:Nat):Int))∧w'=X:=by
 obtain⟨sp,hB⟩:=hB
 obtain⟨n1,n2,n3,n4⟩:=h.few
 have hr0:rows[0]?=some (rowK (uN (risKeys xs)) x.per.toNat x.lag.toNat (ents0 (risKeys xs)) 0):=by rw[h.rws,List.getElem?_map,List.getElem?_range (by omega)];rfl
 have:=SLBound_z p hp _ wb g b nb N R lv (ptrV si) (ptrV m) sp rows hr0 (by rw[n1];omega) X hB hA hL n3 n4
 rw[n1] at this
 have e:(rowK (uN (risKeys xs)) x.per.toNat x.lag.toNat (ents0 (risKeys xs)) 0).length=nK (risKeys xs) x.per.toNat x.lag.toNat 0:=by unfold rowK;exact rowS_len _ _ _ _ _
 rw[e] at this
 exact this
theorem WorIs.whole {N0:Nat} {W X:World} {x:La} {xs:List Int} {wb g b nb:Nat} {R:AR} {lv:Value} {rows:List (List (Nat×NodeA))} {K si m:Nat} {MB:MB} (h:WorIs N0 W x xs wb g b nb R lv rows K si m MB) (p:Nat) (hp:p≤1000) {c lo hi limit:Int} (hc:0≤c∧c≤64) (hlo:0≤lo) (hhi:hi<18446744073709551616) (hl1:1≤limit) (hl2:limit≤256) (hle:lo≤hi)
  (sg:Nat) (M:MemS) (f:List Nat) (hV:M.view=wordsOf R.bs) (hin:WkIn X si m sg MB M 0 f) (hs:ScIs X si m sg (scNew c lo hi limit) f):
  Calls Tryz.prog 30 #[ptrV m,ptrV sg,.int .i64 ((nK (risKeys xs) x.per.toNat x.lag.toNat 0*(70*tK (risKeys xs) x.per.toNat x.lag.toNat (K+1)+40)+17*p:Nat):Int)] X fun e w'=> ∃x' M' f',e= .returned (.bool true)∧ScAll (ScEnd (risKeys xs) lo hi limit) (wordsOf R.bs) si m sg MB 0 M f X x' M' f' w':=by
 obtain⟨n1,n2,n3,n4⟩:=h.few
 have hn0:nK (risKeys xs) x.per.toNat x.lag.toNat 0≤tK (risKeys xs) x.per.toNat x.lag.toNat (K+1):=by
  have h1:=stk_le (risKeys xs) x.per.toNat x.lag.toNat (show 0+1≤K+1 by omega)
  rw[tK_succ] at h1
  omega
 have hb1:nK (risKeys xs) x.per.toNat x.lag.toNat 0*(70*tK (risKeys xs) x.per.toNat x.lag.toNat (K+1)+40)≤80*5640:=Nat.mul_le_mul (by omega) (by omega)
 exact SWhole_z h.built hc hlo hhi hl1 hl2 hle _ (by omega) (Nat.le_trans (Nat.mul_le_mul (Nat.le_refl _) (by show 45*_+39≤_;omega)) (Nat.le_add_right _ _)) si m sg MB M 0 f hV X hin hs
end Go.Proofs.YtjmaicckkkdjpaaGreat
/- Scans side by side over the law's world. -/
namespace Go.Proofs.YtjmaicckkkdjpaaGreat
open Go.RowKit
structure ScWd (W0:World) (si m:Nat) (MB:MB) (V:List Int) (M:MemS) (W:World):Prop where
 mem:Mems W m MB M 0
 st:St64 M.st
 sc:W.cell? ⟨si,0,none⟩=some (ptrV m)
 sim:si∉footM m MB M
 view:M.view=V
 foot: ∀k∈footM m MB M,W0.heap.size≤k∨k∈footM m MB (freshM V)
 since: ∃ks,(∀k∈ks,W0.heap.size≤k∨k∈footM m MB (freshM V))∧Only ks W0 W
structure ScAt (W0:World) (si m:Nat) (MB:MB) (M:MemS) (sg:Nat) (x:ScP) (f:List Nat) (W:World):Prop where
 is:ScIs W si m sg x f
 far: ∀z∈sg::f,z∉footM m MB M
 sin:si∉sg::f
 lo: ∀z∈sg::f,W0.heap.size≤z
theorem ScWd.bel {W0 W W':World} {si m:Nat} {MB:MB} {V:List Int} {M:MemS} (h:ScWd W0 si m MB V M W) (hb:Below W.heap.size W W'):ScWd W0 si m MB V M W':=by
 obtain⟨ks,h1,h2⟩:=h.since
 exact⟨h.mem.only (Only.of_below hb []) (by simp),h.st,cell_bel hb h.sc,h.sim,h.view,h.foot,ks,h1,h2.trans (Only.of_below hb []) (by simp)⟩
theorem ScAt.bel {W0 W W':World} {si m:Nat} {MB:MB} {M:MemS} {sg:Nat} {x:ScP} {f:List Nat} (h:ScAt W0 si m MB M sg x f W) (hb:Below W.heap.size W W'):ScAt W0 si m MB M sg x f W':=⟨h.is.only (Only.of_below hb []) (by simp) (by simp),h.far,h.sin,h.lo⟩
theorem ScWd.inn {W0 W:World} {si m:Nat} {MB:MB} {V:List Int} {M:MemS} (h:ScWd W0 si m MB V M W) {sg:Nat} {x:ScP} {f:List Nat} (ha:ScAt W0 si m MB M sg x f W):WkIn W si m sg MB M 0 f:=
 ⟨h.mem,h.st,by omega,h.sc,World.block_lt_of_cell? _ _ h.sc,fun e=>ha.sin (by simp[e]),fun e=>ha.sin (by simp[e]),h.sim,ha.far _ (by simp),fun y hy=>ha.far y (by simp[hy])⟩
def ScBy (W0:World) (si m:Nat) (MB:MB) (M M':MemS) (sg:Nat) (f f':List Nat) (W w':World):Prop:=
 ∀sg2 x2 f2,ScAt W0 si m MB M sg2 x2 f2 W→(∀z∈sg2::f2,z∉sg::f)→ScAt W0 si m MB M' sg2 x2 f2 w'∧ ∀z∈sg2::f2,z∉sg::f'
section
variable {N0:Nat} {W0:World} {x:La} {xs:List Int} {wb g b nb:Nat} {R:AR} {lv:Value} {rows:List (List (Nat×NodeA))} {K si m:Nat} {MB:MB}
theorem WorIs.start (h:WorIs N0 W0 x xs wb g b nb R lv rows K si m MB):ScWd W0 si m MB (wordsOf R.bs) (freshM (wordsOf R.bs)) W0:=by
 have hi:=h.inn (Below.refl _ _) (gp:=W0.heap.size) (f:=[]) (Nat.le_refl _) (by simp)
 exact⟨hi.mem,hi.st,hi.sc,hi.sim,rfl,fun k hk=>Or.inr hk,[],by simp,Only.refl _ _⟩
theorem WorIs.now (h:WorIs N0 W0 x xs wb g b nb R lv rows K si m MB) {M:MemS} {W:World} (hw:ScWd W0 si m MB (wordsOf R.bs) M W):(∃sp,Blk W wb 92 #[ptrV g,ptrV si,ptrV m,sp])∧ArIs W g b nb R lv∧Below N0 W0 W∧ ∃N,LvsA W N lv rows:=by
 obtain⟨ks,h1,h2⟩:=hw.since
 exact h.after (Below.refl _ _) h1 h2
theorem WorIs.boundAt (h:WorIs N0 W0 x xs wb g b nb R lv rows K si m MB) {M:MemS} {W:World} (hw:ScWd W0 si m MB (wordsOf R.bs) M W) (p:Nat) (hp:p≤1000):
  Calls Tryz.prog 31 #[ptrV wb,.int .i64 (p:Int)] W fun e w'=>e= .returned (.int .i64 ((nK (risKeys xs) x.per.toNat x.lag.toNat 0*(70*tK (risKeys xs) x.per.toNat x.lag.toNat (K+1)+40)+17*p:Nat):Int))∧w'=W:=by
 obtain⟨h1,h2,_,N,h3⟩:=h.now hw
 exact h.bound p hp h1 h2 h3
theorem ScWd.new {V:List Int} {M:MemS} {W:World} (hw:ScWd W0 si m MB V M W) (hl:W0.heap.size≤W.heap.size) (c lo hi limit:Int):
  Calls Tryz.prog 29 #[ptrV si,.int .i64 c,.int .u64 lo,.int .u64 hi,.int .i64 limit] W fun e w'=> ∃sg f,e= .returned (ptrV sg)∧ScWd W0 si m MB V M w'∧ScAt W0 si m MB M sg (scNew c lo hi limit) f w'∧(∀z∈sg::f,W.heap.size≤z)∧Below W.heap.size W w':=by
 refine(ScNew_z si m c lo hi limit W).mono ?_
 rintro e w' ⟨sg,f,rfl,h1,h2,h3,h4⟩
 have hz: ∀z∈sg::f,W.heap.size≤z:=fun z hz=>(List.mem_cons.1 hz).elim (fun e=>e▸h1) (h3 z)
 have hs:=World.block_lt_of_cell? _ _ hw.sc
 refine⟨sg,f,rfl,hw.bel h4,⟨h2,fun z hq hc=> ?_,fun hc=> ?_,fun z hq=>Nat.le_trans hl (hz z hq)⟩,hz,h4⟩
 ·have:=hw.mem.is.foot_lt z hc;have:=hz z hq;omega
 ·have h9:=hz si hc;have hs:si<W.heap.size:=hs;omega
theorem WorIs.done (h:WorIs N0 W0 x xs wb g b nb R lv rows K si m MB) {M:MemS} {W:World} (hw:ScWd W0 si m MB (wordsOf R.bs) M W) (p:Nat) (hp:p≤1000) {c lo hi limit:Int} (hc:0≤c∧c≤64) (hlo:0≤lo) (hhi:hi<18446744073709551616) (hl1:1≤limit) (hl2:limit≤256) (hle:lo≤hi)
  {sg:Nat} {f:List Nat} (ha:ScAt W0 si m MB M sg (scNew c lo hi limit) f W) (hl:W0.heap.size≤W.heap.size):
  Calls Tryz.prog 30 #[ptrV m,ptrV sg,.int .i64 ((nK (risKeys xs) x.per.toNat x.lag.toNat 0*(70*tK (risKeys xs) x.per.toNat x.lag.toNat (K+1)+40)+17*p:Nat):Int)] W fun e w'=> ∃x' M' f',e= .returned (.bool true)∧ScEnd (risKeys xs) lo hi limit x'∧ScWd W0 si m MB (wordsOf R.bs) M' w'∧ScAt W0 si m MB M' sg x' f' w'∧ScBy W0 si m MB M M' sg f f' W w'∧W.heap.size≤w'.heap.size:=by
 refine(h.whole p hp hc hlo hhi hl1 hl2 hle sg M f hw.view (hw.inn ha) ha.is).mono ?_
 rintro e w' ⟨x',M',f',rfl,hA⟩
 obtain⟨ks,k1,k2⟩:=hw.since
 have hft: ∀k∈footM m MB M',W0.heap.size≤k∨k∈footM m MB (freshM (wordsOf R.bs)):=fun k hk=>(hA.foot k hk).elim (hw.foot k) (fun h=>Or.inl (Nat.le_trans hl h))
 have hlf: ∀z∈sg::f',W0.heap.size≤z:=fun z hz=>(List.mem_cons.1 hz).elim (fun e=>ha.lo z (by simp[e])) (fun hz=>(hA.fresh z hz).elim (fun h=>ha.lo z (by simp[h])) (fun h=>Nat.le_trans hl h))
 refine⟨x',M',f',rfl,hA.fin,⟨hA.inn.mem,hA.inn.st,hA.inn.sc,hA.inn.sim,hA.view,hft,ks++(sg::f++footM m MB M),fun k hk=> ?_,(k2.mono (fun y hy=>by simp[hy])).trans hA.only (fun y hy=>Or.inl (List.mem_append_right _ hy))⟩,⟨hA.is,fun z hz=> ?_,fun hz=> ?_,hlf⟩,fun sg2 x2 f2 h2 hd=> ?_,hA.only.size⟩
 ·rcases List.mem_append.1 hk with h1 | h1
  ·exact k1 k h1
  ·rcases List.mem_append.1 h1 with h1 | h1
   ·exact Or.inl (ha.lo k h1)
   ·exact hw.foot k h1
 ·rcases List.mem_cons.1 hz with rfl | hz
  ·exact hA.inn.gm
  ·exact hA.inn.fm z hz
 ·rcases List.mem_cons.1 hz with hz | hz
  ·exact hA.inn.sig hz
  ·exact hA.inn.sif hz
 ·have zl: ∀z∈sg2::f2,z<W.heap.size:=fun z hz=>(List.mem_cons.1 hz).elim (fun e=>e▸h2.is.lt.1) (h2.is.lt.2 z)
  have no: ∀z∈sg2::f2,z∉sg::f++footM m MB M:=fun z hz hc=>(List.mem_append.1 hc).elim (hd z hz) (h2.far z hz)
  refine⟨⟨h2.is.only hA.only (no _ (by simp)) (fun z hz=>no z (by simp[hz])),fun z hz hc=> ?_,h2.sin,h2.lo⟩,fun z hz hc=> ?_⟩
  ·rcases hA.foot z hc with h1 | h1
   ·exact h2.far z hz h1
   ·have:=zl z hz;omega
  ·rcases List.mem_cons.1 hc with e | hc
   ·exact hd z hz (by simp[e])
   ·rcases hA.fresh z hc with h1 | h1
    ·exact hd z hz (by simp[h1])
    ·have:=zl z hz;omega
end
end Go.Proofs.YtjmaicckkkdjpaaGreat
/- The chapter's rows of scans. -/
namespace Go.Proofs.YtjmaicckkkdjpaaGreat
open Go.RowKit
theorem fldP (c:Int) (s:ByteArray) (a:Option Addr) (n k:Nat) (W:World):(Instr.field 41 (.agg (respP c s (.slice a n k))) 2).run Tryz.prog W= .ok (.slice a n k) W:=by kernel_rfl
attribute [local go_sem] fldP
theorem pq1:pairsEq [(3,strOfNums [51]),(5,strOfNums [53]),(7,strOfNums [55])] [(3,{ data:= #[51] }),(5,{ data:= #[53] }),(7,{ data:= #[55] })]=true:=by kernel_rfl
theorem pq2:pairsEq [(5,strOfNums [53])] [(5,{ data:= #[53] })]=true:=by kernel_rfl
theorem sm0:((0:Int)==0&& (strBQ { data:= #[] } { data:= #[] }&&pairsEq [] []))=true:=by kernel_rfl
structure Tri (W0:World) (si m:Nat) (MB:MB) (M:MemS) (ga gb gc:Nat) (xa xb xc:ScP) (fa fb fc:List Nat) (W:World):Prop where
 a:ScAt W0 si m MB M ga xa fa W
 b:ScAt W0 si m MB M gb xb fb W
 c:ScAt W0 si m MB M gc xc fc W
 ba: ∀z∈gb::fb,z∉ga::fa
 ca: ∀z∈gc::fc,z∉ga::fa
 cb: ∀z∈gc::fc,z∉gb::fb
theorem Known21_z (w:World):Calls Tryz.prog 28 #[] w fun e w'=>e= .returned (.bool true)∧Below w.heap.size w w':=by
 obtain⟨W1,hW1⟩: ∃W1,W1=w.alloc (.cells #[.int .u64 3,.int .u64 5,.int .u64 7] 25):=⟨_,rfl⟩
 have hb1:Below w.heap.size w W1:=by rw[hW1];exact ba (Below.refl _ _) _
 have k1:Blk W1 w.heap.size 25 #[.int .u64 3,.int .u64 5,.int .u64 7]:=by rw[hW1];exact Blk.new _ _ _
 have hn:NumsAt .u64 W1 (.slice (some ⟨w.heap.size,0,none⟩) 3 3) [3,5,7]:=⟨_,3,rfl,Or.inr ⟨w.heap.size,0,rfl,k1.lt,fun i x hx=>by
  match i,hx with
  | 0,hx=>injection hx with hx;rw[←hx];exact k1.cell 0
  | 1,hx=>injection hx with hx;rw[←hx];exact k1.cell 1
  | 2,hx=>injection hx with hx;rw[←hx];exact k1.cell 2⟩⟩
 have BZ:Calls Tryz.prog 27 #[.agg #[.int .i64 3,.slice (some ⟨w.heap.size,0,none⟩) 3 3,.int .i64 2,.int .i64 0]] W1 fun e w'=>BgPs W1 ⟨3,2,0⟩ [3,5,7] e w':=SBegin_z ⟨3,2,0⟩ _ [3,5,7] (fun y hy=>by simp at hy;rcases hy with rfl | rfl | rfl<;>(unfold U64;omega)) (by simp) (by show I64 3∧I64 2∧I64 0;unfold I64;omega) W1 hn
 have BZ:=hid BZ
 have HW1:=hid hW1
 have HB1:=hid hb1
 clear hW1 hb1 k1 hn
 go_enter Tryz.func28,Tryz.ntmps28
 go_wp2_with fail
 rw[show _=W1 from HW1.out.symm]
 refine BZ.out.mono ?_
 rintro e w2 ⟨hb2,(⟨_,hno⟩ | ⟨wb,g,b,nb,R,lv,rows,K,si,m,MB,rfl,hW⟩)⟩
 ·exact absurd ⟨⟨by decide,by decide,by decide,by decide,by decide,by decide,by decide⟩,by rw[ris357];exact bld_three⟩ hno
 have HB2:=hid (bx HB1.out hb2)
 have HW:=hid hW
 obtain⟨V,hV⟩: ∃V,V=wordsOf R.bs:=⟨_,rfl⟩
 have hS0:=hW.start
 rw[←hV] at hS0
 have c1:w2.cell? ⟨wb,1,none⟩=some (ptrV si):=by obtain⟨_,_,_,_,_,_,hO,_⟩:=hW.ov;exact hO.blk.cell 1
 have HSX:Hid (∀X,Below w2.heap.size w2 X→ScWd w2 si m MB V (freshM V) X):=hid fun X hb=>hS0.bel hb
 have NN:Hid (∀(lo hi limit:Int) X,Below w2.heap.size w2 X→Calls Tryz.prog 29 #[ptrV si,.int .i64 0,.int .u64 lo,.int .u64 hi,.int .i64 limit] X fun e w'=> ∃sg f,e= .returned (ptrV sg)∧ScAt w2 si m MB (freshM V) sg (scNew 0 lo hi limit) f w'∧(∀z∈sg::f,X.heap.size≤z)∧Below X.heap.size X w'):=hid fun lo hi limit X hb=>((HSX.out X hb).new hb.size 0 lo hi limit).mono (by
  rintro e w' ⟨sg,f,h1,_,h2,h3,h4⟩
  exact⟨sg,f,h1,h2,h3,h4⟩)
 have HV:=hid hV
 clear hb2 hW hV hS0 BZ
 go_upto_region 4 with fail
 go_cut [2,3,4] from 12 to 26 (fun va vb vc wd=> ∃ga gb gc:Nat,va=ptrV ga∧vb=ptrV gb∧vc=ptrV gc∧Hid (Below w2.heap.size w2 wd∧ ∃fa fb fc,Tri w2 si m MB (freshM V) ga gb gc (scNew 0 0 9 5) (scNew 0 5 9 1) (scNew 0 6 6 1) fa fb fc wd))
 case first=>
  go_region_held3 (fun X=>X.cell? ⟨wb,1,none⟩=some (ptrV si)) (go_keep) (first
   | (have HX:=HB;go_at_call 29;refine(NN.out 6 6 1 _ (by first | exact HB.out.2.2)).mono ?_;rintro e v3 ⟨gc,fc,rfl,p1,p2,p3⟩;have d3:v3.cell? ⟨wb,1,none⟩=some (ptrV si):=cell_bel p3 d2;have HC:=hid (⟨p1,p2,p3⟩:_∧_∧_);clear p1 p2 p3 HX)
   | (have HX:=HA;go_at_call 29;refine(NN.out 5 9 1 _ (by first | exact HA.out.2.2)).mono ?_;rintro e v2 ⟨gb,fb,rfl,p1,p2,p3⟩;have d2:v2.cell? ⟨wb,1,none⟩=some (ptrV si):=cell_bel p3 d1;have HB:=hid (⟨p1,(⟨p2,p3⟩:_∧_),bx HA.out.2.2 p3⟩:_∧_∧_);clear p1 p2 p3 HX)
   | (go_at_call 29;refine(NN.out 0 9 5 _ (by first | exact Below.refl _ _ | exact(Below.refl _ _).drew)).mono ?_;rintro e v1 ⟨ga,fa,rfl,p1,p2,p3⟩;have d1:v1.cell? ⟨wb,1,none⟩=some (ptrV si):=cell_bel p3 c1;have HA:=hid (⟨p1,p2,(by first | exact bx (Below.refl _ _) p3 | exact bx (Below.refl _ _).drew p3)⟩:_∧_∧Below w2.heap.size w2 v1);clear p1 p2 p3))
  all_goals
   go_wp2
   go_meet
   refine⟨ga,gb,gc,rfl,rfl,rfl,hid ⟨bx HB.out.2.2 HC.out.2.2,fa,fb,fc,?_⟩⟩
   have hla:=HA.out.1.is.lt
   have hlb:=HB.out.1.is.lt
   have s1:=HB.out.2.1.2.size
   have la: ∀z∈ga::fa,z<v1.heap.size:=fun z hz=>(List.mem_cons.1 hz).elim (fun e=>e▸hla.1) (hla.2 z)
   have lb: ∀z∈gb::fb,z<v2.heap.size:=fun z hz=>(List.mem_cons.1 hz).elim (fun e=>e▸hlb.1) (hlb.2 z)
   refine⟨(HA.out.1.bel HB.out.2.1.2).bel HC.out.2.2,HB.out.1.bel HC.out.2.2,HC.out.1,fun z hz hc=> ?_,fun z hz hc=> ?_,fun z hz hc=> ?_⟩
   ·have:=HB.out.2.1.1 z hz;have:=la z hc;omega
   ·have:=HC.out.2.1 z hz;have:=la z hc;omega
   ·have:=HC.out.2.1 z hz;have:=lb z hc;omega
 case rest=>
  obtain⟨ga,gb,gc,rfl,rfl,rfl,hT⟩:=hcut
  obtain⟨L,hL⟩: ∃L:Nat,L=(nK (risKeys [3,5,7]) (La.per ⟨3,2,0⟩).toNat (La.lag ⟨3,2,0⟩).toNat 0*(70*tK (risKeys [3,5,7]) (La.per ⟨3,2,0⟩).toNat (La.lag ⟨3,2,0⟩).toNat (K+1)+40)+17*5):=⟨_,rfl⟩
  have KBo:Hid (∀M W,ScWd w2 si m MB V M W→Calls Tryz.prog 31 #[ptrV wb,.int .i64 5] W fun e w'=>e= .returned (.int .i64 (L:Int))∧w'=W):=hid fun M W h=>by
   rw[HV.out] at h
   have:=HW.out.boundAt h 5 (by omega)
   rw[←hL] at this
   exact this
  have KCc:Hid (∀M W,ScWd w2 si m MB V M W→W.cell? ⟨wb,2,none⟩=some (ptrV m)):=hid fun M W h=>by
   rw[HV.out] at h
   obtain⟨⟨sp,h1⟩,_⟩:=HW.out.now h
   exact h1.cell 2
  have KD:Hid (∀(lo hi limit:Int),(0≤lo∧hi<18446744073709551616∧1≤limit∧limit≤256∧lo≤hi)→ ∀M W sg f,ScWd w2 si m MB V M W→ScAt w2 si m MB M sg (scNew 0 lo hi limit) f W→w2.heap.size≤W.heap.size→Calls Tryz.prog 30 #[ptrV m,ptrV sg,.int .i64 (L:Int)] W fun e w'=> ∃x' M' f',e= .returned (.bool true)∧ScEnd [3,5,7] lo hi limit x'∧ScWd w2 si m MB V M' w'∧ScAt w2 si m MB M' sg x' f' w'∧ScBy w2 si m MB M M' sg f f' W w'∧W.heap.size≤w'.heap.size):=hid fun lo hi limit hc M W sg f h ha hl=>by
   rw[HV.out] at h
   have:=HW.out.done h 5 (by omega) (c:=0) ⟨by omega,by omega⟩ hc.1 hc.2.1 hc.2.2.1 hc.2.2.2.1 hc.2.2.2.2 ha hl
   rw[←hL,ris357] at this
   rw[HV.out]
   exact this
  clear hL
  have hS1:=HSX.out wc hT.out.1
  have hS1d:=hS1.bel (Below.drew (Below.refl _ wc))
  have e0:wc.drew.cell? ⟨wb,2,none⟩=some (ptrV m):=KCc.out _ _ hS1d
  obtain⟨hb3,fa,fb,fc,hTT⟩:=hT.out
  have HTT:=hid hTT
  have HS0:=hid hS1d
  have HL0:Hid (w2.heap.size≤wc.drew.heap.size):=hid hb3.size
  clear hS1 hS1d hTT hb3 hT NN c1
  go_upto_region 5 with fail
  go_region_held3 (fun X=>X.cell? ⟨wb,2,none⟩=some (ptrV m)) (first | go_keep | (exact sC) | (exact e0))
   (first
   | (go_at_call 31;refine(KBo.out _ _ (by first | exact HS2.out | exact HS1.out | exact HS0.out)).mono ?_;rintro e w9 ⟨rfl,rfl⟩)
   | (go_at_call 30;refine(KD.out 6 6 1 (by omega) _ _ _ _ HS2.out HC2.out HL2.out).mono ?_;rintro e w6 ⟨xc,M3,fc1,rfl,q1,q2,q3,q4,q5⟩;have sC:=KCc.out _ _ q2;have HE3:=hid (⟨q1,q3,q4,Nat.le_trans HL2.out q5⟩:_∧_∧_∧_);have HS3:=hid q2;clear q1 q2 q3 q4 q5)
   | (go_at_call 30;refine(KD.out 5 9 1 (by omega) _ _ _ _ HS1.out HB1'.out HL1.out).mono ?_;rintro e w5 ⟨xb,M2,fb1,rfl,q1,q2,q3,q4,q5⟩;have sC:=KCc.out _ _ q2;have HE2:=hid (⟨q1,q3,q4⟩:_∧_∧_);have HC2:=hid ((q4 _ _ _ HC1.out.1 HTT.out.cb).1);have HS2:=hid q2;have HL2:=hid (Nat.le_trans HL1.out q5);clear q1 q2 q3 q4 q5)
   | (go_at_call 30;refine(KD.out 0 9 5 (by omega) _ _ _ _ HS0.out (HTT.out.a.bel (Below.drew (Below.refl _ wc))) HL0.out).mono ?_;rintro e w4 ⟨xa,M1,fa1,rfl,q1,q2,q3,q4,q5⟩;have sC:=KCc.out _ _ q2;have HE1:=hid (⟨q1,q3,q4⟩:_∧_∧_);have HB1':=hid ((q4 _ _ _ (HTT.out.b.bel (Below.drew (Below.refl _ wc))) HTT.out.ba).1);have HC1:=hid (q4 _ _ _ (HTT.out.c.bel (Below.drew (Below.refl _ wc))) HTT.out.ca);have HS1:=hid q2;have HL1:=hid (Nat.le_trans HL0.out q5);clear q1 q2 q3 q4 q5))
  obtain⟨e3,hc6,by3,_⟩:=HE3.out
  obtain⟨e2,hb5,by2⟩:=HE2.out
  obtain⟨e1,ha4,by1⟩:=HE1.out
  have dca:=HC1.out.2
  have dba:=(by1 _ _ _ (HTT.out.b.bel (Below.drew (Below.refl _ wc))) HTT.out.ba).2
  have dcb:=(by2 _ _ _ HC1.out.1 HTT.out.cb).2
  obtain⟨ha5,dab⟩:=by2 _ _ _ ha4 (fun z hz hc=>dba z hc hz)
  obtain⟨ha6,_⟩:=by3 _ _ _ ha5 (fun z hz hc=>dca z hc hz)
  obtain⟨hb6,_⟩:=by3 _ _ _ hb5 (fun z hz hc=>dcb z hc hz)
  have pa:xa.pairs=[(3,strOfNums [51]),(5,strOfNums [53]),(7,strOfNums [55])]:=e1.pairs.trans ans0
  have pb:xb.pairs=[(5,strOfNums [53])]:=e2.pairs.trans ans1
  have pc':xc.pairs=[]:=e3.pairs.trans ans2
  have RA:=hid (SResp_z si m ga xa fa1 e1.done e1.e (by rw[pa];simp) w6 ha6.is)
  have RB:Hid (∀X,Below w6.heap.size w6 X→Calls Tryz.prog 32 #[ptrV gb] X (ScRsp [(5,strOfNums [53])] X)):=hid fun X hb=>by rw[←pb];exact SResp_z si m gb xb fb1 e2.done e2.e (by rw[pb];simp) X (hb6.bel hb).is
  have RC:Hid (∀X,Below w6.heap.size w6 X→Calls Tryz.prog 32 #[ptrV gc] X (ScRsp [] X)):=hid fun X hb=>by rw[←pc'];exact SResp_z si m gc xc fc1 e3.done e3.e (by rw[pc'];simp) X (hc6.bel hb).is
  rw[pa] at RA
  have HB6:Hid (Below w.heap.size w w6):=hid (by
   have h1:=(HW.out.now (by rw[←HV.out];exact HS3.out)).2.2.1
   exact HB2.out.trans (h1.mono HB1.out.size))
  clear e3 hc6 by3 e2 hb5 by2 e1 ha4 by1 dca dba dcb ha5 dab ha6 hb6 pa pb pc' sC e0
  clear HE1 HE2 HE3 HS0 HS1 HS2 HS3 HC1 HC2 HB1' HL0 HL1 HL2 KD KBo KCc HTT HSX HW
  go_wp2_with fail
  refine RA.out.mono ?_
  rintro e w7 ⟨v,rfl,hrow,hb7⟩
  obtain⟨ra,rc,rfl⟩:=row_form1 hrow
  have HR7:Hid (w7.ownsRow w6.heap.size 96 2 (.slice ra 3 rc) 3 (pc [(3,strOfNums [51]),(5,strOfNums [53]),(7,strOfNums [55])])):=hid hrow
  have HB7:=hid hb7
  rw[show([(3,strOfNums [51]),(5,strOfNums [53]),(7,strOfNums [55])]:List (Int×ByteArray)).length=3 from rfl]
  clear hrow hb7 RA
  go_upto_region 8 with fail
  obtain⟨W8,hW8⟩: ∃W8,W8=w7.alloc (.cells #[.int .u64 5,.string { data:= #[53] }] 96):=⟨_,rfl⟩
  rw[show _=W8 from hW8.symm]
  have hb8:Below w7.heap.size w7 W8:=by rw[hW8];exact ba (Below.refl _ _) _
  have k8:Blk W8 w7.heap.size 96 #[.int .u64 5,.string { data:= #[53] }]:=by rw[hW8];exact Blk.new _ _ _
  have KP:Hid (∀X,Below W8.heap.size W8 X→X.cell? ⟨w7.heap.size,0,none⟩=some (.int .u64 5)∧X.cell? ⟨w7.heap.size,1,none⟩=some (.string { data:= #[53] })):=hid fun X hb=>⟨cell_bel hb (k8.cell 0),cell_bel hb (k8.cell 1)⟩
  obtain⟨s0,s1⟩:=KP.out W8.drew (Below.refl _ _).drew
  have H68:Hid (∀X,Below W8.heap.size W8 X→Below w6.heap.size w6 X):=hid fun X hb=>bx (bx HB7.out hb8) hb
  have SP1:Hid (∀X b,Below W8.heap.size W8 X→Blk X b 96 #[.int .u64 3,.string { data:= #[51] },.int .u64 5,.string { data:= #[53] },.int .u64 7,.string { data:= #[55] }]→Calls Tryz.prog 33 #[.slice ra 3 rc,.slice (some ⟨b,0,none⟩) 3 3] X fun e w'=>e= .returned (.bool true)∧Below X.heap.size X w'):=hid fun X b hb hB=>by
   have h1:=(Only.of_below (bx hb8 hb) []).own HR7.out (by simp)
   refine(RSamePairs_z _ _ [(3,strOfNums [51]),(5,strOfNums [53]),(7,strOfNums [55])] [(3,{ data:= #[51] }),(5,{ data:= #[53] }),(7,{ data:= #[55] })] X (own_less h1 (Nat.zero_le _)) ⟨rfl,Or.inr ⟨b,3,_,rfl,Nat.zero_le _,hB,by simp,by unfold maxLen;omega,rfl,rfl⟩⟩ (by simp) (by simp)).mono ?_
   rintro e w' ⟨rfl,h⟩
   rw[pq1]
   exact⟨rfl,h⟩
  have SP2:Hid (∀X b a c,X.ownsRow 0 96 2 (.slice a 1 c) 1 (pc [(5,strOfNums [53])])→Blk X b 96 #[.int .u64 5,.string { data:= #[53] }]→Calls Tryz.prog 33 #[.slice a 1 c,.slice (some ⟨b,0,none⟩) 1 1] X fun e w'=>e= .returned (.bool true)∧Below X.heap.size X w'):=hid fun X b a c hr hB=>by
   refine(RSamePairs_z _ _ [(5,strOfNums [53])] [(5,{ data:= #[53] })] X hr ⟨rfl,Or.inr ⟨b,1,_,rfl,Nat.zero_le _,hB,by simp,by unfold maxLen;omega,rfl,rfl⟩⟩ (by simp) (by simp)).mono ?_
   rintro e w' ⟨rfl,h⟩
   rw[pq2]
   exact⟨rfl,h⟩
  have SM:Hid (∀X a c,X.ownsRow 0 96 2 (.slice a 0 c) 0 (pc [])→Calls Tryz.prog 12 #[.agg (respP 0 { data:= #[] } (.slice a 0 c)),.agg #[.int .i64 0,.string { data:= #[] },.slice none 0 0]] X fun e w'=>e= .returned (.bool true)∧Below X.heap.size X w'):=hid fun X a c hr=>by
   refine(RSame_z 0 0 { data:= #[] } { data:= #[] } _ _ [] [] X hr (World.ownsRow_nil _ _ _ _) (by simp) (by simp)).mono ?_
   rintro e w' ⟨rfl,h⟩
   rw[sm0]
   exact⟨rfl,h⟩
  clear hW8 hb8 k8
  go_region_held3 (fun X=>X.cell? ⟨w7.heap.size,0,none⟩=some (.int .u64 5)∧X.cell? ⟨w7.heap.size,1,none⟩=some (.string { data:= #[53] })) (first | (refine KP.out _ ?_;(repeat(first | assumption | exact Below.refl _ _ | refine Below.drew ?_ | refine ba ?_ _));done))
   (first
   | (go_at_call 12;refine(SM.out _ _ _ HRC.out).mono ?_;rintro e v5 ⟨rfl,p1⟩;have hv5:Below W8.heap.size W8 v5:=bx hv4 p1;clear p1)
   | (have hq:=SP2.out v2 _ _ _ HRB.out HLB.out;go_at_call 33;(with_reducible refine hq.mono ?_);rintro e v3 ⟨rfl,p1⟩;have hv3:Below W8.heap.size W8 v3:=bx (by(repeat(first | assumption | exact Below.refl _ _ | refine Below.drew ?_ | refine ba ?_ _));done) p1;clear p1 hq)
   | (have hq:=SP2.out (v2.alloc (.cells #[.int .u64 5,.string { data:= #[53] }] 96)) _ _ _ (((Only.refl [] v2).alloc _).own HRB.out (by simp)) (Blk.new v2 _ _);go_at_call 33;(with_reducible refine hq.mono ?_);rintro e v3 ⟨rfl,p1⟩;have hv3:Below W8.heap.size W8 v3:=bx (by(repeat(first | assumption | exact Below.refl _ _ | refine Below.drew ?_ | refine ba ?_ _));done) p1;clear p1 hq)
   | (have hq:=SP2.out (v2.alloc (.cells #[.int .u64 5,.string { data:= #[53] }] 96)).drew _ _ _ ((((Only.refl [] v2).alloc _).drew).own HRB.out (by simp)) (Blk.drew (Blk.new v2 _ _));go_at_call 33;(with_reducible refine hq.mono ?_);rintro e v3 ⟨rfl,p1⟩;have hv3:Below W8.heap.size W8 v3:=bx (by(repeat(first | assumption | exact Below.refl _ _ | refine Below.drew ?_ | refine ba ?_ _));done) p1;clear p1 hq)
   | (go_at_call 33;(with_reducible refine(SP1.out _ _ (by(repeat(first | assumption | exact Below.refl _ _ | refine Below.drew ?_ | refine ba ?_ _));done) (by first | with_reducible exact Blk.new _ _ _ | with_reducible exact Blk.drew (Blk.new _ _ _))).mono ?_);rintro e v1 ⟨rfl,p1⟩;have hv1:Below W8.heap.size W8 v1:=bx (by(repeat(first | assumption | exact Below.refl _ _ | refine Below.drew ?_ | refine ba ?_ _));done) p1;clear p1)
   | (have HX:=HRB;go_at_call 32;refine(RC.out _ (by refine H68.out _ ?_;(repeat(first | assumption | exact Below.refl _ _ | refine Below.drew ?_ | refine ba ?_ _));done)).mono ?_;rintro e v4 ⟨y,rfl,p2,p1⟩;obtain⟨ya,yc,rfl⟩:=row_form1 p2;have HRC:=hid (own_less p2 (Nat.zero_le _));have hv4:Below W8.heap.size W8 v4:=bx (by(repeat(first | assumption | exact Below.refl _ _ | refine Below.drew ?_ | refine ba ?_ _));done) p1;clear p1 p2 HX)
   | (go_at_call 32;refine(RB.out _ (by refine H68.out _ ?_;(repeat(first | assumption | exact Below.refl _ _ | refine Below.drew ?_ | refine ba ?_ _));done)).mono ?_;rintro e v2 ⟨y,rfl,p2,p1⟩;obtain⟨ya,yc,rfl⟩:=row_form1 p2;have HRB:=hid (own_less p2 (Nat.zero_le _));(try(have HLB:=hid ((Blk.drew (Blk.new v1 96 #[.int .u64 5,.string { data:= #[53] }])).bel p1)));(try(have HLB:=hid ((Blk.new v1 96 #[.int .u64 5,.string { data:= #[53] }]).bel p1)));have hv2:Below W8.heap.size W8 v2:=bx (by(repeat(first | assumption | exact Below.refl _ _ | refine Below.drew ?_ | refine ba ?_ _));done) p1;clear p1 p2))
  all_goals
   have HE:=hid (HB6.out.trans ((H68.out _ hv5).mono HB6.out.size))
   clear hv1 hv2 hv3 hv4 hv5
   go_wp2
   go_ret
   exact⟨rfl,HE.out⟩
end Go.Proofs.YtjmaicckkkdjpaaGreat
