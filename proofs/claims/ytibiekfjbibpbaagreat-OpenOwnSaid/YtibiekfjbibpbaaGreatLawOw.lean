/- The law OpenOwn, walked. -/
import Derived.Test.YtibiekfjbibpbaaGreatOpensV
set_option maxRecDepth 100000
set_option maxHeartbeats 4000000
set_option linter.unusedVariables false
set_option linter.unusedSimpArgs false
namespace Go.Proofs.YtibiekfjbibpbaaGreat
open Go.RowKit
attribute [local go_sem ↓ high] q7f
attribute [local go_sem] q1x Oper.semAt_some v8r
theorem OReport_n (o m:Nat) (B:MB) (M:MemS) (bs:List Int) (tv wv pv rv fv kv:Value) (err h nn:Int) (ps:List (Int×ByteArray)) (R F K:List Int) (herr:err=0∨err=6∧h=0∧nn=0∧ps=[]∧R=[]∧F=[]∧K=[]) (hlen:ps.length≤1000000∧R.length≤1000000∧F.length≤1000000∧K.length≤1000000) (w:World)
  (H:OpnD w o m B M bs tv wv true err h nn ps R F K pv rv fv kv):
  Calls Tryz.prog 33 #[.pointer (some ⟨o,0,none⟩)] w (v9b w err h nn ps R F K):=by
 rcases herr with rfl | ⟨rfl,rfl,rfl,rfl,rfl,rfl,rfl⟩
 ·obtain⟨pa,pc,rfl,_⟩:=H.rep.pc
  obtain⟨ra,rc,rfl,_⟩:=H.rep.ra
  obtain⟨fa,fc,rfl,_⟩:=H.rep.fa
  obtain⟨ka,kc,rfl,_⟩:=H.rep.ka
  exact x4u o m B M bs tv wv h nn ps R F K pa ra fa ka pc rc fc kc hlen w H
 ·refine(z2v o m B M.view.length M.st H.mem.pos H.mem.big tv wv true pv rv fv kv 0 0 6 6 rfl (by omega) w H.mem.blk H.blk).mono ?_
  rintro e w' ⟨rfl,h5⟩
  exact⟨none,0,none,0,none,0,none,0,rfl,World.ownsRow_nil _ _ _ _,World.ownsRow_nil _ _ _ _,World.ownsRow_nil _ _ _ _,World.ownsRow_nil _ _ _ _,h5⟩
theorem rows_apart {w:World} {N M:Nat} {e e':TypeId} {s s' n n':Nat} {v v':Value} {xs xs':List Value} (h:w.ownsRow N e s v n xs) (h':w.ownsRow M e' s' v' n' xs') (he:e≠e'): ∀k,v.ownBlock=some k→v'.ownBlock≠some k:=by
 intro k hk hk'
 rcases h.2 with⟨rfl,_⟩ | ⟨g,cap,cur,rfl,_,hg,_⟩
 ·cases hk
 ·rcases h'.2 with⟨rfl,_⟩ | ⟨g',cap',cur',rfl,_,hg',_⟩
  ·cases hk'
  ·obtain rfl:g=k:=Option.some.inj hk
   obtain rfl:g'=g:=Option.some.inj hk'
   rw[hg] at hg'
   injection hg' with h1
   injection h1 with _ h2 _
   exact he h2
theorem row_blk {w:World} {N T:Nat} {e t:TypeId} {s n:Nat} {v:Value} {xs:List Value} {cs:Array Value} (h:w.ownsRow N e s v n xs) (hb:Blk w T t cs) (he:e≠t):v.ownBlock≠some T:=by
 intro hk
 rcases h.2 with⟨rfl,_⟩ | ⟨g,cap,cur,rfl,_,hg,_⟩
 ·cases hk
 ·obtain rfl:g=T:=Option.some.inj hk
  have h2:w.heap[g]?=some (.cells cs t (0,0)):=hb
  rw[hg] at h2
  injection h2 with h1
  injection h1 with _ h2 _
  exact he h2
structure OwJ (N T:Nat) (pv rv:Value) (pn rn:Nat) (gs:Array Value) (w wr:World):Prop where
 bel:Below N w wr
 pr: ∃cs,wr.ownsRow N 48 2 pv pn cs
 rr: ∃cs,wr.ownsRow N 51 1 rv rn cs
 bk:Blk wr T 32 gs
theorem OwJ.setP {N T pn rn g c:Nat} {rv:Value} {gs:Array Value} {w wr:World} (h:OwJ N T (.slice (some ⟨g,0,none⟩) pn c) rv pn rn gs w wr) (hN:N≤w.heap.size) (j:Nat) (u:Value):OwJ N T (.slice (some ⟨g,0,none⟩) pn c) rv pn rn gs w (wr.setCell ⟨g,j,none⟩ u):=by
 have ho:Only [g] wr (wr.setCell ⟨g,j,none⟩ u):=(Only.refl _ _).setCell (Or.inl (by simp)) _
 obtain⟨cs,h1⟩:=h.pr
 obtain⟨ds,h2⟩:=h.rr
 have hg:N≤g:=(h1.lt g rfl).1
 refine⟨h.bel.trans (ho.below (fun y hy=>by rw[List.mem_singleton.1 hy];exact hg) (Nat.le_trans hN h.bel.size)),⟨_,(h1.stored j u).1⟩,⟨_,ho.own h2 ?_⟩,ho.blk h.bk ?_⟩
 ·intro k hk hm
  rw[List.mem_singleton.1 hm] at hk
  exact rows_apart h1 h2 (by decide) g rfl hk
 ·intro hm
  exact row_blk h1 h.bk (by decide) (by rw[List.mem_singleton.1 hm];rfl)
theorem OwJ.setR {N T pn rn g c:Nat} {pv:Value} {gs:Array Value} {w wr:World} (h:OwJ N T pv (.slice (some ⟨g,0,none⟩) rn c) pn rn gs w wr) (hN:N≤w.heap.size) (j:Nat) (u:Value):OwJ N T pv (.slice (some ⟨g,0,none⟩) rn c) pn rn gs w (wr.setCell ⟨g,j,none⟩ u):=by
 have ho:Only [g] wr (wr.setCell ⟨g,j,none⟩ u):=(Only.refl _ _).setCell (Or.inl (by simp)) _
 obtain⟨cs,h1⟩:=h.pr
 obtain⟨ds,h2⟩:=h.rr
 have hg:N≤g:=(h2.lt g rfl).1
 refine⟨h.bel.trans (ho.below (fun y hy=>by rw[List.mem_singleton.1 hy];exact hg) (Nat.le_trans hN h.bel.size)),⟨_,ho.own h1 ?_⟩,⟨_,(h2.stored j u).1⟩,ho.blk h.bk ?_⟩
 ·intro k hk hm
  rw[List.mem_singleton.1 hm] at hk
  exact rows_apart h2 h1 (by decide) g rfl hk
 ·intro hm
  exact row_blk h2 h.bk (by decide) (by rw[List.mem_singleton.1 hm];rfl)
theorem row_cell {w:World} {N:Nat} {e:TypeId} {s n c:Nat} {a:Option Addr} {xs:List Value} (h:w.ownsRow N e s (.slice a n c) n xs) {i j:Nat} (hi:i<n) (hj:j<s): ∃g,a=some ⟨g,0,none⟩∧(∃z,w.cell? ⟨g,i*s+j,none⟩=some z)∧w.frozen? ⟨g,i*s+j,none⟩=false:=by
 have hlt:i*s+j<n*s:=by
  have h1:(i+1)*s≤n*s:=Nat.mul_le_mul_right s hi
  rw[Nat.add_mul,Nat.one_mul] at h1
  omega
 rcases h.2 with⟨_,h0⟩ | ⟨g,cap,cur,e1,_,_,_⟩
 ·omega
 ·injection e1 with e1 _ e2
  subst e1
  refine⟨g,rfl,?_,h.frozenAt _⟩
  rw[h.cellAt _ hlt]
  exact⟨_,List.getElem?_eq_getElem (by rw[h.1];exact hlt)⟩
theorem OpenOwn_z (x:La) (kv lv0:Value) (xs:List Int) (l:List (Int×Int)) (hxs: ∀y∈xs,U64 y) (hsp: ∀s∈l,ByOK s) (hxl:xs.length≤9223372036854775807) (hll:l.length≤9223372036854775807) (hx:I64 x.slabs∧I64 x.per∧I64 x.lag) (w:World) (hK:q1w .u64 w kv xs) (hS:z5l w lv0 l):
  Calls Tryz.prog 7 #[.agg (laC5 x kv lv0)] w fun e w'=>e= .returned (.bool true)∧Below w.heap.size w w':=by
 obtain⟨W1,hW1⟩: ∃W1,W1=w.alloc (.cells (laC5 x kv lv0) 83):=⟨_,rfl⟩
 have hb1:Below w.heap.size w W1:=by rw[hW1];exact ba (Below.refl _ _) _
 have k1:Blk W1 w.heap.size 83 (laC5 x kv lv0):=by rw[hW1];exact Blk.new _ _ _
 have c0:W1.cell? ⟨w.heap.size,0,none⟩=some (.int .i64 x.slabs):=k1.cell 0
 have c1:W1.cell? ⟨w.heap.size,1,none⟩=some kv:=k1.cell 1
 have c2:W1.cell? ⟨w.heap.size,2,none⟩=some (.int .i64 x.per):=k1.cell 2
 have c3:W1.cell? ⟨w.heap.size,3,none⟩=some (.int .i64 x.lag):=k1.cell 3
 have c4:W1.cell? ⟨w.heap.size,4,none⟩=some lv0:=k1.cell 4
 have AZ:=hid (x5h x kv lv0 xs l hxs hsp hxl hll hx W1 (hK.bel hb1) (hS.bel hb1))
 have HW1:=hid hW1
 have HB1:=hid hb1
 clear hW1 hb1 k1 hxs hsp hxl hll hx hK hS
 go_enter Tryz.func7,Tryz.ntmps7
 go_upto_region 1 with fail
 rw[show _=W1 from HW1.out.symm]
 go_wp2_with fail
 refine AZ.out.mono ?_
 rintro e W2 ⟨hb2,h2⟩
 have HB2:=hid (bx HB1.out hb2)
 clear hb2 c0 c1 c2 c3 c4 HW1 AZ HB1
 rcases h2 with rfl | ⟨g,b,n,bs,rfl,hI,hN⟩
 ·go_wp2_with fail
  refine(z8n _).mono ?_
  rintro e w3 ⟨rfl,hb3⟩
  have HB3:=hid (bx HB2.out hb3)
  clear hb3
  go_wp2
  go_ret
  exact⟨rfl,HB3.out⟩
 ·have hm:mayB bs.length=true:=by
   have h1:=hI.ln
   have h2:=hI.big
   unfold mayB
   simp
   omega
  obtain⟨p,cap,e0,hby,hcap⟩:=hI.arg.form
  injection e0 with e1 e2 e3
  subst e3
  obtain⟨q,hq⟩: ∃q,bs.length=8*q:=⟨bs.length/8,by unfold mayB at hm;simp at hm;omega⟩
  have hq0:0<q:=by unfold mayB at hm;simp at hm;omega
  have hl:=hI.big
  rw[e1]
  have ipn:p.isNone=false:=by rw[←e1];rfl
  have MZ:=hid (v9f p n bs hm hcap W2 hby)
  obtain⟨hh,nn,err,ps,R,F,K,herr,hsm,hlen,hlk,hdl⟩:=x3s hI.byt
  rw[←e2] at MZ
  have HQ:=hid (⟨hq,hq0,(by omega:q≤12500),e2⟩:_∧_∧_∧_)
  have HBI:=hid hby
  have HS:=hid (⟨herr,hsm,hlen⟩:_∧_∧_)
  have HLK:=hid hlk
  have HDL:=hid hdl
  have HNL:=hid (show n≤9216 from hl.2)
  clear hI hN hm e1 e2 hby hcap hq hq0 hl herr hsm hlen hlk hdl
  go_wp2_with fail
  refine MZ.out.mono ?_
  rintro e w2 ⟨m,B,rfl,hM,hb2,hlo⟩
  have ON:=hid (x7q m B q ⟨0,0,0,0⟩ HQ.out.2.1 (by have:=HQ.out;omega) w2 (by have h1:=hM.blk;have h2:(q3y (q0b bs)).view.length=q:=(by have:=HQ.out;simp[q3y,q0b];omega);rw[h2] at h1;exact h1))
  have HM:=hid (⟨hM,hb2,hlo⟩:_∧_∧_)
  clear hM hb2 hlo MZ
  go_wp2_with fail
  refine(callsIn_wide.1 ON.out).mono ?_
  rintro e w3 ⟨o,v,rfl,ho,hol,hB3,hr3,hno,hb3⟩
  obtain⟨tg,c,rfl,hL⟩:=z7b (N:=W2.heap.size) HQ.out.1 HQ.out.2.1 HM.out.1 HM.out.2.2 HM.out.2.1.size ho hB3 hr3 hno hb3
  have HL:=hid (⟨hL,bx HM.out.2.1 hb3⟩:_∧_)
  clear ho hol hB3 hr3 hno hb3 hL ON
  have iq:(q:Int)≤12500:=by have:=HQ.out;omega
  have iq0: ¬(q:Int)<1:=by have:=HQ.out;omega
  have iq1:decide ((q:Int)<1)=false:=decide_eq_false iq0
  have OW:Hid (Calls Tryz.prog 31 #[ptrV m,.pointer (some ⟨o,0,none⟩),.int .i64 ((q:Int)+1)] w3 fun e w'=>e= .returned (.int .i64 (q:Int))∧Below W2.heap.size w3 w'∧
    ∃tv wv' pv rv fv kv,OpnD w' o m B (memK (q0b bs) q) bs tv wv' true err hh nn ps R F K pv rv fv kv):=by
   have h1:=x2u W2.heap.size o m B q c tg (q+1) bs HBI.out.2.1 HQ.out.1 HQ.out.2.1 (by have:=HQ.out;omega) (by omega) (by have:=HQ.out;omega) err hh nn ps R F K HLK.out w3 HL.out.1
   rw[show((q+1:Nat):Int)=(q:Int)+1 by omega] at h1
   exact hid h1
  have RW:=hid (x4k p q n n (by have:=HQ.out;omega) (by have:=HQ.out;omega) w3)
  have HL3:=hid HL.out.2
  clear HL HM
  go_wp2_with fail
  refine RW.out.mono ?_
  rintro e w4 ⟨rfl,rfl⟩
  go_wp2_with fail
  refine OW.out.mono ?_
  rintro e w7 ⟨rfl,hb7,tv,wv,pv,rv,fv,kv7,hD⟩
  have HD:=hid hD
  have HB7:=hid (HL3.out.trans hb7)
  have OR:=hid (OReport_n o m B _ bs tv wv pv rv fv kv7 err hh nn ps R F K HS.out.1 HS.out.2.2 w7 hD)
  clear OW RW HL3 hb7 hD
  go_wp2_with fail
  refine OR.out.mono ?_
  rintro e w8 ⟨pa,pc,ra,rc,fa,fc,ka,kc,rfl,r1,r2,r3,r4,hb8⟩
  obtain⟨T1,hT1⟩: ∃T1,T1=w8.heap.size:=⟨_,rfl⟩
  obtain⟨W9,hW9⟩: ∃W9,W9=w8.alloc (.cells #[.slice pa ps.length pc,.slice ra R.length rc,.slice fa F.length fc,.slice ka K.length kc,.int .i64 hh,.int .i64 nn] 32):=⟨_,rfl⟩
  have hb9:Below w8.heap.size w8 W9:=by rw[hW9];exact ba (Below.refl _ _) _
  have ho9:Only [] w8 W9:=Only.of_below hb9 []
  have hJ:OwJ w7.heap.size T1 (.slice pa ps.length pc) (.slice ra R.length rc) ps.length R.length #[.slice pa ps.length pc,.slice ra R.length rc,.slice fa F.length fc,.slice ka K.length kc,.int .i64 hh,.int .i64 nn] w7 W9:=⟨bx hb8 hb9,⟨_,ho9.own r1 (by simp)⟩,⟨_,ho9.own r2 (by simp)⟩,by rw[hW9,hT1];exact Blk.new _ _ _⟩
  obtain⟨pn,hpn⟩: ∃pn,pn=ps.length:=⟨_,rfl⟩
  obtain⟨rn,hrn⟩: ∃rn,rn=R.length:=⟨_,rfl⟩
  obtain⟨fn,hfn⟩: ∃fn,fn=F.length:=⟨_,rfl⟩
  obtain⟨kn,hkn⟩: ∃kn,kn=K.length:=⟨_,rfl⟩
  rw[←hpn,←hrn,←hfn,←hkn] at hJ hW9 ⊢
  have ip:(pn:Int)≤1000000:=by have:=HS.out.2.2.1;omega
  have ir:(rn:Int)≤1000000:=by have:=HS.out.2.2.2.1;omega
  have HNM:=hid (⟨hpn,hrn,hfn,hkn⟩:_∧_∧_∧_)
  have HJ:=hid hJ
  have HT1:=hid hT1
  have HW9:=hid hW9
  clear hpn hrn hfn hkn hT1 hW9 hb9 ho9 hJ r1 r2 r3 r4 hb8 OR
  go_upto_region 11 with fail
  rw[show _=W9 from HW9.out.symm]
  rw[←HT1.out]
  clear HT1 HW9
  go_wp2
  go_loopw [9] (fun iv wr=> ∃i:Nat,i≤pn∧iv= .int .i64 (i:Int)∧Hid (OwJ w7.heap.size T1 (.slice pa pn pc) (.slice ra rn rc) pn rn #[.slice pa pn pc,.slice ra rn rc,.slice fa fn fc,.slice ka kn kc,.int .i64 hh,.int .i64 nn] w7 wr)) (fun iv _=>pn- (intOf iv).toNat)
  case atStart=>exact⟨0,Nat.zero_le _,rfl,HJ⟩
  case round=>
   obtain⟨i,hik,rfl,hI⟩:=hrel
   obtain⟨wA,rfl⟩: ∃y,y=wr:=⟨_,rfl⟩
   clear HJ
   have c0:wA.cell? ⟨T1,0,none⟩=some (.slice pa pn pc):=hI.out.bk.cell 0
   by_cases hlt:i<pn
   ·have i1:(i:Int)< (pn:Int):=by omega
    have i0:(0:Int)≤(i:Int):=by omega
    obtain⟨cs,h1⟩:=hI.out.pr
    obtain⟨g,rfl,⟨z,hz⟩,hf⟩:=row_cell h1 hlt (j:=0) (by omega)
    rw[Nat.add_zero] at hz hf
    have HX:=hid (hI.out.setP (Nat.le_refl _) (i*2) (.int .u64 1))
    have HLT:=hid hlt
    clear hI hlt hik h1
    go_upto_region 13 with fail
    clear c0 hz hf
    go_wp2
    go_roundw
    case rel=>exact⟨i+1,HLT.out,by go_num,HX⟩
    case measure=>simp[intOf];have:=HLT.out;omega
   ·obtain rfl:pn=i:=by omega
    have i1: ¬(pn:Int)< (pn:Int):=by omega
    have HJ:=hI
    clear hI hik hlt
    go_upto_region 15 with fail
    clear c0 i1
    go_wp2
    go_loopw [10] (fun iv wr=> ∃i:Nat,i≤rn∧iv= .int .i64 (i:Int)∧Hid (OwJ w7.heap.size T1 (.slice pa pn pc) (.slice ra rn rc) pn rn #[.slice pa pn pc,.slice ra rn rc,.slice fa fn fc,.slice ka kn kc,.int .i64 hh,.int .i64 nn] w7 wr)) (fun iv _=>rn- (intOf iv).toNat)
    case atStart=>exact⟨0,Nat.zero_le _,rfl,HJ⟩
    case round=>
     obtain⟨i,hik,rfl,hI⟩:=hrel
     obtain⟨wB,rfl⟩: ∃y,y=wr:=⟨_,rfl⟩
     clear HJ
     have c0:wB.cell? ⟨T1,1,none⟩=some (.slice ra rn rc):=hI.out.bk.cell 1
     by_cases hlt:i<rn
     ·have i1:(i:Int)< (rn:Int):=by omega
      have i0:(0:Int)≤(i:Int):=by omega
      obtain⟨cs,h1⟩:=hI.out.rr
      obtain⟨g,rfl,⟨z,hz⟩,hf⟩:=row_cell h1 hlt (j:=0) (by omega)
      rw[Nat.add_zero,Nat.mul_one] at hz hf
      have HX:=hid (hI.out.setR (Nat.le_refl _) i (.int .u64 1))
      have HLT:=hid hlt
      clear hI hlt hik h1
      go_upto_region 17 with fail
      clear c0 hz hf
      go_wp2
      go_roundw
      case rel=>exact⟨i+1,HLT.out,by go_num,HX⟩
      case measure=>simp[intOf];have:=HLT.out;omega
     ·obtain rfl:rn=i:=by omega
      have i1: ¬(rn:Int)< (rn:Int):=by omega
      have OR:=hid (OReport_n o m B _ bs tv wv pv rv fv kv7 err hh nn ps R F K HS.out.1 HS.out.2.2 wB (HD.out.bel hI.out.bel))
      have HJB:=hid (bx HB7.out hI.out.bel)
      clear hI hik hlt
      go_upto_region 19 with fail
      clear c0 i1
      go_wp2_with fail
      refine OR.out.mono ?_
      rintro e w10 ⟨pa1,pc1,ra1,rc1,fa1,fc1,ka1,kc1,rfl,s1,s2,s3,s4,hb10⟩
      have hrep1:=q6g.of_own s1 s2 s3 s4
      rw[←HNM.out.1,←HNM.out.2.1,←HNM.out.2.2.1,←HNM.out.2.2.2] at hrep1 ⊢
      obtain⟨T2,hT2⟩: ∃T2,T2=w10.heap.size:=⟨_,rfl⟩
      obtain⟨W11,hW11⟩: ∃W11,W11=w10.alloc (.cells #[.slice pa1 pn pc1,.slice ra1 rn rc1,.slice fa1 fn fc1,.slice ka1 kn kc1,.int .i64 hh,.int .i64 nn] 32):=⟨_,rfl⟩
      have hb11:Below w10.heap.size w10 W11:=by rw[hW11];exact ba (Below.refl _ _) _
      have hK11:Blk W11 T2 32 #[.slice pa1 pn pc1,.slice ra1 rn rc1,.slice fa1 fn fc1,.slice ka1 kn kc1,.int .i64 hh,.int .i64 nn]:=by rw[hW11,hT2];exact Blk.new _ _ _
      have HX:=hid (⟨hrep1.bel hb11,hK11,bx HJB.out (bx hb10 hb11)⟩:_∧_∧_)
      have RO:=hid (x7p hh nn err ps R F K p n bs n HQ.out.2.2.2 (by have:=HNL.out;omega) HDL.out W11 (q2d HBI.out HX.out.2.2))
      have HT2:=hid hT2
      have HW11:=hid hW11
      clear hT2 hW11 hb11 hK11 hrep1 s1 s2 s3 s4 hb10 OR HJB
      go_wp2_with fail
      rw[show _=W11 from HW11.out.symm]
      rw[←HT2.out]
      refine RO.out.mono ?_
      rintro e w12 ⟨⟨pa2,pc2,ra2,rc2,fa2,fc2,ka2,kc2,rfl,hrep2⟩,hb12⟩
      rw[←HNM.out.1,←HNM.out.2.1,←HNM.out.2.2.1,←HNM.out.2.2.2] at hrep2 ⊢
      obtain⟨T3,hT3⟩: ∃T3,T3=w12.heap.size:=⟨_,rfl⟩
      obtain⟨W13,hW13⟩: ∃W13,W13=w12.alloc (.cells #[.slice pa2 pn pc2,.slice ra2 rn rc2,.slice fa2 fn fc2,.slice ka2 kn kc2,.int .i64 hh,.int .i64 nn] 32):=⟨_,rfl⟩
      have hb13:Below w12.heap.size w12 W13:=by rw[hW13];exact ba (Below.refl _ _) _
      have hK13:Blk W13 T3 32 #[.slice pa2 pn pc2,.slice ra2 rn rc2,.slice fa2 fn fc2,.slice ka2 kn kc2,.int .i64 hh,.int .i64 nn]:=by rw[hW13,hT3];exact Blk.new _ _ _
      have hbb:=bx hb12 hb13
      have HZ:=hid (⟨HX.out.1.bel hbb,HX.out.2.1.bel hbb,hrep2.bel hb13,hK13⟩:_∧_∧_∧_)
      have HZB:=hid (bx HB2.out (bx HX.out.2.2 hbb))
      have HT3:=hid hT3
      have HW13:=hid hW13
      clear hT3 hW13 hb13 hK13 hbb hrep2 hb12 HX RO HT2 HW11
      go_upto_region 21 with fail
      rw[show _=W13 from HW13.out.symm]
      rw[←HT3.out]
      have be:(err==err)=true:=by simp
      have KS:Hid (∀X,Below W13.heap.size W13 X→ldR Tryz.prog 32 (.pointer (some ⟨T2,0,none⟩)) X= .ok (.agg #[.slice pa1 pn pc1,.slice ra1 rn rc1,.slice fa1 fn fc1,.slice ka1 kn kc1,.int .i64 hh,.int .i64 nn]) X∧ldR Tryz.prog 32 (.pointer (some ⟨T3,0,none⟩)) X= .ok (.agg #[.slice pa2 pn pc2,.slice ra2 rn rc2,.slice fa2 fn fc2,.slice ka2 kn kc2,.int .i64 hh,.int .i64 nn]) X):=
       hid fun X hb=>⟨(HZ.out.2.1.bel hb).ld (P:=Tryz.prog) Tryz.underlying32 rfl (by kernel_rfl),(HZ.out.2.2.2.bel hb).ld (P:=Tryz.prog) Tryz.underlying32 rfl (by kernel_rfl)⟩
      have EF:Hid (∀X,Below W13.heap.size W13 X→Calls Tryz.prog 17 #[.agg #[.slice pa1 pn pc1,.slice ra1 rn rc1,.slice fa1 fn fc1,.slice ka1 kn kc1,.int .i64 hh,.int .i64 nn],.agg #[.slice pa2 pn pc2,.slice ra2 rn rc2,.slice fa2 fn fc2,.slice ka2 kn kc2,.int .i64 hh,.int .i64 nn]] X fun e w'=>e= .returned (.bool true)∧Below X.heap.size X w'):=
       hid fun X hb=>x8o hh nn pn pn pa1 pa2 pc1 pc2 (.slice ra1 rn rc1) (.slice fa1 fn fc1) (.slice ka1 kn kc1) (.slice ra2 rn rc2) (.slice fa2 fn fc2) (.slice ka2 kn kc2) ps R F K X (HZ.out.1.bel hb) (HZ.out.2.2.1.bel hb) HS.out.2.2 HS.out.2.1
      have B0:Below W13.heap.size W13 W13.drew:=(Below.refl _ _).drew
      clear HZ HT3 HW13
      have hl1:=(KS.out W13 (Below.refl _ _)).1
      have hl2:=(KS.out W13 (Below.refl _ _)).2
      clear B0
      go_wp2_with fail
      refine(EF.out W13 (Below.refl _ _)).mono ?_
      rintro e w14 ⟨rfl,hb14⟩
      clear hl1 hl2
      have HF:=hid (bx HZB.out hb14)
      clear hb14
      go_wp2_with fail
      refine(z8n _).mono ?_
      rintro e w15 ⟨rfl,hb15⟩
      have HF2:=hid (bx HF.out hb15)
      clear hb15
      go_wp2
      go_ret
      exact⟨rfl,HF2.out⟩
theorem OpenOwn_l (x:La) (kv bv:Value) (xs:List Int) (l:List (Int×Int)) (w:World) (hn:q1w .u64 w kv xs) (hu: ∀z∈xs,U64 z) (hl:xs.length≤9223372036854775807) (h1:I64 x.slabs) (h2:I64 x.per) (h3:I64 x.lag) (hc:z5l w bv l) (hs: ∀s∈l,ByOK s) (hm:l.length≤9223372036854775807):
  Calls Tryz.prog 7 #[.agg (laC5 x kv bv)] w fun e w'=>e= .returned (.bool true)∧Below w.heap.size w w':=OpenOwn_z x kv bv xs l hu hs hl hm ⟨h1,h2,h3⟩ w hn hc
end Go.Proofs.YtibiekfjbibpbaaGreat
