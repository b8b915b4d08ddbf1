import Derived.Deep.QuietTactic
import Derived.BigQuiet
import Derived.Test.YtjmaicckkkdjpaaGreatF33
/- The document's Do, its scan. -/
set_option maxRecDepth 100000
set_option maxHeartbeats 1000000
set_option linter.unusedVariables false
set_option linter.unusedSimpArgs false
namespace Go.Proofs.YtjmaicckkkdjpaaGreat
open Go.RowKit
def inBQ (lo hi:Int) (p:Int×ByteArray):Bool:=decide (lo≤p.1∧p.1≤hi)
def bL (lo hi:Int) (ps:PairL):PairL:=ps.filter (inBQ lo hi)
theorem bL_snoc (lo hi:Int) (ps:PairL) (p:Int×ByteArray):bL lo hi (ps++[p])=if lo≤p.1∧p.1≤hi then bL lo hi ps++[p] else bL lo hi ps:=by
 unfold bL
 rw[List.filter_append]
 by_cases h:lo≤p.1∧p.1≤hi
 ·rw[if_pos h];simp[inBQ,h]
 ·rw[if_neg h];simp[inBQ,h]
theorem bL_take (lo hi:Int) (ps:PairL) (k:Nat) (h:k<ps.length):bL lo hi (ps.take (k+1))=if lo≤ps[k].1∧ps[k].1≤hi then bL lo hi (ps.take k)++[ps[k]] else bL lo hi (ps.take k):=by
 rw[List.take_succ_eq_append_getElem h,bL_snoc]
theorem scan_all {lo hi lim:Int} {ps:PairL} (h:(bL lo hi ps).length≤lim.toNat):scanL lo hi lim ps=bL lo hi ps:=List.take_of_length_le h
theorem scan_cut {lo hi lim:Int} {ps:PairL} {k:Nat} (h:(bL lo hi (ps.take k)).length=lim.toNat):scanL lo hi lim ps=bL lo hi (ps.take k):=by
 unfold scanL
 have e:ps.filter (fun p=>decide (lo≤p.1∧p.1≤hi))=bL lo hi (ps.take k)++bL lo hi (ps.drop k):=by
  unfold bL
  rw[←List.filter_append,List.take_append_drop]
  rfl
 rw[e,←h,List.take_left]
theorem pair_append {w:World} {base m c:Nat} {a:Option Addr} {ps:PairL} (h:w.ownsRow base 96 2 (.slice a m c) m (pc ps)) (k:Int) (s:ByteArray) (hn:m≤2000000) (hb:base≤w.heap.size):
  ∃a' c' w',(Builtin.append_ #[39,39] 39 #[.slice a m c,.slice (some ⟨w.heap.size,0,none⟩) 1 1]).run Tryz.prog ((w.alloc (.cells #[.int .u64 k,.string s] 96)).drew)= .ok (.slice a' (m+1) c') w'∧
   w'.ownsRow base 96 2 (.slice a' (m+1) c') (m+1) (pc (ps++[(k,s)]))∧Only (Value.slice a m c).ownBlock.toList w w'∧
   (∀q,(Value.slice a' (m+1) c').ownBlock=some q→(Value.slice a m c).ownBlock=some q∨w.heap.size≤q):=by
 obtain⟨i0,hi0,hz0,hz1,hz2⟩:=info_parts infoPair
 have hB:Below w.heap.size w (w.alloc (.cells #[.int .u64 k,.string s] 96)).drew:=bdrew (ba (Below.refl _ _) _)
 obtain⟨v',w',hrun,hown',hgrow,_,hob⟩:=run_append_own_at (P:=Tryz.prog) (w:=(w.alloc (.cells #[.int .u64 k,.string s] 96)).drew) base 39 39 96 i0 (.agg #[.int .u64 0,.string ⟨#[]⟩]) 2 24 Tryz.underlying39 hi0 hz0 hz1 hz2 rfl (by decide)
          (.slice a m c) m (pc ps) (row_alloc h _) ⟨w.heap.size,0,none⟩ 1 1 [.int .u64 k,.string s] rfl (cells_two_new w _ _ _) (by simp[Value.oneCell']) (by unfold maxLen;omega) (by omega) (by simp;omega)
 obtain⟨a',c',rfl⟩:=row_form hown'
 refine⟨a',c',w',hrun,?_,(Only.of_below hB _).trans (Only.of_grown (f:=(Value.slice a m c).ownBlock.toList) hgrow fun q hq=>by simp[hq]) (fun x hx=>Or.inl hx),fun q hq=> ?_⟩
 ·rw[pc_append];exact hown'
 ·rcases hob with ho | ho
  ·exact Or.inl (ho▸hq)
  ·right;rw[ho] at hq;have:(w.alloc (.cells #[.int .u64 k,.string s] 96)).drew.heap.size=q:=by simpa using hq
   simp at this;omega
structure ScanAt (w2:World) (bt base:Nat) (lo hi lim:Int) (ps:PairL) (k:Nat) (a:Option Addr) (m c:Nat) (wr:World):Prop where
 blk:Blk wr bt 41 #[.int .i64 0,.string ⟨#[]⟩,.slice a m c]
 len:m=(bL lo hi (ps.take k)).length
 row:wr.ownsRow base 96 2 (.slice a m c) m (pc (bL lo hi (ps.take k)))
 few:m≤lim.toNat
 only:Only [bt] w2 wr
theorem ScanAt.drewN {w2:World} {bt base:Nat} {lo hi lim:Int} {ps:PairL} {k:Nat} {a:Option Addr} {m c:Nat} {wr:World} (h:ScanAt w2 bt base lo hi lim ps k a m c wr) (n:Nat):ScanAt w2 bt base lo hi lim ps k a m c (wr.drewN n):=
 ⟨h.blk.drewN n,h.len,h.row,h.few,h.only.drewN n⟩
theorem ScanAt.next {w2:World} {bt base:Nat} {lo hi lim:Int} {ps:PairL} {k:Nat} {a:Option Addr} {m c:Nat} {wr w':World} {a':Option Addr} {c':Nat} (h:ScanAt w2 bt base lo hi lim ps k a m c wr) (hk:k<ps.length) (hin:lo≤ps[k].1∧ps[k].1≤hi) (hm:m<lim.toNat) (hbt:bt<base) (hbase:w2.heap.size≤base)
  (hr:w'.ownsRow base 96 2 (.slice a' (m+1) c') (m+1) (pc (bL lo hi (ps.take k)++[ps[k]]))) (ho:Only (Value.slice a m c).ownBlock.toList wr w') (hq: ∀q,(Value.slice a' (m+1) c').ownBlock=some q→(Value.slice a m c).ownBlock=some q∨wr.heap.size≤q):
  ScanAt w2 bt base lo hi lim ps (k+1) a' (m+1) c' (w'.setCell ⟨bt,2,none⟩ (.slice a' (m+1) c')):=by
 have hb:bL lo hi (ps.take (k+1))=bL lo hi (ps.take k)++[ps[k]]:=by rw[bL_take lo hi ps k hk,if_pos hin]
 have hnf:bt∉ (Value.slice a m c).ownBlock.toList:=fun hx=>by
  have:=(row_lt h.row bt (by simpa using hx)).1;omega
 refine⟨?_,by rw[hb,List.length_append,←h.len];rfl,?_,hm,?_⟩
 ·exact(ho.blk h.blk hnf).set_ 2 _
 ·rw[hb]
  refine ownsRow_setCell_other (a:=⟨bt,2,none⟩) hr (fun he=> ?_) _
  have:=(row_lt hr bt he).1;omega
 ·exact(h.only.trans (g:=(Value.slice a m c).ownBlock.toList) (f:=[bt]) ho fun x hx=>Or.inr (by
   have h1:=(row_lt h.row x (by simpa using hx)).1;omega)).setCell (Or.inl (by simp)) _
theorem ScanAt.far {w2:World} {bt base:Nat} {lo hi lim:Int} {ps:PairL} {k:Nat} {a:Option Addr} {m c:Nat} {wr:World} (h:ScanAt w2 bt base lo hi lim ps k a m c wr) (hbt:bt<base):bt∉ (Value.slice a m c).ownBlock.toList:=fun hx=>by
 have:=(row_lt h.row bt (by simpa using hx)).1;omega
theorem ScanAt.done {w2:World} {bt base:Nat} {lo hi lim:Int} {ps:PairL} {k:Nat} {a:Option Addr} {m c:Nat} {wr:World} (h:ScanAt w2 bt base lo hi lim ps k a m c wr) (hq:scanL lo hi lim ps=bL lo hi (ps.take k)) {b B:Nat} (hb:b<base) (hB:B≤base) (x y z:Value):
  (((wr.setCell ⟨b,0,none⟩ x).setCell ⟨b,1,none⟩ y).setCell ⟨b,2,none⟩ z).ownsRow B 96 2 (.slice a m c) (scanL lo hi lim ps).length (pc (scanL lo hi lim ps)):=by
 rw[hq,←h.len]
 exact row_up ((only_set3 _ _ _).own (row_zero h.row) (fun q hk hx=>by have:=(row_lt h.row q hk).1;simp at hx;omega)) (fun q hk=>by have:=(row_lt h.row q hk).1;omega)
theorem ScanAt.skip {w2:World} {bt base:Nat} {lo hi lim:Int} {ps:PairL} {k:Nat} {a:Option Addr} {m c:Nat} {wr:World} (h:ScanAt w2 bt base lo hi lim ps k a m c wr) (hk:k<ps.length) (hin: ¬(lo≤ps[k].1∧ps[k].1≤hi)):ScanAt w2 bt base lo hi lim ps (k+1) a m c wr:=by
 have hb:bL lo hi (ps.take (k+1))=bL lo hi (ps.take k):=by rw[bL_take lo hi ps k hk,if_neg hin]
 exact⟨h.blk,by rw[hb];exact h.len,by rw[hb];exact h.row,h.few,h.only⟩
theorem RDo_scan (r:Nat) (v:Value) (key hi lim:Int) (s:ByteArray) (L:RL) (w:World) (h:RefIs w r v L) (hbd:boundsErr key hi lim=0):
  Calls Tryz.prog 36 #[.pointer (some ⟨r,0,none⟩),.agg #[.int .i64 4,.int .u64 key,.int .u64 hi,.int .i64 lim,.string s]] w (RPost w r v L 0 ⟨#[]⟩ (scanL key hi lim (absLQ L))):=by
 have HH:=hid h
 obtain⟨hlo,hl1,hl2⟩:=bounds_ok hbd
 obtain⟨fz,hfz⟩: ∃fz,fz=findZ key L:=⟨_,rfl⟩
 have HF:=hid hfz
 have HM:=hid (may_zero (op:=4) (key:=key) (hi:=hi) (lim:=lim) (n:=s.size) (Or.inr (Or.inr (Or.inr ⟨rfl,hbd⟩))))
 have hbl:=Blk.new (w.alloc (.cells #[.int .i64 4,.int .u64 key,.int .u64 hi,.int .i64 lim,.string s] 106)) 41 #[.int .i64 0,.string ⟨#[]⟩,.slice none 0 0]
 have hbc:=(Blk.new w 106 #[.int .i64 4,.int .u64 key,.int .u64 hi,.int .i64 lim,.string s]).alloc (.cells #[.int .i64 0,.string ⟨#[]⟩,.slice none 0 0] 41)
 have hB:=hid (ba (ba (Below.refl w.heap.size w) (.cells #[.int .i64 4,.int .u64 key,.int .u64 hi,.int .i64 lim,.string s] 106)) (.cells #[.int .i64 0,.string ⟨#[]⟩,.slice none 0 0] 41))
 rw[World.size_alloc] at hbl
 have HB:=hid hbl
 have HC:=hid hbc
 clear hfz h hbd hbl hbc
 go_enter Tryz.func36,Tryz.ntmps36
 go_wp2_with fail
 refine(RMay_z22 4 key hi lim s _).mono ?_
 rintro e v1 ⟨rfl,hb1⟩
 have hb2:=HB.out.bel hb1
 have hb3:=HC.out.bel hb1
 have HH1:=hid (HH.out.bel (bx hB.out hb1))
 have x0:=hb2.cell 0
 have x1:=hb2.cell 1
 have x2:=hb2.cell 2
 have x3:=hb2.frozen 0
 have x4:=hb2.frozen 1
 have x5:=hb2.frozen 2
 have y0:=hb3.cell 0
 have y1:=hb3.cell 1
 have y2:=hb3.cell 2
 have y3:=hb3.cell 3
 have y4:=hb3.cell 4
 have HB2:=hid hb2
 have hz1:=hb1.size
 simp only[World.size_alloc] at hz1
 have c3:w.heap.size+1<v1.heap.size:=by omega
 have c4:w.heap.size<v1.heap.size:=by omega
 clear hb2 hb3
 rw[HM.out]
 go_wp2_with fail
 refine(Find_zQ r v key L _ (HH1.out.bel (by(repeat(first | exact Below.refl _ _ | (refine ba ?_ _) | (refine Below.drew ?_) | (refine below_drewN ?_ _) | (refine Below.alloc ?_ (by first | omega | (simp;done) | (simp;omega)) _) | (refine Below.setCell ?_ (by first | omega | (simp;done) | (simp;omega)) _) | (refine bx ?_ (by assumption)) | (refine Below.trans ?_ (Below.mono (by assumption) (by first | omega | (simp;done) | (simp;omega))))))))).mono ?_
 rintro e v2 ⟨rfl,rfl⟩
 rw[←HF.out]
 go_wp2_with fail
 refine(RPairs_z r v L _ (HH1.out.bel (by(repeat(first | exact Below.refl _ _ | (refine ba ?_ _) | (refine Below.drew ?_) | (refine below_drewN ?_ _) | (refine Below.alloc ?_ (by first | omega | (simp;done) | (simp;omega)) _) | (refine Below.setCell ?_ (by first | omega | (simp;done) | (simp;omega)) _) | (refine bx ?_ (by assumption)) | (refine Below.trans ?_ (Below.mono (by assumption) (by first | omega | (simp;done) | (simp;omega))))))))).mono ?_
 rintro e w2 ⟨pv,rfl,hrow,hb4⟩
 obtain⟨ps,hps⟩: ∃ps,ps=absLQ L:=⟨_,rfl⟩
 rw[←hps] at hrow ⊢
 have hfew:ps.length≤1000000:=by rw[hps];have:=absL_length L;have:=HH.out.few;omega
 obtain⟨pa,pn,hpv⟩:=row_form hrow
 subst hpv
 obtain⟨n,hn⟩: ∃n,n=ps.length:=⟨_,rfl⟩
 rw[←hn] at hrow ⊢ hfew
 have HN:=hid hn
 have HR:=hid hrow
 have HP:=hid hps
 have hz2:=hb4.size
 rw[World.size_alloc] at hz2
 have hT:=hid ((Blk.new v1 41 #[.int .i64 0,.string ⟨#[]⟩,.slice none 0 0]).bel hb4)
 have hC:=hid ((HC.out.bel hb1).bel (w':=w2) (bx (ba (Below.refl _ _) _) hb4))
 have hR:=hid ((HB.out.bel hb1).bel (w':=w2) (bx (ba (Below.refl _ _) _) hb4))
 have HB4:=hid (bx (bx hB.out hb1) (bx (ba (Below.refl _ _) _) hb4))
 clear hn hrow hps x0 x1 x2 x3 x4 x5 y0 y1 y2 y3 y4 HB2 hb4
 go_wp2_with fail
 go_loopw [8] (fun i wr=> ∃(k:Nat) (a:Option Addr) (m c:Nat),k≤n∧i= .int .i64 k∧Hid (ScanAt w2 v1.heap.size w2.heap.size key hi lim ps k a m c wr)) (fun i _=>(n- (intOf i).toNat))
 case atStart=>exact⟨0,none,0,0,by omega,rfl,⟨hT.out,by simp[bL],⟨rfl,Or.inl ⟨rfl,rfl⟩⟩,by omega,Only.refl _ _⟩⟩
 case round=>
  obtain⟨k,a,m,c,hk,rfl,hS⟩:=hrel
  have hb5:=hS.out.only.blk hC.out (by simp;omega)
  have hb6:=hS.out.only.blk hR.out (by simp;omega)
  have hb7:=hS.out.blk
  have x0:=hb6.cell 0
  have x1:=hb6.cell 1
  have x2:=hb6.cell 2
  have x3:=hb6.frozen 0
  have x4:=hb6.frozen 1
  have x5:=hb6.frozen 2
  have y1:=hb5.cell 1
  have y2:=hb5.cell 2
  have y3:=hb5.cell 3
  have m0:=hb7.cell 0
  have m1:=hb7.cell 1
  have m2:=hb7.cell 2
  have m3:=hb7.frozen 2
  have hmf:=hS.out.few
  have q1:w.heap.size+1≠v1.heap.size:=by omega
  clear hb5 hb6 hb7
  by_cases hlt:k<n
  ·have hkl:k<ps.length:=by have:=HN.out;omega
   have hrow:=(hS.out.only.own HR.out (fun q hq hx=>by have:=(row_lt HR.out q hq).1;simp at hx;simp at this;omega))
   have hnil: ∃g,pa=some ⟨g,0,none⟩:=by
    rcases hrow.2 with⟨h0,_⟩ | ⟨g,cap,cur,h0,_⟩
    ·injection h0 with _ h0 _;omega
    ·injection h0 with h0 _ _;exact⟨g,h0⟩
   obtain⟨g,rfl⟩:=hnil
   obtain⟨z0,z1⟩:=row_atQ hrow HN.out.symm k hkl
   obtain⟨K,hK⟩: ∃K,K=ps[k].1:=⟨_,rfl⟩
   obtain⟨S,hSS⟩: ∃S,S=ps[k].2:=⟨_,rfl⟩
   rw[←hK] at z0
   rw[←hSS] at z1
   have HK:=hid hK
   have HSS:=hid hSS
   have hgl:=(row_lt HR.out g rfl)
   have hgw:g<wr.heap.size:=by have:=hS.out.only.size;omega
   have htw:v1.heap.size<wr.heap.size:=by have:=hS.out.only.size;omega
   have i1:(0:Int)≤(k:Int):=by omega
   have i2:(k:Int)< (n:Int):=by omega
   clear hK hSS hrow
   by_cases hm:m<lim.toNat
   ·have i3:(m:Int)<lim:=by omega
    by_cases t1:K≥key
    ·have d1:decide (K≥key)=true:=by simpa using t1
     by_cases t2:K≤hi
     ·have d2:decide (K≤hi)=true:=by simpa using t2
      go_wp2
      go_quiet (fail)
      have hS2:=hS.out.drewN nq
      have u0:(wr.drewN nq).cell? ⟨g,k*2,none⟩=some (.int .u64 K):=z0
      have u1:(wr.drewN nq).cell? ⟨g,k*2+1,none⟩=some (.string S):=z1
      have u2:(wr.drewN nq).cell? ⟨v1.heap.size,2,none⟩=some (.slice a m c):=m2
      generalize wr.drewN nq=W at hS2 u0 u1 u2 ⊢
      obtain⟨a',c',w',hrun,hr',ho',hq'⟩:=pair_append hS2.row K S (by omega) (by have:=hS2.only.size;omega)
      have hS3:Hid (ScanAt w2 v1.heap.size w2.heap.size key hi lim ps (k+1) a' (m+1) c' (w'.setCell ⟨v1.heap.size,2,none⟩ (.slice a' (m+1) c'))):=
       hS2.next hkl (by rw[←HK.out];exact⟨t1,t2⟩) hm (by omega) (Nat.le_refl _) (by rw[show ps[k]=(K,S) from by rw[HK.out,HSS.out]];exact hr') ho' hq'
      have hbt:=ho'.blk hS2.blk (hS2.far (by omega))
      have n2:=hbt.cell 2
      have n3:=hbt.frozen 2
      have z2:(W.alloc (.cells #[.int .u64 K,.string S] 96)).cell? ⟨g,k*2,none⟩=some (.int .u64 K):=ca _ u0
      have z3:(W.alloc (.cells #[.int .u64 K,.string S] 96)).cell? ⟨g,k*2+1,none⟩=some (.string S):=ca _ u1
      have z5:(W.alloc (.cells #[.int .u64 K,.string S] 96)).cell? ⟨v1.heap.size,2,none⟩=some (.slice a m c):=ca _ u2
      have HRUN:=hid hrun
      clear hS2 hrun hr' ho' hq' hbt
      go_wp2
      go_region_law (refine step_append_runI rfl (.tmp 106) (.tmp 111) 39 39 rfl _ _ (by simp[Act.eval]) (by simp[Act.eval]) HRUN.out ?_)
      all_goals
       try go_simp
       try simp only[Act.put,List.setIfInBounds_toArray,List.set_cons_zero,List.set_cons_succ]
       go_wp2
       go_roundw
       case rel=>exact⟨k+1,a',m+1,c',by omega,by go_num,hS3⟩
       case measure=>simp[intOf];omega
     ·have d2:decide (K≤hi)=false:=by simpa using t2
      have hS3:Hid (ScanAt w2 v1.heap.size w2.heap.size key hi lim ps (k+1) a m c wr):=hS.out.skip hkl (by rw[←HK.out];exact fun hx=>t2 hx.2)
      go_wp2
      go_quiet (fail)
      have hS4:=hid (hS3.out.drewN nq)
      clear hS hS3
      go_wp2
      go_roundw
      case rel=>exact⟨k+1,a,m,c,by omega,by go_num,hS4⟩
      case measure=>simp[intOf];omega
    ·have d1:decide (K≥key)=false:=by simpa using t1
     have hS3:Hid (ScanAt w2 v1.heap.size w2.heap.size key hi lim ps (k+1) a m c wr):=hS.out.skip hkl (by rw[←HK.out];exact fun hx=>t1 hx.1)
     go_wp2
     go_quiet (fail)
     have hS4:=hid (hS3.out.drewN nq)
     clear hS hS3
     go_wp2
     go_roundw
     case rel=>exact⟨k+1,a,m,c,by omega,by go_num,hS4⟩
     case measure=>simp[intOf];omega
   ·have i3: ¬(m:Int)<lim:=by omega
    have hml:=hid (scan_cut (lo:=key) (hi:=hi) (lim:=lim) (ps:=ps) (k:=k) (by have:=hS.out.len;omega))
    go_wp2
    refine bodyPost_ret (v:= .agg #[.int .i64 0,.string ⟨#[]⟩,.slice a m c]) (by simp[results,Tryz.results36,go_sem,x0,x1,x2]) rfl ?_
    rw[←HP.out]
    exact RPost.bel HH.out (((((HB4.out.trans (hS.out.only.below (B:=w.heap.size) (by simp;omega) (by omega))).setCell (p:=⟨w.heap.size+1,0,none⟩) (Nat.le_succ _) _).setCell (p:=⟨w.heap.size+1,1,none⟩) (Nat.le_succ _) _).setCell (p:=⟨w.heap.size+1,2,none⟩) (Nat.le_succ _) _)) (hS.out.done hml.out (b:=w.heap.size+1) (B:=w.heap.size) (by omega) (by omega) _ _ _)
  ·have hml:=hid (scan_all (lo:=key) (hi:=hi) (lim:=lim) (ps:=ps) (by have h1:=hS.out.len;rw[List.take_of_length_le (by have:=HN.out;omega)] at h1;omega))
   have hml2:Hid (scanL key hi lim ps=bL key hi (ps.take k)):=by rw[List.take_of_length_le (by have:=HN.out;omega)];exact hml.out
   obtain rfl:k=n:=by omega
   go_wp2
   refine bodyPost_ret (v:= .agg #[.int .i64 0,.string ⟨#[]⟩,.slice a m c]) (by simp[results,Tryz.results36,go_sem,x0,x1,x2]) rfl ?_
   rw[←HP.out]
   exact RPost.bel HH.out (((((HB4.out.trans (hS.out.only.below (B:=w.heap.size) (by simp;omega) (by omega))).setCell (p:=⟨w.heap.size+1,0,none⟩) (Nat.le_succ _) _).setCell (p:=⟨w.heap.size+1,1,none⟩) (Nat.le_succ _) _).setCell (p:=⟨w.heap.size+1,2,none⟩) (Nat.le_succ _) _)) (hS.out.done hml2.out (b:=w.heap.size+1) (B:=w.heap.size) (by omega) (by omega) _ _ _)
end Go.Proofs.YtjmaicckkkdjpaaGreat
