import Derived.WalkMore
import Derived.Test.YtjmaicckkkdjpaaGreatF21
/- Blocks: how many there is room for, what one is. -/
set_option maxRecDepth 100000
set_option maxHeartbeats 2000000
set_option linter.unusedVariables false
set_option linter.unusedSimpArgs false
namespace Go.Proofs.YtjmaicckkkdjpaaGreat
open Go.RowKit
def noughtN (hd:List (Int×Int)) (k:Nat):Nat:=((hd.take k).drop 1).countP fun x=>x.1==0
theorem noughtN_le (hd:List (Int×Int)) (k:Nat):noughtN hd k≤hd.length:=by
 unfold noughtN
 refine Nat.le_trans List.countP_le_length ?_
 simp;omega
def roomSA (A:SA) (c:Nat):Nat:=noughtN A.hd A.hd.length*nb c+(A.fr c).length
theorem nb_pos {c:Nat} (hc:1≤c∧c≤3):1≤nb c:=by
 have:c=1∨c=2∨c=3:=by omega
 rcases this with rfl | rfl | rfl<;>decide
theorem noclass_z (q b:Int) (w:World):Calls Tryz.prog 111 #[.agg #[.int .i64 q,.int .u64 b]] w fun e w'=>e= .returned (.bool (q==0))∧Below w.heap.size w w':=by
 go_enter Tryz.func111,Tryz.ntmps111
 go_wp2
 go_ret
 exact⟨rfl,ba (Below.refl _ _) _⟩
theorem idxHead_z (N:Nat) (B:SB) (V:Nat→Value) (size:Int) (A:SA) (n:Nat) (w:World) (h:SlabIs w N B V size A) (hl:A.hd.length=1+n) (hn:n≤64):
  Calls Tryz.prog 110 #[.slice (some ⟨B.h,2,none⟩) n n,.func (.func 111) #[] #[]] w fun e w'=>Below w.heap.size w w'∧
   ((e= .returned (.int .i64 (-1))∧ ∀j (hj:j+1<A.hd.length),A.hd[j+1].1≠0)∨ ∃j,∃hj:j+1<A.hd.length,e= .returned (.int .i64 (j:Int))∧A.hd[j+1].1=0∧Hid (∀j' (hj':j'+1<A.hd.length),j'<j→A.hd[j'+1].1≠0)):=by
 have H:=hid h
 have HL:=hid hl
 clear h hl
 go_enter Tryz.func110,Tryz.ntmps110
 go_wp2
 go_loopw [8] (fun i wr=> ∃k:Nat,k≤n∧i= .int .i64 k∧Hid (Below w.heap.size w wr)∧Hid (∀j (hj:j+1<A.hd.length),j<k→A.hd[j+1].1≠0)) (fun i _=>(n- (intOf i).toNat))
 case atStart=>exact⟨0,by omega,rfl,Below.refl _ _,fun j _ hj=>by omega⟩
 case round=>
  obtain⟨k,hk,rfl,hb,hN⟩:=hrel
  by_cases hlt:k<n
  ·have hkl:k+1<A.hd.length:=by rw[HL.out];omega
   have hs:=H.out.bel hb.out
   obtain⟨q,hq⟩: ∃q,q=A.hd[k+1].1:=⟨_,rfl⟩
   obtain⟨b,hbb⟩: ∃b,b=A.hd[k+1].2:=⟨_,rfl⟩
   have hg:=headC_get A.hd (k+1) hkl
   rw[←hq,←hbb] at hg
   have y0:wr.cell? ⟨B.h,2+k*2,none⟩=some (.int .i64 q):=by
    rw[hs.hdr.cell,show 2+k*2=2*(k+1) by omega,List.getElem?_toArray];exact hg.1
   have y1:wr.cell? ⟨B.h,2+k*2+1,none⟩=some (.int .u64 b):=by
    rw[hs.hdr.cell,show 2+k*2+1=2*(k+1)+1 by omega,List.getElem?_toArray];exact hg.2
   have k0:(0:Int)≤(k:Int):=by omega
   have k1:(k:Int)< (n:Int):=by omega
   have HQ:=hid hq
   clear hs hg hq hbb
   go_wp2_with fail
   refine(noclass_z q b wr).mono ?_
   rintro e w3 ⟨rfl,hb3⟩
   have HB3:=hid (hb.out.trans (hb3.mono hb.out.size))
   clear hb3
   by_cases hq0:q=0
   ·have t0:(q==0)=true:=by simp[hq0]
    rw[t0]
    have hf:Hid (A.hd[k+1].1=0):=HQ.out.symm.trans hq0
    clear hq0
    go_wp2
    go_ret
    exact⟨HB3.out,Or.inr ⟨k,hkl,rfl,hf.out,hN⟩⟩
   ·have t0:(q==0)=false:=by simp[hq0]
    rw[t0]
    have hN':Hid (∀j (hj:j+1<A.hd.length),j<k+1→A.hd[j+1].1≠0):=fun j hj hjk=>by
     by_cases e:j=k
     ·subst e;rw[←HQ.out];exact hq0
     ·exact hN.out j hj (by omega)
    clear hq0 hN
    go_wp2
    go_roundw
    case rel=>exact⟨k+1,by omega,by go_num,HB3,hN'⟩
    case measure=>simp[intOf];omega
  ·obtain rfl:k=n:=by omega
   have k1: ¬(k:Int)< (k:Int):=by omega
   go_wp2
   go_ret
   exact⟨hb.out,Or.inl ⟨rfl,fun j hj=>hN.out j hj (by have:=HL.out;omega)⟩⟩
def takeSA (A:SA) (c:Nat):SA:={ A with fr:=updN A.fr c (popL (A.fr c)).dropLast,is:=isSet A.is (at0 (A.fr c) 0) 1 }
structure RsvPost (w:World) (N:Nat) (B:SB) (V:Nat→Value) (size:Int) (A:SA) (c:Nat) (e:Ending) (W':World):Prop where
 ok:(∃A',∃V',(A'=A∧A.fr c≠[]∨A.fr c=[]∧ ∃j,∃hj:j+1<A.hd.length,A.hd[j+1].1=0∧A'=giveSA A (j+1) c∧ ∀j' (hj':j'+1<A.hd.length),j'<j→A.hd[j'+1].1≠0)∧e= .returned (.tuple #[.int .u64 (at0 (A'.fr c) 0),.int .i64 0])∧SlabIs W' N B V' size (takeSA A' c)∧Moved B V V' w W')∨
  (A.fr c=[]∧(∀j (hj:j+1<A.hd.length),A.hd[j+1].1≠0)∧e= .returned (.tuple #[.int .u64 0,.int .i64 4])∧SlabIs W' N B V size A∧Moved B V V w W')
theorem take_put {w:World} {N:Nat} {B:SB} {V:Nat→Value} {size:Int} {A:SA} (h:SlabIs w N B V size A) (hN:N≤w.heap.size) {c:Nat} (hc:c<4) (hx:(A.fr c).length≤100000) (h0:A.fr c≠[]):
  Calls Tryz.prog 109 #[.pointer (some ⟨B.f c,0,none⟩)] w fun e w'=>e= .returned (.tuple #[.int .u64 (at0 (A.fr c) 0),.bool true])∧ ∃V',SlabIs w' N B V' size { A with fr:=updN A.fr c (popL (A.fr c)).dropLast }∧Moved B V V' w w':=by
 refine(FTake_some (B.f c) (V c) (A.fr c) hx h0 w (h.fre c hc)).mono ?_
 rintro e w' ⟨rfl,v',h1,h2,h3⟩
 obtain⟨g1,g2,g3⟩:=h.free hN hc h1 h2 (Or.inl h3)
 exact⟨rfl,_,g1,⟨g2,g3⟩⟩
theorem putL_ne (xs:List Int) (a:Int):putL xs a≠[]:=by
 unfold putL
 split
 ·rename_i h;intro e;rw[e] at h;cases h
 ·intro e
  have:=congrArg List.length e
  rw[upF_length] at this
  simp at this
theorem giveSA_ne (A:SA) (i:Nat) {c:Nat} (hc:1≤c∧c≤3):(giveSA A i c).fr c≠[]:=by
 unfold giveSA
 obtain⟨k,hk⟩: ∃k,nb c=k+1:=⟨nb c-1,by have:=nb_pos hc;omega⟩
 rw[hk]
 show(updN (giveTo A i c k).fr c (putL ((giveTo A i c k).fr c) (blockZ i c k))) c≠[]
 unfold updN
 rw[if_pos rfl]
 exact putL_ne _ _
theorem giveSA_hd (A:SA) (i c:Nat):(giveSA A i c).hd.length=A.hd.length:=by
 unfold giveSA
 rw[giveTo_hd,List.length_set]
theorem Reserve_z (N:Nat) (B:SB) (V:Nat→Value) (size:Int) (A:SA) (c n:Nat) (w:World) (h:SlabIs w N B V size A) (hN:N≤w.heap.size) (hl:A.hd.length=1+n) (hn:1≤n∧n≤64) (hc:1≤c∧c≤3) (hf:(A.fr c).length≤50000):
  Calls Tryz.prog 61 #[.pointer (some ⟨B.s,0,none⟩),.int .i64 (c:Int)] w fun e w'=>RsvPost w N B V size A c e w':=by
 have hT:=sthere_z _ n w (HasSlabs.of h hl hn)
 rw[decide_eq_true (show 0<n by omega)] at hT
 have HT:=hid hT
 have hp:=nb_pos hc
 have hnb:=nb_eq c
 obtain⟨m,hm⟩: ∃m,m=nb c:=⟨_,rfl⟩
 rw[←hm] at hp hnb
 have hBz:=Blocks_z (c:Int)
 rw[←hnb] at hBz
 have t0:((m:Int)==0)=false:=by simp;omega
 have c0:(0:Int)≤(c:Int):=by omega
 have c4:(c:Int)<4:=by omega
 have HBZ:=hid hBz
 have H:=hid h
 have HNN:=hid hN
 have HL:=hid hl
 have HF:=hid hf
 have HC:=hid hc
 have hc4:c<4:=by omega
 clear h hp hnb hBz hm hl hf hT hN hc
 by_cases h0:A.fr c=[]
 ·go_enter Tryz.func61,Tryz.ntmps61
  go_wp2_with fail
  refine(HT.out).mono ?_
  rintro e w1 ⟨rfl,rfl⟩
  go_wp2_with fail
  refine(HBZ.out w).mono ?_
  rintro e w1 ⟨rfl,hb1⟩
  have hs1:=H.out.bel hb1
  have ycf:=hs1.cf hc4
  have hfr:=hs1.fre c hc4
  rw[h0] at hfr
  have HTN:=hid (FTake_none (B.f c) (V c) w1 hfr)
  have yh:w1.cell? ⟨B.s,1,none⟩=some (.slice (some ⟨B.h,0,none⟩) (n+1) (n+1)):=by have:=hs1.ch;rw[HL.out,Nat.add_comm] at this;exact this
  have HIX:=hid (idxHead_z N B V size A n w1 hs1 HL.out (by omega))
  have HB1:=hid hb1
  have HS1:=hid hs1
  have n1:(1:Int)≤(n:Int)+1:=by omega
  have n2:n+1-1=n:=by omega
  clear hb1 hs1 hfr
  go_wp2_with fail
  refine HTN.out.mono ?_
  rintro e w2 ⟨rfl,rfl⟩
  go_wp2_with fail
  refine HIX.out.mono ?_
  rintro e w3 ⟨hb3,h3⟩
  have hb13:=HB1.out.trans (hb3.mono HB1.out.size)
  have HB3:=hid hb13
  have HS3:=hid (HS1.out.bel hb3)
  clear hb3 hb13 yh ycf
  rcases h3 with⟨rfl,hno⟩ | ⟨j,hj,rfl,hz,hfst⟩
  ·have HNO:=hid hno
   have n3:(-1:Int)<0:=by omega
   clear hno
   go_wp2
   go_ret2
   exact⟨Or.inr ⟨h0,HNO.out,rfl,HS3.out,Moved.of_below HB3.out⟩⟩
  ·have j0: ¬(j:Int)<0:=by omega
   have jl:=HL.out
   have j64:(j:Int)+1≤64:=by omega
   have hN3:N≤w3.heap.size:=Nat.le_trans HNN.out HB3.out.size
   have hG:=give_z N B V size A (j+1) c w3 HS3.out hN3 (by omega) hj hc4 (by have:=HF.out;omega) (by omega)
   rw[show(((j+1:Nat)):Int)=(j:Int)+1 by omega] at hG
   have HG:=hid hG
   have HJ:=hid (show ∃hj:j+1<A.hd.length,A.hd[j+1].1=0 from⟨hj,hz⟩)
   clear hG hz hj jl
   go_wp2_with fail
   refine HG.out.mono ?_
   rintro e w4 ⟨⟨r,rfl⟩,V4,hs4,hm4⟩
   have hA4:=giveSA_ne A (j+1) HC.out
   have hl4:((giveSA A (j+1) c).fr c).length≤100000:=by
    have h1:=giveTo_len A (j+1) c (nb c) c
    have h2:=nb_le c
    have h3:=HF.out
    show((giveTo A (j+1) c (nb c)).fr c).length≤_
    omega
   have HTS:=hid (take_put hs4 (Nat.le_trans hN3 hm4.only.size) hc4 hl4 hA4)
   have ycf4:=hs4.cf hc4
   obtain⟨A4,hAe⟩: ∃A4,A4=giveSA A (j+1) c:=⟨_,rfl⟩
   rw[←hAe] at HTS
   have HAE:=hid hAe
   have HM4:=hid ((Moved.of_below HB3.out:Moved B V V w w3).trans hm4)
   obtain⟨a,hae⟩: ∃a,a=at0 (A4.fr c) 0:=⟨_,rfl⟩
   rw[←hae] at HTS
   have HA:=hid hae
   clear hs4 hm4 hA4 hl4 hAe hae hN3
   go_wp2_with fail
   refine HTS.out.mono ?_
   rintro e w5 ⟨rfl,V5,hs5,hm5⟩
   obtain⟨w6,hrun,hs6,ho6⟩:=hs5.put a 1
   have ym:=hs5.cm
   have HS6:=hid hs6
   have hm6:Moved B V5 V5 w5 w6:=⟨ho6.mono (fun x hx=>by obtain rfl:=List.mem_singleton.1 hx;exact foot_mem.2 ⟨2,role_m B V5⟩),fun _ h=>Or.inl h⟩
   have HM6:=hid ((HM4.out.trans hm5).trans hm6)
   clear hs5 hm5 hs6 ho6 hm6
   go_wp2
   go_ret2
   refine⟨Or.inl ⟨A4,V5,Or.inr ⟨h0,j,HJ.out.1,HJ.out.2,HAE.out,hfst.out⟩,by rw[←HA.out];rfl,?_,HM6.out⟩⟩
   have:=HS6.out
   rw[HA.out] at this
   exact this
 ·have HTS:=hid (fun(w1:World) (hb:Below w.heap.size w w1)=>take_put (H.out.bel hb) (Nat.le_trans HNN.out hb.size) hc4 (Nat.le_trans HF.out (by omega)) h0)
  obtain⟨a,hae⟩: ∃a,a=at0 (A.fr c) 0:=⟨_,rfl⟩
  rw[←hae] at HTS
  have HA:=hid hae
  clear hae
  go_enter Tryz.func61,Tryz.ntmps61
  go_wp2_with fail
  refine(HT.out).mono ?_
  rintro e w1 ⟨rfl,rfl⟩
  go_wp2_with fail
  refine(HBZ.out w).mono ?_
  rintro e w1 ⟨rfl,hb1⟩
  have ycf:=(H.out.bel hb1).cf hc4
  have HB1:=hid hb1
  clear hb1
  go_wp2_with fail
  refine(HTS.out w1 HB1.out).mono ?_
  rintro e w5 ⟨rfl,V5,hs5,hm5⟩
  obtain⟨w6,hrun,hs6,ho6⟩:=hs5.put a 1
  have ym:=hs5.cm
  have HS6:=hid hs6
  have hm6:Moved B V5 V5 w5 w6:=⟨ho6.mono (fun x hx=>by obtain rfl:=List.mem_singleton.1 hx;exact foot_mem.2 ⟨2,role_m B V5⟩),fun _ h=>Or.inl h⟩
  have HM6:=hid (((Moved.of_below HB1.out:Moved B V V w w1).trans hm5).trans hm6)
  clear hs5 hm5 hs6 ho6 hm6
  go_wp2
  go_ret2
  refine⟨Or.inl ⟨A,V5,Or.inl ⟨rfl,h0⟩,by rw[←HA.out];rfl,?_,HM6.out⟩⟩
  have:=HS6.out
  rw[HA.out] at this
  exact this
theorem putL_mem {xs:List Int} {a b:Int} (h:b∈putL xs a):b∈xs∨b=a:=by
 unfold putL at h
 split at h
 ·exact Or.inl h
 ·have:=(upF_perm (xs.length+1) (xs++[a]) xs.length (by simp)).subset h
  simpa using this
theorem putL_nodup {xs:List Int} (h:xs.Nodup) (a:Int):(putL xs a).Nodup:=by
 unfold putL
 split
 ·exact h
 ·rename_i hn
  refine(upF_perm (xs.length+1) (xs++[a]) xs.length (by simp)).nodup_iff.2 ?_
  rw[List.nodup_append]
  refine⟨h,by simp,fun x hx y hy=> ?_⟩
  simp at hy
  subst hy
  intro e
  subst e
  exact hn hx
theorem putL_new {xs:List Int} {a:Int} (h:a∉xs):(putL xs a).length=xs.length+1:=by
 unfold putL
 rw[if_neg h,upF_length];simp
theorem dropA_perm {xs:List Int} {a:Int} (h:a∈xs):(dropA xs a).Perm (xs.erase a):=by
 unfold dropA
 rw[if_pos h]
 refine remL_drop ?_
 rw[List.getElem?_eq_getElem (List.idxOf_lt_length_iff.2 h)]
 simp
theorem dropA_mem {xs:List Int} {a b:Int} (h:b∈dropA xs a):b∈xs:=by
 by_cases ha:a∈xs
 ·exact List.mem_of_mem_erase ((dropA_perm ha).subset h)
 ·unfold dropA at h
  rw[if_neg ha] at h
  exact h
theorem dropA_nodup {xs:List Int} (h:xs.Nodup) (a:Int):(dropA xs a).Nodup:=by
 by_cases ha:a∈xs
 ·exact(dropA_perm ha).nodup_iff.2 (h.erase a)
 ·unfold dropA
  rw[if_neg ha]
  exact h
theorem popL_last {xs:List Int} (hx:xs≠[]):(popL xs)[xs.length-1]?=some (at0 xs 0):=by
 have:=List.length_pos_iff.2 hx
 unfold popL
 by_cases h1:xs.length=1
 ·rw[h1]
  show(swapL xs 0 0)[0]?=_
  rw[swapL_last (by omega) (by omega)]
 ·rw[downF_get _ _ _ _ _ (by omega) (Nat.le_refl _)]
  exact swapL_last (by omega) (by omega)
theorem popL_drop {xs:List Int} (hx:xs≠[]):(popL xs).dropLast.Perm (xs.erase (at0 xs 0)):=dropLast_perm (popL_perm hx) (popL_last hx)
theorem at0_mem {xs:List Int} (hx:xs≠[]):at0 xs 0∈xs:=by
 have:=List.length_pos_iff.2 hx
 rw[at0_get this]
 exact List.getElem_mem this
def clsOf (A:SA) (i:Nat):Int:=(A.hd.getD i (0,0)).1
def BlkOf (A:SA) (n c:Nat) (a:Int):Prop:= ∃i j:Nat,1≤i∧i≤n∧j<nb c∧clsOf A i=(c:Int)∧a=blockZ i c j
structure FrOK (A:SA) (n c:Nat):Prop where
 nd:(A.fr c).Nodup
 of: ∀a∈A.fr c,BlkOf A n c a
theorem giveTo_other (A:SA) (i c k d:Nat) (hd:d≠c):(giveTo A i c k).fr d=A.fr d:=by
 induction k with
 | zero=>rfl
 | succ k ih=>
  show(updN (giveTo A i c k).fr c _) d=_
  unfold updN
  rw[if_neg hd,ih]
theorem giveTo_mem (A:SA) (i c k:Nat) {a:Int} (h:a∈(giveTo A i c k).fr c):a∈A.fr c∨ ∃j,j<k∧a=blockZ i c j:=by
 induction k with
 | zero=>exact Or.inl h
 | succ k ih=>
  have h':a∈(updN (giveTo A i c k).fr c (putL ((giveTo A i c k).fr c) (blockZ i c k))) c:=h
  unfold updN at h'
  rw[if_pos rfl] at h'
  rcases putL_mem h' with h1 | h1
  ·rcases ih h1 with h2 | ⟨j,h2,h3⟩
   ·exact Or.inl h2
   ·exact Or.inr ⟨j,by omega,h3⟩
  ·exact Or.inr ⟨k,by omega,h1⟩
theorem giveTo_nodup (A:SA) (i c k:Nat) (h:(A.fr c).Nodup):((giveTo A i c k).fr c).Nodup:=by
 induction k with
 | zero=>exact h
 | succ k ih=>
  show((updN (giveTo A i c k).fr c (putL ((giveTo A i c k).fr c) (blockZ i c k))) c).Nodup
  unfold updN
  rw[if_pos rfl]
  exact putL_nodup ih _
theorem blockZ_inj {i c j j':Nat} (hi:1≤i∧i≤64) (hc:1≤c∧c≤3) (hj:j<nb c) (hj':j'<nb c) (h:blockZ i c j=blockZ i c j'):j=j':=by
 have hnb:=nb_eq c
 unfold blockZ at h
 rw[if_pos ⟨by omega,by omega,by omega,by omega⟩,if_pos ⟨by omega,by omega,by omega,by omega⟩] at h
 have hb:bytesZ (c:Int)=64*(c:Int):=by unfold bytesZ;rw[if_pos (by omega)]
 rw[hb] at h
 have:c=1∨c=2∨c=3:=by omega
 rcases this with rfl | rfl | rfl<;>omega
theorem giveTo_full (A:SA) (i:Nat) {c:Nat} (hi:1≤i∧i≤64) (hc:1≤c∧c≤3) (h0:A.fr c=[]): ∀k,k≤nb c→((giveTo A i c k).fr c).length=k:=by
 intro k
 induction k with
 | zero=>intro _;show(A.fr c).length=0;rw[h0];rfl
 | succ k ih=>
  intro hk
  show((updN (giveTo A i c k).fr c (putL ((giveTo A i c k).fr c) (blockZ i c k))) c).length=_
  unfold updN
  rw[if_pos rfl,putL_new,ih (by omega)]
  intro hm
  rcases giveTo_mem A i c k hm with h1 | ⟨j,h1,h2⟩
  ·rw[h0] at h1;cases h1
  ·have:=blockZ_inj hi hc (show k<nb c by omega) (show j<nb c by omega) h2
   omega
theorem giveSA_cls (A:SA) (i c d:Nat) (hi:i<A.hd.length):clsOf (giveSA A i c) d=if d=i then(c:Int) else clsOf A d:=by
 unfold clsOf giveSA
 rw[giveTo_hd]
 by_cases e:d=i
 ·subst e
  rw[if_pos rfl]
  simp[List.getD,hi]
 ·rw[if_neg e]
  simp[List.getD,List.getElem?_set_ne (Ne.symm e)]
theorem hdSA_cls (A:SA) (i b d:Nat):clsOf (hdSA A i b) d=clsOf A d:=by
 unfold clsOf hdSA
 by_cases e:d=i
 ·subst e
  by_cases hl:d<A.hd.length
  ·simp[List.getD,hl]
  ·show((A.hd.set d _).getD d (0,0)).1=_
   rw[List.set_eq_of_length_le (Nat.le_of_not_lt hl)]
 ·simp[List.getD,List.getElem?_set_ne (Ne.symm e)]
theorem bitsSA_cls (A:SA) (i c:Nat) (l:List (Fin 64)) (d:Nat):clsOf (bitsSA A i c l) d=clsOf A d:=by
 unfold clsOf;rw[bitsSA_hd]
theorem bitsSA_fr (A:SA) (i c:Nat) (l:List (Fin 64)) (d:Nat) (h:(A.fr d).Nodup):((bitsSA A i c l).fr d).Nodup∧ ∀a∈(bitsSA A i c l).fr d,a∈A.fr d:=by
 unfold bitsSA
 induction l generalizing A with
 | nil=>exact⟨h,fun _ h=>h⟩
 | cons x l ih=>
  rw[List.foldl_cons]
  have h1:((useSA A i c x.val).fr d).Nodup∧ ∀a∈(useSA A i c x.val).fr d,a∈A.fr d:=by
   show((updN A.fr c (dropA (A.fr c) (blockZ i c x.val))) d).Nodup∧_
   unfold updN
   by_cases e:d=c
   ·subst e
    simp only[if_true]
    refine⟨dropA_nodup h _,fun a ha=> ?_⟩
    have ha':a∈(updN A.fr d (dropA (A.fr d) (blockZ i d x.val))) d:=ha
    unfold updN at ha'
    rw[if_pos rfl] at ha'
    exact dropA_mem ha'
   ·simp only[if_neg e]
    refine⟨h,fun a ha=> ?_⟩
    have ha':a∈(updN A.fr c (dropA (A.fr c) (blockZ i c x.val))) d:=ha
    unfold updN at ha'
    rw[if_neg e] at ha'
    exact ha'
  obtain⟨g1,g2⟩:=ih (useSA A i c x.val) h1.1
  exact⟨g1,fun a ha=>h1.2 a (g2 a ha)⟩
theorem ofTo_fr (bs:List Int) (n:Nat): ∀k,k≤n→ ∀c,FrOK (ofTo bs n k) k c:=by
 intro k
 induction k with
 | zero=>exact fun _ c=>⟨List.nodup_nil,fun a ha=>by cases ha⟩
 | succ k ih=>
  intro hk c
  have hi:=ih (by omega)
  have hlen:=ofTo_hd bs n k
  obtain⟨cl,hcl⟩: ∃cl,cl=clsAt bs (k+1):=⟨_,rfl⟩
  obtain⟨b,hb⟩: ∃b,b=bitAt bs (k+1):=⟨_,rfl⟩
  have he:ofTo bs n (k+1)=bitsSA (giveSA (hdSA (ofTo bs n k) (k+1) b) (k+1) cl) (k+1) cl (setBits b):=by
   show oneSA _ _ _ _=_
   rw[hcl,hb];rfl
  rw[he]
  have hcls: ∀d,clsOf (bitsSA (giveSA (hdSA (ofTo bs n k) (k+1) b) (k+1) cl) (k+1) cl (setBits b)) d=if d=k+1 then(cl:Int) else clsOf (ofTo bs n k) d:=fun d=>by
   rw[bitsSA_cls,giveSA_cls _ _ _ _ (by show k+1< ((ofTo bs n k).hd.set _ _).length;rw[List.length_set,hlen];omega),hdSA_cls]
  have hold: ∀a,BlkOf (ofTo bs n k) k c a→BlkOf (bitsSA (giveSA (hdSA (ofTo bs n k) (k+1) b) (k+1) cl) (k+1) cl (setBits b)) (k+1) c a:=by
   rintro a ⟨i,j,h1,h2,h3,h4,h5⟩
   exact⟨i,j,h1,by omega,h3,by rw[hcls,if_neg (by omega)];exact h4,h5⟩
  have hgn:((giveSA (hdSA (ofTo bs n k) (k+1) b) (k+1) cl).fr c).Nodup:=by
   by_cases e:c=cl
   ·rw[e];exact giveTo_nodup _ _ _ _ (hi cl).nd
   ·unfold giveSA;rw[giveTo_other _ _ _ _ _ e];exact(hi c).nd
  obtain⟨g1,g2⟩:=bitsSA_fr _ (k+1) cl (setBits b) c hgn
  refine⟨g1,fun a ha=> ?_⟩
  have h1:=g2 a ha
  by_cases e:c=cl
  ·subst e
   rcases giveTo_mem _ _ _ _ h1 with h2 | ⟨j,h2,h3⟩
   ·exact hold a ((hi c).of a h2)
   ·exact⟨k+1,j,by omega,Nat.le_refl _,h2,by rw[hcls,if_pos rfl],h3⟩
  ·unfold giveSA at h1
   rw[giveTo_other _ _ _ _ _ e] at h1
   exact hold a ((hi c).of a h1)
structure RoomI (A:SA) (n c:Nat) (got:List Int):Prop where
 len:A.hd.length=1+n
 fr:FrOK A n c
 nd:got.Nodup
 of: ∀g∈got,BlkOf A n c g∧g∉A.fr c
theorem noughtN_set (hd:List (Int×Int)) (i:Nat) (c:Int×Int) (hi:1≤i) (hl:i<hd.length) (h0:hd[i].1=0) (hc:c.1≠0):noughtN (hd.set i c) (hd.set i c).length+1=noughtN hd hd.length:=by
 unfold noughtN
 rw[List.length_set,List.take_of_length_le (by simp),List.take_of_length_le (Nat.le_refl _)]
 cases hd with
 | nil=>simp at hl
 | cons x l=>
  obtain⟨m,rfl⟩: ∃m,i=m+1:=⟨i-1,by omega⟩
  simp only[List.set_cons_succ,List.drop_succ_cons,List.drop_zero]
  have hm:m<l.length:=by simpa using hl
  have h0':l[m].1=0:=by simpa using h0
  rw[List.countP_set hm]
  have h2:0<l.countP fun x=>x.1==0:=List.countP_pos_iff.2 ⟨l[m],List.getElem_mem hm,by simp[h0']⟩
  simp[h0',hc]
  omega
theorem RoomI.give {A:SA} {n c:Nat} {got:List Int} (h:RoomI A n c got) (hn:n≤64) (hc:1≤c∧c≤3) (h0:A.fr c=[]) (j:Nat) (hj:j+1<A.hd.length) (hz:A.hd[j+1].1=0):RoomI (giveSA A (j+1) c) n c got∧roomSA (giveSA A (j+1) c) c=roomSA A c:=by
 have hl:=h.len
 have hcj:clsOf A (j+1)=0:=by unfold clsOf;simp[List.getD,hj,hz]
 have hold: ∀a,BlkOf A n c a→BlkOf (giveSA A (j+1) c) n c a:=by
  rintro a ⟨i,x,h1,h2,h3,h4,h5⟩
  refine⟨i,x,h1,h2,h3,?_,h5⟩
  rw[giveSA_cls _ _ _ _ hj,if_neg]
  ·exact h4
  ·intro e
   rw[e,hcj] at h4
   omega
 refine⟨⟨by rw[giveSA_hd];exact hl,⟨giveTo_nodup _ _ _ _ h.fr.nd,fun a ha=> ?_⟩,h.nd,fun g hg=>⟨hold g (h.of g hg).1,fun hm=> ?_⟩⟩,?_⟩
 ·rcases giveTo_mem _ _ _ _ ha with h2 | ⟨x,h2,h3⟩
  ·rw[h0] at h2;cases h2
  ·exact⟨j+1,x,by omega,by omega,h2,by rw[giveSA_cls _ _ _ _ hj,if_pos rfl],h3⟩
 ·rcases giveTo_mem _ _ _ _ hm with h2 | ⟨x,h2,h3⟩
  ·rw[h0] at h2;cases h2
  ·obtain⟨i,y,q1,q2,q3,q4,q5⟩:=(h.of g hg).1
   rw[q5] at h3
   have hnb:=nb_eq c
   have hnl:=nb_le c
   have hij:i=j+1:=by
    unfold blockZ at h3
    rw[if_pos ⟨by omega,by omega,by omega,by omega⟩,if_pos ⟨by omega,by omega,by omega,by omega⟩] at h3
    have hb:bytesZ (c:Int)=64*(c:Int):=by unfold bytesZ;rw[if_pos (by omega)]
    have hb1:nb c*(64*c)≤960:=by
     have:c=1∨c=2∨c=3:=by omega
     rcases this with rfl | rfl | rfl<;>decide
    rw[hb] at h3
    have e1:y*(64*c)≤nb c*(64*c):=Nat.mul_le_mul_right _ (by omega)
    have e2:x*(64*c)≤nb c*(64*c):=Nat.mul_le_mul_right _ (by omega)
    have e3:((y:Int)*(64*(c:Int)))=((y*(64*c):Nat):Int):=by push_cast;rfl
    have e4:((x:Int)*(64*(c:Int)))=((x*(64*c):Nat):Int):=by push_cast;rfl
    rw[e3,e4] at h3
    omega
   rw[hij,hcj] at q4
   omega
 ·unfold roomSA
  have h1:((giveSA A (j+1) c).fr c).length=nb c:=giveTo_full A (j+1) (by omega) hc h0 _ (Nat.le_refl _)
  have h2:(giveSA A (j+1) c).hd=A.hd.set (j+1) ((c:Int),(A.hd.getD (j+1) (0,0)).2):=giveTo_hd _ _ _ _
  have h3:=noughtN_set A.hd (j+1) ((c:Int),(A.hd.getD (j+1) (0,0)).2) (by omega) hj hz (by show(c:Int)≠0;omega)
  rw[h1,h2,h0,←h3,Nat.add_mul,Nat.one_mul]
  simp
theorem RoomI.take {A:SA} {n c:Nat} {got:List Int} (h:RoomI A n c got) (h0:A.fr c≠[]):RoomI (takeSA A c) n c (got++[at0 (A.fr c) 0])∧roomSA (takeSA A c) c+1=roomSA A c∧at0 (A.fr c) 0∉got:=by
 have hm:=at0_mem h0
 have hp:=popL_drop h0
 have hfr:(takeSA A c).fr c=(popL (A.fr c)).dropLast:=by
  show(updN A.fr c _) c=_
  unfold updN;rw[if_pos rfl]
 have hng:at0 (A.fr c) 0∉got:=fun hg=>(h.of _ hg).2 hm
 have hsub: ∀a,a∈(takeSA A c).fr c→a∈A.fr c∧a≠at0 (A.fr c) 0:=by
  intro a ha
  rw[hfr] at ha
  have h1:=hp.subset ha
  exact⟨List.mem_of_mem_erase h1,fun e=>by rw[e] at h1;exact(List.Nodup.mem_erase_iff h.fr.nd).1 h1 |>.1 rfl⟩
 refine⟨⟨h.len,⟨?_,fun a ha=>h.fr.of a (hsub a ha).1⟩,?_,fun g hg=> ?_⟩,?_,hng⟩
 ·rw[hfr];exact hp.nodup_iff.2 (h.fr.nd.erase _)
 ·rw[List.nodup_append]
  refine⟨h.nd,by simp,fun x hx y hy=> ?_⟩
  simp at hy
  subst hy
  intro e
  subst e
  exact hng hx
 ·rcases List.mem_append.1 hg with h1 | h1
  ·exact⟨(h.of g h1).1,fun hm'=>(h.of g h1).2 (hsub g hm').1⟩
  ·simp at h1
   subst h1
   exact⟨h.fr.of _ hm,fun hm'=>(hsub _ hm').2 rfl⟩
 ·unfold roomSA
  have h1:((takeSA A c).fr c).length+1=(A.fr c).length:=by
   rw[hfr,List.length_dropLast,popL_length]
   have:=List.length_pos_iff.2 h0
   omega
  show noughtN A.hd A.hd.length*nb c+((takeSA A c).fr c).length+1=_
  omega
end Go.Proofs.YtjmaicckkkdjpaaGreat
