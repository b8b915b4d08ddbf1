/- The law CheckSound, walked. -/
import Derived.Test.YtibiekfjbibpbaaGreatSqA
import Derived.Test.YtibiekfjbibpbaaGreatSqB
import Derived.Test.YtibiekfjbibpbaaGreatSndF
set_option maxRecDepth 100000
set_option maxHeartbeats 4000000
set_option linter.unusedVariables false
set_option linter.unusedSimpArgs false
namespace Go.Proofs.YtibiekfjbibpbaaGreat
open Go.RowKit
theorem insU_rise {out:List Int} {x:Int} (h:out.Pairwise (· < ·)):(insU out x).Pairwise (· < ·):=by
 unfold insU
 split
 ·exact h
 ·rename_i hne
  obtain⟨a,ha⟩: ∃a,a=atU out x:=⟨_,rfl⟩
  rw[←ha] at hne ⊢
  have hlt: ∀y∈out.take a,y<x:=fun y hy=>by
   rw[ha] at hy
   unfold atU at hy
   have e:out.take (out.takeWhile fun y=>decide (y<x)).length=out.takeWhile fun y=>decide (y<x):=(List.prefix_iff_eq_take.1 (List.takeWhile_prefix _)).symm
   rw[e] at hy
   have:=List.all_eq_true.1 (List.all_takeWhile (p:=fun y=>decide (y<x)) (l:=out)) y hy
   simpa using this
  have hgt: ∀y∈out.drop a,x<y:=by
   cases hd:out.drop a with
   | nil=>intro y hy;cases hy
   | cons z r=>
    have hz:out[a]?=some z:=by
     have h1:(out.drop a)[0]?=some z:=by rw[hd];rfl
     rw[List.getElem?_drop,Nat.add_zero] at h1
     exact h1
    have hnz: ¬z<x:=by
     intro hlt2
     have hdw:out.dropWhile (fun y=>decide (y<x))=z::r:=by
      have e:out.drop (out.takeWhile fun y=>decide (y<x)).length=out.dropWhile fun y=>decide (y<x):=by
       have h1:=List.takeWhile_append_dropWhile (p:=fun y=>decide (y<x)) (l:=out)
       have h2:(out.takeWhile (fun y=>decide (y<x))++out.dropWhile (fun y=>decide (y<x))).drop (out.takeWhile fun y=>decide (y<x)).length=out.dropWhile fun y=>decide (y<x):=List.drop_left
       rw[h1] at h2
       exact h2
      rw[←e]
      unfold atU at ha
      rw[←ha];exact hd
     have:=List.head?_dropWhile_not (fun y=>decide (y<x)) out
     rw[hdw] at this
     simp at this
     omega
    have hzx:z≠x:=fun e=>hne (by rw[hz,e])
    have hp:(z::r).Pairwise (· < ·):=by rw[←hd];exact h.sublist (List.drop_sublist _ _)
    intro y hy
    rcases List.mem_cons.1 hy with rfl | hy
    ·omega
    ·have:=(List.pairwise_cons.1 hp).1 y hy
     omega
  rw[List.pairwise_append]
  refine⟨h.sublist (List.take_sublist _ _),List.pairwise_cons.2 ⟨hgt,h.sublist (List.drop_sublist _ _)⟩,fun y hy z hz=> ?_⟩
  have h1:=hlt y hy
  rcases List.mem_cons.1 hz with rfl | hz
  ·exact h1
  ·have:=hgt z hz;omega
theorem risTo_rise (xs:List Int): ∀i,(q4s xs i).Pairwise (· < ·)
 | 0=>List.Pairwise.nil
 | i+1=>insU_rise (risTo_rise xs i)
theorem risKeys_rise {xs:List Int} (h: ∀y∈xs,U64 y):(q5b xs).Pairwise (· < ·)∧ ∀x∈q5b xs,x<18446744073709551616:=by
 have hin: ∀y∈q4s xs xs.length,U64 y:=fun y hy=>h y (q9v (Nat.le_refl _) y hy)
 refine⟨?_,fun x hx=> ?_⟩
 ·unfold q5b
  rw[List.pairwise_map]
  refine List.Pairwise.imp_of_mem ?_ (risTo_rise xs xs.length)
  intro a b ha hb hab
  have h1:=hin a ha
  have h2:=hin b hb
  unfold U64 at h1 h2
  omega
 ·unfold q5b at hx
  obtain⟨y,hy,rfl⟩:=List.mem_map.1 hx
  have h1:=hin y hy
  unfold U64 at h1
  omega
theorem risKeys_back {xs:List Int} (h: ∀y∈xs,U64 y):(q5b xs).map (fun k:Nat=>(k:Int))=q4s xs xs.length:=by
 unfold q5b
 rw[List.map_map]
 conv=>rhs;rw[←List.map_id (q4s xs xs.length)]
 refine List.map_congr_left fun y hy=> ?_
 have h1:=h y (q9v (Nat.le_refl _) y hy)
 unfold U64 at h1
 show((y.toNat:Nat):Int)=y
 omega
theorem Built.nodes {slabs per lag K:Nat} {keys:List Nat} {bs:List Int} (h:Built slabs keys per lag K bs):q2y (rowsI keys per lag K bs)=(tK keys per lag (K+1):Int):=by
 unfold q2y rowsI
 congr 1
 rw[List.map_map,List.map_reverse,List.sum_reverse]
 have: ∀k,((List.range k).map (List.length∘rowI keys per lag bs)).sum=tK keys per lag k:=by
  intro k
  induction k with
  | zero=>rfl
  | succ k ih=>rw[List.range_succ,List.map_append,List.sum_append,ih];simp[rowI_len];rfl
 exact this (K+1)
theorem laLoadAt (v:Value):Instr.loadAt 24 v=ldM 24 v:=rfl
attribute [local go_sem ↓ high] q6v q7f q7e z2o q0v laLoadAt
attribute [local go_sem] q1x q1p q1v q2t Oper.semAt_some q0h
theorem la_ld {w:World} {b:Nat} {x:La} {kv:Value} (h:Blk w b 24 (laC x kv)):ldR Tryz.prog 24 (.pointer (some ⟨b,0,none⟩)) w= .ok (.agg (laC x kv)) w:=h.ld Tryz.underlying24 rfl (by simp only[laC];kernel_rfl)
theorem CheckSound_z (x:La) (kv:Value) (xs:List Int) (hxs: ∀y∈xs,U64 y) (hxl:xs.length≤9223372036854775807) (hx:I64 x.slabs∧I64 x.per∧I64 x.lag) (w:World) (hK:q1w .u64 w kv xs):
  Calls Tryz.prog 4 #[.agg (laC x kv)] w fun e w'=>e= .returned (.bool true)∧Below w.heap.size w w':=by
 obtain⟨W1,hW1⟩: ∃W1,W1=w.alloc (.cells (laC x kv) 24):=⟨_,rfl⟩
 have hb1:Below w.heap.size w W1:=by rw[hW1];exact ba (Below.refl _ _) _
 have k1:Blk W1 w.heap.size 24 (laC x kv):=by rw[hW1];exact Blk.new _ _ _
 have hld:=la_ld k1
 have AZ:=hid (Arena_z x kv (.slice none 0 0) xs [] hxs (fun s hs=>by cases hs) hxl (by simp) hx W1 (hK.bel hb1) ⟨none,0,rfl,Or.inl rfl⟩)
 have HW1:=hid hW1
 have HB1:=hid hb1
 have HK1:=hid k1
 have HXS:=hid hxs
 have HKV:=hid (hK.bel hb1)
 clear hW1 hb1 k1 hxs hxl hx hK
 go_enter Tryz.func4,Tryz.ntmps4
 go_upto_region 1 with fail
 rw[show _=W1 from HW1.out.symm]
 go_wp2_with fail
 refine AZ.out.mono ?_
 rintro e W2 ⟨hb2,h2⟩
 have HB2:=hid (bx HB1.out hb2)
 have HB12:=hid hb2
 clear hld hb2
 rcases h2 with rfl | ⟨g,b,n,R,lv,rows,R0,rfl,hla,hg,hbb,hSp,hBO,hRR⟩
 ·go_wp2_with fail
  refine(known23_z _).mono ?_
  rintro e w3 ⟨rfl,hb3⟩
  have HB3:=hid (bx HB2.out hb3)
  clear hb3
  go_wp2
  go_ret
  exact⟨rfl,HB3.out⟩
 obtain rfl:=hRR rfl
 obtain⟨l1,l2,l3,l4,l5,l6,l7,_⟩:=hla
 obtain⟨rk1,rk2⟩:=risKeys_rise HXS.out
 have rkl:(q5b xs).length≤40:=by unfold q5b;rw[List.length_map];have:=q7v xs xs.length;omega
 obtain⟨K,hBu,hrows⟩:=build_built hBO (by omega) (by omega) (by omega) rk2 rk1 (by omega) (by omega)
 obtain⟨keys,hkeys⟩: ∃keys,keys=q5b xs:=⟨_,rfl⟩
 obtain⟨bs,hbs⟩: ∃bs,bs=R.bs:=⟨_,rfl⟩
 rw[←hkeys] at hBu hrows rkl
 rw[←hbs] at hBu
 have hwh:=hBu.whole
 have hn:n=bs.length:=by rw[hbs];exact hSp.ar.ln
 have hn1:n≤1000000:=hSp.ar.big
 have hbyt: ∀x∈bs,0≤x∧x<256:=by rw[hbs];exact hSp.ar.byt
 have hkb:Blk W2 b 5 (byC bs):=by rw[hbs];exact hSp.ar.by'
 have hgk:=hSp.ar.blk
 have LK:=hid (v8x (some ⟨b,0,none⟩) n n bs hn hn1 (by omega) W2 (bytesIn_blk hkb hbyt (by omega)))
 have HLV:=hid hSp.lvs
 have HG:=hid hgk
 have c0:W2.cell? ⟨g,0,none⟩=some (.slice (some ⟨b,0,none⟩) n n):=hgk.cell 0
 obtain⟨T,hT⟩: ∃T,T=tK keys x.per.toNat x.lag.toNat (K+1):=⟨_,rfl⟩
 have HBU:=hid (⟨hBu,hwh,hrows,rkl,hT,hkeys⟩:_∧_∧_∧_∧_∧_)
 have hxl40:=l3
 clear hSp hkb hgk hn hn1 hbyt hbs hg hbb l1 l2 l3 l4 l5 l6 l7 rk1 rk2 hBu hwh hrows rkl hBO hkeys hT
 go_wp2_with fail
 refine LK.out.mono ?_
 rintro e w3 ⟨hb3,(⟨rs,ps,leaves,Rr,B,pv,rv,fv,kv',hok,hlf,hperm,hsrt,rfl,hP,hrv,hfv,hkv⟩ | ⟨hno,rfl⟩)⟩
 rotate_left
 ·exact absurd HBU.out.2.1 (hno _ _)
 obtain⟨rfl,rfl⟩:=z7c hok HBU.out.2.1
 obtain rfl:leaves=rowI keys x.per.toNat x.lag.toNat bs 0:=by
  rw[rowsI_last] at hlf
  injection hlf with hlf
  exact hlf.symm
 have hrch:=HBU.out.1.reach hperm
 rw[HBU.out.1.used hrch] at hfv
 rw[HBU.out.1.leaks hrch] at hkv
 have hrl:Rr.length=T+keys.length:=by
  have h1:=hperm.length_eq
  rw[List.length_append,List.length_map,HBU.out.1.allE,ents0_len] at h1
  have h2:=HBU.out.1.nodes
  have h3:((allA (rowsI keys x.per.toNat x.lag.toNat K bs)).length:Int)=q2y (rowsI keys x.per.toNat x.lag.toNat K bs):=by
   unfold allA q2y
   rw[List.length_flatMap]
   simp
  rw[h2,←HBU.out.2.2.2.2.1] at h3
  omega
 unfold rowU at hrv hfv hkv
 obtain⟨pa,pc,rfl⟩:=q0q hP.own
 obtain⟨ra,rc,rfl⟩:=q0q hrv
 obtain⟨fa,fc,rfl⟩:=q0q hfv
 obtain⟨ka,kc,rfl⟩:=q0q hkv
 have hlen0:(rowsI keys x.per.toNat x.lag.toNat K bs).length=K+1:=by unfold rowsI;simp
 have hln:((rowsI keys x.per.toNat x.lag.toNat K bs).length-1:Int)=(K:Int):=by rw[hlen0];omega
 rw[hln,HBU.out.1.nodes,←HBU.out.2.2.2.2.1,hrl,pairs0_len]
 simp only[List.length_nil]
 obtain⟨m,hm⟩: ∃m,m=keys.length:=⟨_,rfl⟩
 obtain⟨kn,hkn⟩: ∃kn,kn=K+1:=⟨_,rfl⟩
 obtain⟨rn,hrn⟩: ∃rn,rn=T+m:=⟨_,rfl⟩
 have hm40:m≤40:=by rw[hm];exact HBU.out.2.2.2.1
 have hT320:T≤320:=by
  have h1:=HBU.out.1.tin
  have h2:=HBU.out.1.s64
  have h3:=HBU.out.2.2.2.2.1
  omega
 rw[←hm,←hrn]
 obtain⟨W9,st9,k9,hb9⟩:=rep_put w3 pa ra fa ka m pc rn rc 0 fc 0 kc (K:Int) (T:Int)
 have HB39:=hid (bx hb3 hb9)
 have HB9:=hid (bx HB2.out HB39.out)
 have ck:W9.cell? ⟨w.heap.size,1,none⟩=some kv:=(((HK1.out.bel HB12.out).bel HB39.out).cell 1)
 have RZ:=hid (v3q xs 40 kv (by omega) (by omega) W9 (HKV.out.bel (bx HB12.out HB39.out)))
 have hpa:=hP.own.mono (Nat.zero_le _)
 have HPS:=hid ((Only.of_below hb9 []).own hP.own (by simp))
 have HK9:=hid k9
 have HNM:=hid (⟨hm,hkn,hrn⟩:_∧_∧_)
 have hk15:K≤15:=HBU.out.1.k15
 clear hb3 hok hlf hperm hsrt hP hrv hfv hkv hrch hrl hlen0 hln hb9 k9 hpa c0 hm hkn hrn
 go_wp2_with fail
 refine RZ.out.mono ?_
 rintro e w10 ⟨hb10,v,j,rfl,hj1,hj2,hj3,hrow⟩
 have hje:j=xs.length:=by
  rcases hj2 with h | h
  ·exact h
  ·have:=q7v xs j
   omega
 subst hje
 rw[←risKeys_back HXS.out,←HBU.out.2.2.2.2.2,List.length_map,←HNM.out.1] at hrow
 obtain⟨va,vc,rfl⟩:=q0q hrow
 have HRW:=hid hrow
 have HB10:=hid (bx HB9.out hb10)
 have hK10:=HK9.out.bel hb10
 have r0:w10.cell? ⟨w3.heap.size,0,none⟩=some (.slice pa m pc):=hK10.cell 0
 have r1:w10.cell? ⟨w3.heap.size,3,none⟩=some (.slice ka 0 kc):=hK10.cell 3
 have r2:w10.cell? ⟨w3.heap.size,2,none⟩=some (.slice fa 0 fc):=hK10.cell 2
 have r3:w10.cell? ⟨w3.heap.size,4,none⟩=some (.int .i64 (K:Int)):=hK10.cell 4
 have hlv:=HLV.out.only (Only.of_below (bx HB39.out hb10) []) (fun k hk=>by cases hk)
 obtain⟨vs,v1,v2,v3⟩:=hlv
 have hrl:rows.length=K+1:=by rw[HBU.out.2.2.1];simp
 rw[hrl,←HNM.out.2.1] at v2
 obtain⟨gl,lc,rfl,_,_,_,hcl⟩:=q2e v2 (by have:=HNM.out.2.1;omega)
 have a7:w10.cell? ⟨g,7,none⟩=some (.slice (some ⟨gl,0,none⟩) kn lc):=((HG.out.bel HB39.out).bel hb10).cell 7
 have wk:IntKind.i64.wrap ((kn:Int)-1)=(K:Int):=by have:=HNM.out.2.1;rw[IntWalk.i64_in _ (by omega)];omega
 have e1:((m:Int) !=(m:Int))=false:=by simp
 have e2:((K:Int) !=(K:Int))=false:=by simp
 have HCL:=hid (⟨hcl,v3⟩:_∧_)
 have HBW:=hid (bx HB39.out hb10)
 have HPS10:=hid ((Only.of_below hb10 []).own HPS.out (by simp))
 have HR10:=hid hK10
 have HA10:=hid ((HG.out.bel HB39.out).bel hb10)
 clear hb10 hj1 hj2 hj3 hrow hK10 v1 v2 v3 hrl hcl ck st9 HPS HK9
 go_wp2
 go_region
 all_goals go_wp2
 have hkn16:kn≤16:=by have:=HNM.out.2.1;omega
 go_loopw [7,8] (fun nv iv wr=> ∃i:Nat,i≤kn∧iv= .int .i64 i∧nv= .int .i64 (tK keys x.per.toNat x.lag.toNat i:Nat)∧Hid (Below w10.heap.size w10 wr)) (fun _ iv _=>kn- (intOf iv).toNat)
 case atStart=>exact⟨0,Nat.zero_le _,rfl,rfl,by first | exact Below.refl _ _ | exact(Below.refl _ _).drewN _ | exact(Below.refl _ _).drew⟩
 case round=>
  obtain⟨i,hi,rfl,rfl,hI⟩:=hrel
  obtain⟨wA,rfl⟩: ∃x,x=wr:=⟨_,rfl⟩
  have a7A:wA.cell? ⟨g,7,none⟩=some (.slice (some ⟨gl,0,none⟩) kn lc):=(HA10.out.bel hI.out).cell 7
  obtain⟨N1,hN1⟩: ∃N1,N1=tK keys x.per.toNat x.lag.toNat i:=⟨_,rfl⟩
  rw[←hN1]
  by_cases hlt:i<kn
  ·have i1:(i:Int)< (kn:Int):=by omega
   have i0:(0:Int)≤(i:Int):=by omega
   have hrow:rows[i]?=some (rowK (uN keys) x.per.toNat x.lag.toNat (ents0 keys) i):=by
    rw[HBU.out.2.2.1,List.getElem?_map,List.getElem?_range (by have:=HNM.out.2.1;omega)];rfl
   obtain⟨v,q1,_,q3⟩:=HCL.out.2 i _ hrow
   obtain⟨ra',rc',rfl⟩:=q0q q3
   have hz:=HCL.out.1 i _ q1
   have hlen:(rowK (uN keys) x.per.toNat x.lag.toNat (ents0 keys) i).length=nK keys x.per.toNat x.lag.toNat i:=rowS_len _ _ _ _ _
   obtain⟨N2,hN2⟩: ∃N2,N2=nK keys x.per.toNat x.lag.toNat i:=⟨_,rfl⟩
   have hN3:tK keys x.per.toNat x.lag.toNat (i+1)=N1+N2:=by rw[hN1,hN2];rfl
   have hN4:N1+N2≤320:=by
    rw[←hN3]
    have h1:=stk_le keys x.per.toNat x.lag.toNat (a:=i+1) (b:=K+1) (by have:=HNM.out.2.1;omega)
    have h2:=HBU.out.2.2.2.2.1
    omega
   rw[Nat.zero_add,hlen,←hN2] at hz
   have hzA:=(hI.out.cell (p:=⟨gl,i,none⟩) (World.block_lt_of_cell? _ _ hz)).trans hz
   have w2:IntKind.i64.wrap ((N1:Int)+(N2:Int))=((N1+N2:Nat):Int):=by rw[IntWalk.i64_in _ (by omega)];omega
   have HN:=hid (⟨hN3,hlt⟩:_∧_)
   clear hlt hi hrow q1 q3 hz hlen hN1 hN2 hN3
   go_wp2
   go_roundw
   case rel=>exact⟨i+1,HN.out.2,by go_num,by rw[HN.out.1];congr 1,hI⟩
   case measure=>have:=HN.out.2;first | (simp[intOf];done) | (simp[intOf];omega)
  ·have i1: ¬(i:Int)< (kn:Int):=by omega
   have hNT:N1=T:=by
    rw[hN1,HBU.out.2.2.2.2.1,show i=K+1 by have:=HNM.out.2.1;omega]
   subst hNT
   clear hlt hi hN1
   go_wp2
   go_loopw [9] (fun jv wr=> ∃j:Nat,j≤m∧jv= .int .i64 j∧Hid (Below w10.heap.size w10 wr)) (fun jv _=>m- (intOf jv).toNat)
   case atStart=>exact⟨0,Nat.zero_le _,rfl,hI⟩
   case round=>
    obtain⟨j,hj,rfl,hJ⟩:=hrel
    obtain⟨wB,rfl⟩: ∃x,x=wr:=⟨_,rfl⟩
    by_cases hlt:j<m
    ·have j1:(j:Int)< (m:Int):=by omega
     have j0:(0:Int)≤(j:Int):=by omega
     have hr0:wB.cell? ⟨w3.heap.size,0,none⟩=some (.slice pa m pc):=(HR10.out.bel hJ.out).cell 0
     obtain⟨key,hkey⟩: ∃key:Nat,keys[j]?=some key:=⟨_,List.getElem?_eq_getElem (by have:=HNM.out.1;omega)⟩
     have hk64:key<18446744073709551616:=HBU.out.1.kk _ (List.mem_of_getElem? hkey)
     have hps:=pairs0_at (keys:=keys) (j:=j) (by have:=HNM.out.1;omega)
     rw[List.getD_eq_getElem?_getD,hkey] at hps
     simp only[Option.getD_some] at hps
     obtain⟨S,hS⟩: ∃S,S=strOfNums (numL key):=⟨_,rfl⟩
     rw[←hS] at hps
     have hS120:S.size≤120:=by
      have h1:=z9n hk64
      rw[hS,←q2v,q8p (x0c key)]
      omega
     obtain⟨g6,pc',e6,_,_,_,hc6⟩:=q6o ((Only.of_below hJ.out []).own HPS10.out (by simp)) (by rw[pairs0_len];have:=HNM.out.1;omega)
     injection e6 with e6 en6 en7
     subst e6
     clear en6 en7
     obtain⟨p1,p2⟩:=z5n _ j _ hps
     have y1:=hc6 _ _ p1
     have y2:=hc6 _ _ p2
     rw[Nat.zero_add] at y1 y2
     obtain⟨g7,vc',e8,_,_,_,hc7⟩:=q2e ((Only.of_below hJ.out []).own HRW.out (by simp)) (by omega)
     injection e8 with e8 en8 en9
     subst e8
     clear en8 en9
     have y3:=hc7 j (.int .u64 (key:Int)) (by rw[List.map_map,List.getElem?_map,hkey];rfl)
     rw[Nat.zero_add] at y3
     have hnq:=fun W=>x9l (key:Int) S W ⟨by omega,by omega⟩ (by unfold maxLen;omega)
     have AV:=hid (fun W=>v0l key hk64 W)
     rw[←hS] at AV
     have HJM:=hid hlt
     clear hlt hj hkey hk64 hps hS hc6 hc7 p1 p2
     have z0:wB.drew.cell? ⟨w3.heap.size,0,none⟩=some (.slice (some ⟨g6,0,none⟩) m pc):=hr0
     have z1:wB.drew.cell? ⟨g6,j*2,none⟩=some (.int .u64 (key:Int)):=y1
     have z2:wB.drew.cell? ⟨g6,j*2+1,none⟩=some (.string S):=y2
     have z3:wB.drew.cell? ⟨g7,j,none⟩=some (.int .u64 (key:Int)):=y3
     go_upto_region 16 with fail
     go_region_held3 (fun w'=>w'.cell? ⟨w3.heap.size,0,none⟩=some (.slice (some ⟨g6,0,none⟩) m pc)∧w'.cell? ⟨g6,j*2,none⟩=some (.int .u64 (key:Int))∧w'.cell? ⟨g6,j*2+1,none⟩=some (.string S)∧w'.cell? ⟨g7,j,none⟩=some (.int .u64 (key:Int)))
      (first | (with_reducible exact⟨x0,x1,x2,x3⟩) | (with_reducible exact⟨z0,z1,z2,z3⟩) | (with_reducible exact⟨hr0,y1,y2,y3⟩))
      ((go_at_call 19;(with_reducible refine(AV.out _).mono ?_);rintro e v1 ⟨rfl,hv1⟩;have hB1:Below wB.heap.size wB v1:=(bx (by repeat(first | (exact Below.refl _ _) | (refine Below.drew ?_))) hv1);have x0:=(hB1.cell (p:=⟨w3.heap.size,0,none⟩) (World.block_lt_of_cell? _ _ hr0)).trans hr0;have x1:=(hB1.cell (p:=⟨g6,j*2,none⟩) (World.block_lt_of_cell? _ _ y1)).trans y1;have x2:=(hB1.cell (p:=⟨g6,j*2+1,none⟩) (World.block_lt_of_cell? _ _ y2)).trans y2;have x3:=(hB1.cell (p:=⟨g7,j,none⟩) (World.block_lt_of_cell? _ _ y3)).trans y3;have HV1:=hid hB1;clear hv1 hB1))
     all_goals go_wp2
     all_goals exact⟨⟨j+1,HJM.out,by go_num,by first | exact bx hJ.out HV1.out | exact(bx hJ.out HV1.out).drew⟩,by have:=HJM.out;first | (simp[intOf];done) | (simp[intOf];omega)⟩
    ·obtain rfl:j=m:=by omega
     have j1: ¬(j:Int)< (j:Int):=by omega
     have hK:=HR10.out.bel hJ.out
     have s5:wB.cell? ⟨w3.heap.size,5,none⟩=some (.int .i64 (N1:Int)):=hK.cell 5
     have s1:wB.cell? ⟨w3.heap.size,1,none⟩=some (.slice ra rn rc):=hK.cell 1
     have wr1:IntKind.i64.wrap ((N1:Int)+(j:Int))=(rn:Int):=by have:=HNM.out.2.2;rw[IntWalk.i64_in _ (by omega)];omega
     have be1:((N1:Int)==(N1:Int))=true:=by simp
     have be2:((rn:Int)==(rn:Int))=true:=by simp
     have HBK:=hid (bx HB10.out hJ.out)
     clear hlt hj hK
     go_wp2_with fail
     refine(known23_z _).mono ?_
     rintro e w12 ⟨rfl,hb12⟩
     have HB12':=hid (bx HBK.out hb12)
     clear hb12
     go_wp2
     go_ret
     exact⟨rfl,HB12'.out⟩
end Go.Proofs.YtibiekfjbibpbaaGreat
