/- Sets of addresses, and the blocks in use, plainly. -/
import Derived.Test.YtibiekfjbibpbaaGreatLokM
import Derived.Test.YtibiekfjbibpbaaGreatRefN
set_option linter.unusedVariables false
set_option linter.unusedSimpArgs false
namespace Go.Proofs.YtibiekfjbibpbaaGreat
open Go.RowKit
theorem dset_perm {xs:List Int} {a:Int} (h:a∉xs):(insA xs a).Perm (a::xs):=by
 unfold insA
 rw[if_neg h]
 have h1:=List.takeWhile_append_dropWhile (p:=fun x=>decide (x<a)) (l:=xs)
 have h2:(xs.takeWhile (fun x=>decide (x<a))++a::xs.dropWhile (fun x=>decide (x<a))).Perm (a::(xs.takeWhile (fun x=>decide (x<a))++xs.dropWhile (fun x=>decide (x<a)))):=List.perm_middle
 rwa[h1] at h2
theorem dset_sorted {xs:List Int} (h:xs.Pairwise (· < ·)) (a:Int):(insA xs a).Pairwise (· < ·):=by
 unfold insA
 split
 ·exact h
 ·rename_i hn
  have h1:=List.takeWhile_append_dropWhile (p:=fun x=>decide (x<a)) (l:=xs)
  have hx: ∀x∈xs.takeWhile (fun x=>decide (x<a)),x<a:=fun x hx=>by
   have:=List.all_takeWhile (p:=fun x=>decide (x<a)) (l:=xs)
   rw[List.all_eq_true] at this
   simpa using this x hx
  have hd: ∀x∈xs.dropWhile (fun x=>decide (x<a)),a<x:=by
   have key: ∀l:List Int,l.Pairwise (· < ·)→a∉l→ ∀x∈l.dropWhile (fun x=>decide (x<a)),a<x:=by
    intro l
    induction l with
    | nil=>intro _ _ x hx;simp at hx
    | cons y l ih=>
     intro hp hnn x hx
     rw[List.pairwise_cons] at hp
     by_cases hy:y<a
     ·rw[List.dropWhile_cons_of_pos (by simpa using hy)] at hx
      exact ih hp.2 (fun h=>hnn (List.mem_cons_of_mem _ h)) x hx
     ·rw[List.dropWhile_cons_of_neg (by simpa using hy)] at hx
      have hya:y≠a:=fun e=>hnn (by rw[e];exact List.mem_cons_self ..)
      rcases List.mem_cons.1 hx with rfl | hx
      ·omega
      ·have:=hp.1 x hx;omega
   exact key xs h hn
  have h2:=h
  rw[←h1,List.pairwise_append] at h2
  rw[List.pairwise_append,List.pairwise_cons]
  refine⟨h2.1,⟨hd,h2.2.1⟩,fun x hx1 y hy=> ?_⟩
  rcases List.mem_cons.1 hy with rfl | hy
  ·exact hx x hx1
  ·have:=hx x hx1;have:=hd y hy;omega
theorem dset_mem (xs:List Int) (a b:Int):b∈insA xs a↔b=a∨b∈xs:=by
 by_cases h:a∈xs
 ·unfold insA;rw[if_pos h]
  constructor
  ·exact Or.inr
  ·rintro(rfl | h1)
   ·exact h
   ·exact h1
 ·rw[(dset_perm h).mem_iff,List.mem_cons]
theorem dset_fold (l:List Int): ∀xs:List Int,xs.Pairwise (· < ·)→(l.foldl insA xs).Pairwise (· < ·)∧ ∀b,b∈l.foldl insA xs↔b∈l∨b∈xs:=by
 induction l with
 | nil=>intro xs h;exact⟨h,fun b=>by simp⟩
 | cons a l ih=>
  intro xs h
  obtain⟨h1,h2⟩:=ih (insA xs a) (dset_sorted h a)
  refine⟨h1,fun b=> ?_⟩
  rw[List.foldl_cons,h2,dset_mem,List.mem_cons]
  constructor
  ·rintro(h | h | h)
   ·exact Or.inl (Or.inr h)
   ·exact Or.inl (Or.inl h)
   ·exact Or.inr h
  ·rintro((h | h) | h)
   ·exact Or.inr (Or.inl h)
   ·exact Or.inl h
   ·exact Or.inr (Or.inr h)
theorem rise_uniq: ∀{xs ys:List Int},xs.Pairwise (· < ·)→ys.Pairwise (· < ·)→(∀a,a∈xs↔a∈ys)→xs=ys
 | [],[],_,_,_=>rfl
 | [],y::ys,_,_,h=>by have:=(h y).2 (by simp);cases this
 | x::xs,[],_,_,h=>by have:=(h x).1 (by simp);cases this
 | x::xs,y::ys,hx,hy,h=>by
  rw[List.pairwise_cons] at hx hy
  have e:x=y:=by
   have h1:=(h x).1 (by simp)
   have h2:=(h y).2 (by simp)
   rcases List.mem_cons.1 h1 with e | e
   ·exact e
   ·rcases List.mem_cons.1 h2 with e2 | e2
    ·exact e2.symm
    ·have:=hy.1 x e;have:=hx.1 y e2;omega
  subst e
  have:=rise_uniq hx.2 hy.2 (fun a=>by
   have:=h a
   rw[List.mem_cons,List.mem_cons] at this
   constructor
   ·intro ha
    rcases this.1 (Or.inr ha) with e | e
    ·have:=hx.1 a ha;omega
    ·exact e
   ·intro ha
    rcases this.2 (Or.inr ha) with e | e
    ·have:=hy.1 a ha;omega
    ·exact e)
  rw[this]
def useA (bs:List Int) (i:Nat):List Int:=(setBits (bitAt bs i)).map fun j=>blockZ (i:Nat) (clsAt bs i:Nat) (j.val:Int)
def refA (bs:List Int) (k:Nat):List Int:=(List.range k).flatMap fun i=>useA bs (i+1)
theorem refA_eq (bs:List Int) (k:Nat):(refL bs k).map (·.1)=refA bs k:=by
 unfold refL refA useA refLi
 rw[List.map_flatMap]
 congr 1
 funext i
 rw[List.map_map]
 rfl
theorem refL_two (bs:List Int) (k:Nat): ∀x∈refL bs k,x.2=2:=by
 intro x hx
 unfold refL refLi at hx
 obtain⟨i,_,h2⟩:=List.mem_flatMap.1 hx
 obtain⟨j,_,rfl⟩:=List.mem_map.1 h2
 rfl
theorem head_bits {bs:List Int} {i:Nat} (h:headOK bs i=true):clsAt bs i≤3∧ ∀j∈setBits (bitAt bs i),j.val<nb (clsAt bs i):=by
 unfold headOK mayBits at h
 rw[Bool.and_eq_true,List.all_eq_true] at h
 refine⟨by simpa using h.1,fun j hj=> ?_⟩
 have:=h.2 j hj
 have h2:=nb_eq (clsAt bs i)
 simp at this
 omega
theorem nb_pos {c j:Nat} (h:j<nb c):1≤c∧c≤3:=by
 have:=nb_eq c
 unfold blocksZ at this
 split at this
 ·omega
 ·split at this
  ·omega
  ·split at this<;>omega
theorem blk_in {i c j:Nat} (hi:1≤i∧i≤64) (hj:j<nb c):1024*(i:Int)+64≤blockZ (i:Nat) (c:Nat) j∧blockZ (i:Nat) (c:Nat) j<1024*((i:Int)+1)∧blockZ (i:Nat) (c:Nat) j=1024*(i:Int)+64+j*bytesZ c:=by
 have hnb:=nb_eq c
 have hc:=nb_pos hj
 have ha:=area_le (c:Int) (j:Int) (by omega) (by omega)
 unfold blockZ
 rw[if_pos ⟨by omega,by omega,by omega,by omega⟩]
 omega
theorem finRange_rise:(List.finRange 64).Pairwise (fun a b=>a.val<b.val):=by decide
theorem setBits_rise (b:Nat):(setBits b).Pairwise (fun a b=>a.val<b.val):=by
 unfold setBits
 exact finRange_rise.sublist List.filter_sublist
theorem useA_in {bs:List Int} {i:Nat} (h:headOK bs i=true) (hi:1≤i∧i≤64): ∀a∈useA bs i,1024*(i:Int)+64≤a∧a<1024*((i:Int)+1):=by
 intro a ha
 unfold useA at ha
 obtain⟨j,hj,rfl⟩:=List.mem_map.1 ha
 have:=blk_in hi ((head_bits h).2 j hj)
 exact⟨this.1,this.2.1⟩
theorem useA_rise {bs:List Int} {i:Nat} (h:headOK bs i=true) (hi:1≤i∧i≤64):(useA bs i).Pairwise (· < ·):=by
 unfold useA
 rw[List.pairwise_map]
 refine List.Pairwise.imp_of_mem ?_ (setBits_rise (bitAt bs i))
 intro x y hx hy hlt
 have h1:=(head_bits h).2 x hx
 have h2:=(head_bits h).2 y hy
 have hc:=nb_pos h1
 rw[(blk_in hi h1).2.2,(blk_in hi h2).2.2]
 have h3:(x.val:Int)*bytesZ (clsAt bs i:Nat)< (y.val:Int)*bytesZ (clsAt bs i:Nat):=by
  refine Int.mul_lt_mul_of_pos_right (by omega) ?_
  unfold bytesZ
  rw[if_pos ⟨by omega,by omega⟩]
  omega
 omega
theorem refA_succ (bs:List Int) (k:Nat):refA bs (k+1)=refA bs k++useA bs (k+1):=by
 unfold refA
 rw[List.range_succ,List.flatMap_append]
 simp
theorem refA_in {bs:List Int} {k:Nat} (hk:k≤64) (h: ∀i,1≤i→i≤k→headOK bs i=true): ∀a∈refA bs k,0<a∧a<1024*((k:Int)+1):=by
 induction k with
 | zero=>intro a ha;simp[refA] at ha
 | succ k ih=>
  intro a ha
  rw[refA_succ,List.mem_append] at ha
  rcases ha with ha | ha
  ·have:=ih (by omega) (fun i h1 h2=>h i h1 (by omega)) a ha;omega
  ·have:=useA_in (h (k+1) (by omega) (Nat.le_refl _)) (by omega) a ha;omega
theorem refA_rise {bs:List Int} {k:Nat} (hk:k≤64) (h: ∀i,1≤i→i≤k→headOK bs i=true):(refA bs k).Pairwise (· < ·):=by
 induction k with
 | zero=>simp[refA]
 | succ k ih=>
  rw[refA_succ,List.pairwise_append]
  refine⟨ih (by omega) (fun i h1 h2=>h i h1 (by omega)),useA_rise (h (k+1) (by omega) (Nat.le_refl _)) (by omega),fun x hx y hy=> ?_⟩
  have h1:=refA_in (by omega) (fun i h1 h2=>h i h1 (by omega)) x hx
  have h2:=useA_in (h (k+1) (by omega) (Nat.le_refl _)) (by omega) y hy
  omega
theorem usedI_ref {bs:List Int} {k:Nat} (hk:k≤64) (h: ∀i,1≤i→i≤k→headOK bs i=true):usedI (refL bs k)=refA bs k:=by
 unfold usedI
 have e:usedL (refL bs k)=refA bs k:=by
  unfold usedL
  rw[List.filter_eq_self.2 (fun x hx=>by rw[refL_two bs k x hx];rfl),refA_eq]
 rw[e]
 obtain⟨h1,h2⟩:=dset_fold (refA bs k) [] List.Pairwise.nil
 exact rise_uniq h1 (refA_rise hk h) (fun a=>by rw[h2];simp)
theorem refA_mem {bs:List Int} {k:Nat} {a:Int}:a∈refA bs k↔ ∃i,1≤i∧i≤k∧a∈useA bs i:=by
 unfold refA
 rw[List.mem_flatMap]
 constructor
 ·rintro⟨i,hi,h⟩
  exact⟨i+1,by omega,by have:=List.mem_range.1 hi;omega,h⟩
 ·rintro⟨i,h1,h2,h⟩
  exact⟨i-1,List.mem_range.2 (by omega),by rwa[show i-1+1=i by omega]⟩
theorem leaks_ref {bs:List Int} {R:List Int}:leaksI bs R=(refA bs (nsI bs)).filter fun a=>decide (a∉R):=by
 unfold leaksI refA
 rw[List.range_succ_eq_map,List.flatMap_cons,List.flatMap_map,List.filter_flatMap]
 have h0:leaksAt bs R 0=[]:=by
  unfold leaksAt leaksPre hbitI
  rw[if_pos rfl]
  have:setBits 0=[]:=by decide
  rw[this];rfl
 rw[h0,List.nil_append]
 congr 1
theorem used_ref {bs:List Int} {a:Int} (ha:clsI bs a≠0) (h: ∀i,1≤i→i<nsI bs+1→headOK bs i=true):usedB bs a=decide (a∈refA bs (nsI bs)):=by
 obtain⟨s,hs,hs1,hs2,hc3,hc1,hib,_⟩:=cls_some ha
 have hs64:=slabZ_le a
 have hsn:s≤nsI bs:=by unfold nsI;omega
 have hne:idxZ a (clsAt bs s:Nat)≠ -1:=by
  intro e
  unfold idxB at hib
  rw[e] at hib
  simp at hib
 have hidx:idxI a (clsAt bs s:Nat)=idxZ a (clsAt bs s:Nat):=by unfold idxI;rw[if_neg hne]
 obtain⟨c,hc⟩: ∃c,c=clsAt bs s:=⟨_,rfl⟩
 have hform:idxZ a (clsAt bs s:Nat)=(a % 1024-64)/ (64*(c:Int))∧0≤a % 1024-64∧(a % 1024-64)% (64*(c:Int))=0∧(a % 1024-64)/ (64*(c:Int))<blocksZ c:=by
  rw[hc]
  unfold idxZ at hne ⊢
  split at hne
  ·rename_i hh
   rw[if_pos hh]
   exact⟨rfl,hh.2.2.2.1,hh.2.2.2.2.1,hh.2.2.2.2.2⟩
  ·exact absurd rfl hne
 have hj0:0≤(a % 1024-64)/ (64*(c:Int)):=Int.ediv_nonneg hform.2.1 (by omega)
 obtain⟨j,hj⟩: ∃j:Nat,(a % 1024-64)/ (64*(c:Int))=j:=⟨_,(Int.toNat_of_nonneg hj0).symm⟩
 have hjn:j<nb c:=by have:=nb_eq c;have:=hform.2.2.2;omega
 have hj64:j<64:=by have:=nb_le c;omega
 have hae:a=blockZ (s:Nat) (c:Nat) (j:Int):=by
  rw[(blk_in ⟨hs1,by omega⟩ hjn).2.2]
  have h1:=Int.mul_ediv_add_emod (a % 1024-64) (64*(c:Int))
  rw[hform.2.2.1,hj] at h1
  have h2:slabZ a=a/1024:=by
   unfold slabZ at hs ⊢
   split at hs
   ·rename_i hh;rw[if_pos hh]
   ·omega
  have h3:bytesZ (c:Nat)=64*(c:Int):=by unfold bytesZ;rw[if_pos ⟨by omega,by omega⟩]
  rw[h3]
  have h4:(j:Int)*(64*(c:Int))=64*(c:Int)*(j:Int):=Int.mul_comm _ _
  omega
 unfold usedB
 rw[hs,Int.toNat_natCast,hidx,hform.1,hj,Int.toNat_natCast]
 by_cases hb:hasB (bitAt bs s) j=true
 ·rw[hb]
  refine(decide_eq_true (refA_mem.2 ⟨s,hs1,hsn,?_⟩)).symm
  unfold useA
  rw[List.mem_map]
  exact⟨⟨j,hj64⟩,by unfold setBits;rw[List.mem_filter];exact⟨List.mem_finRange _,hb⟩,by rw[←hc];exact hae.symm⟩
 ·rw[Bool.not_eq_true] at hb
  rw[hb]
  refine(decide_eq_false fun hm=> ?_).symm
  obtain⟨i,h1,h2,h3⟩:=refA_mem.1 hm
  have hi:=useA_in (h i h1 (by omega)) ⟨h1,by unfold nsI at h2;have:=slabs_len (n:=bs.length) (by omega);omega⟩ a h3
  have his:i=s:=by
   have h4:=blk_in (c:=c) (j:=j) ⟨hs1,by omega⟩ hjn
   rw[←hae] at h4
   omega
  subst his
  unfold useA at h3
  obtain⟨y,hy,hye⟩:=List.mem_map.1 h3
  have hyn:=(head_bits (h i h1 (by omega))).2 y hy
  rw[←hc] at hyn hye
  have h5:=(blk_in (c:=c) ⟨hs1,by omega⟩ hyn).2.2
  have h6:=(blk_in (c:=c) (j:=j) ⟨hs1,by omega⟩ hjn).2.2
  rw[hye] at h5
  rw[←hae] at h6
  have h7:(y.val:Int)*bytesZ (c:Nat)=(j:Int)*bytesZ (c:Nat):=by omega
  have h8:bytesZ (c:Nat)≠0:=by unfold bytesZ;rw[if_pos ⟨by omega,by omega⟩];omega
  have h9:(y.val:Int)=(j:Int):=Int.eq_of_mul_eq_mul_right h8 h7
  have h10:y.val=j:=by omega
  unfold setBits at hy
  rw[List.mem_filter] at hy
  rw[h10] at hy
  rw[hb] at hy
  exact absurd hy.2 (by decide)
theorem rows_nodup {nd:Int→Option NodeA}: ∀{l:List (List (Int×NodeA))} {lv first:Int} {up:Option (List (Int×NodeA))},RowsAt nd lv first up l→(allA l).Nodup∧ ∀a∈allA l,∃n,nd a=some n∧n.lv≤lv
 | [],_,_,_,h=>h.elim
 | row::rest,lv,first,up,h=>by
  obtain⟨h1,_,_,h2⟩:=h
  obtain⟨p,hw⟩:=h1.whole
  have hrow: ∀a∈row.map (·.1),∃n,nd a=some n∧n.lv=lv:=by
   intro a ha
   obtain⟨x,hx,rfl⟩:=List.mem_map.1 ha
   exact⟨x.2,(hw.at' x hx).2.1,(hw.at' x hx).2.2⟩
  have e:allA (row::rest)=row.map (·.1)++allA rest:=by unfold allA;rw[List.flatMap_cons]
  rw[e]
  by_cases h0:lv=0
  ·rw[if_pos h0] at h2
   subst h2
   have e2:allA ([]:List (List (Int×NodeA)))=[]:=rfl
   rw[e2,List.append_nil]
   exact⟨hw.nodup,fun a ha=>by obtain⟨n,q1,q2⟩:=hrow a ha;exact⟨n,q1,by omega⟩⟩
  ·rw[if_neg h0] at h2
   obtain⟨x,r,_,h3⟩:=h2
   obtain⟨i1,i2⟩:=rows_nodup h3
   refine⟨?_,fun a ha=> ?_⟩
   ·rw[List.nodup_append]
    refine⟨hw.nodup,i1,fun a ha b hb e=> ?_⟩
    obtain⟨n,q1,q2⟩:=hrow a ha
    obtain⟨m,r1,r2⟩:=i2 b hb
    rw[←e,q1] at r1
    injection r1 with r1
    subst r1
    omega
   ·rcases List.mem_append.1 ha with ha | ha
    ·obtain⟨n,q1,q2⟩:=hrow a ha;exact⟨n,q1,by omega⟩
    ·obtain⟨n,q1,q2⟩:=i2 a ha;exact⟨n,q1,by omega⟩
theorem vals_nodup {bs:List Int}: ∀{es:List (Int×Int)} {R:List Int} {ps:List (Int×ByteArray)},R.Nodup→ValsAt bs R es ps→(R++es.map (·.2)).Nodup
 | [],R,_,hR,_=>by simpa using hR
 | e::es,R,_,hR,h=>by
  obtain⟨s,ps',h1,_,h2⟩:=h
  have hR2:(R++[e.2]).Nodup:=by
   rw[List.nodup_append]
   refine⟨hR,by simp,fun a ha b hb=> ?_⟩
   simp at hb
   rintro rfl
   exact h1.1 (hb▸ha)
  have:=vals_nodup hR2 h2
  rw[List.append_assoc] at this
  exact this
theorem whole_nodup {bs:List Int} {rs:List (List (Int×NodeA))} {ps:List (Int×ByteArray)} {leaves:List (Int×NodeA)} (h:WholeOK bs rs ps) (hl:rs.getLast?=some leaves):(allA rs++(allE leaves).map (·.2)).Nodup:=by
 obtain⟨n,_,hr⟩:=h.rows
 obtain⟨lv,h1,h2⟩:=h.vals
 rw[hl] at h1
 injection h1 with h1
 subst h1
 exact vals_nodup (rows_nodup hr).1 h2
def reachI (rs:List (List (Int×NodeA))) (leaves:List (Int×NodeA)):List Int:=(allA rs++(allE leaves).map (·.2)).foldl insA []
theorem reach_uniq {rs:List (List (Int×NodeA))} {leaves:List (Int×NodeA)} {R:List Int} (hnd:(allA rs++(allE leaves).map (·.2)).Nodup) (h1:R.Perm (allA rs++(allE leaves).map (·.2))) (h2:R.Pairwise (· ≤ ·)):R=reachI rs leaves:=by
 unfold reachI
 obtain⟨h3,h4⟩:=dset_fold (allA rs++(allE leaves).map (·.2)) [] List.Pairwise.nil
 have hR:R.Nodup:=h1.nodup_iff.2 hnd
 refine rise_uniq ?_ h3 (fun a=>by rw[h4,h1.mem_iff];simp)
 have:=List.Pairwise.and h2 hR
 exact this.imp (fun h=>by omega)
theorem faults_ref {bs:List Int} {rs:List (List (Int×NodeA))} {ps:List (Int×ByteArray)} {leaves:List (Int×NodeA)} (hb: ∀x∈bs,0≤x∧x<256) (h:WholeOK bs rs ps) (hl:rs.getLast?=some leaves) {R:List Int} (hR:R.Perm (allA rs++(allE leaves).map (·.2))):
  (R.filter fun a=> !usedB bs a)=R.filter fun a=>decide (a∉refA bs (nsI bs)):=by
 refine List.filter_congr fun a ha=> ?_
 have hc:=whole_cls hb h.slabs.1 h hl a (hR.mem_iff.1 ha)
 rw[used_ref hc h.slabs.2]
 by_cases hm:a∈refA bs (nsI bs)<;>simp[hm]
end Go.Proofs.YtibiekfjbibpbaaGreat
