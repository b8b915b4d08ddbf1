import Derived.Test.YtibiekfjbibpbaaGreatLokM
set_option linter.unusedVariables false
set_option linter.unusedSimpArgs false
namespace Go.Proofs.YtibiekfjbibpbaaGreat
open Go.RowKit
theorem x9c {xs:List Int} {a:Int} (h:a∉xs):(insA xs a).Perm (a::xs):=by
 unfold insA;rw[if_neg h];have h1:=CJ (p:=fun x=>decide (x<a)) (l:=xs);have h2:(xs.takeWhile (fun x=>decide (x<a))++a::xs.dropWhile (fun x=>decide (x<a))).Perm (a::(xs.takeWhile (fun x=>decide (x<a))++xs.dropWhile (fun x=>decide (x<a)))):=List.perm_middle
 rwa[h1] at h2
theorem z9f {xs:List Int} (h:xs.Pairwise (· < ·)) (a:Int):(insA xs a).Pairwise (· < ·):=by
 unfold insA;split;·exact h
 ·rename_i hn;have h1:=CJ (p:=fun x=>decide (x<a)) (l:=xs);have hx:∀x∈xs.takeWhile (fun x=>decide (x<a)),x<a:=fun x hx=>by have:=List.all_takeWhile (p:=fun x=>decide (x<a)) (l:=xs);rw[Bc] at this;simpa using this x hx
  have hd:∀x∈xs.dropWhile (fun x=>decide (x<a)),a<x:=by
   have key:∀l:List Int,l.Pairwise (· < ·)->a∉l-> ∀x∈l.dropWhile (fun x=>decide (x<a)),a<x:=by
    intro l
    induction l with
    | nil=>intro _ _ x hx;simp at hx
    | cons y l ih=>
     intro hp I x hx;rw[DD] at hp;by_cases hy:y<a;·rw[List.dropWhile_cons_of_pos (by simpa using hy)] at hx;exact ih hp.2 (fun h=>I (AW _ h)) x hx
     ·rw[List.dropWhile_cons_of_neg (by simpa using hy)] at hx;have M:y≠a:=fun e=>I (by rw[e];exact Ae ..);rcases AN.1 hx with rfl|hx;·omega
      ·have:=hp.1 x hx;omega
   exact key xs h hn
  have h2:=h;rw[<- h1,CE] at h2;rw[CE,DD];refine⟨h2.1,⟨hd,h2.2.1⟩,fun x L y hy=> ?_⟩;rcases AN.1 hy with rfl|hy;·exact hx x L
  ·have:=hx x L;have:=hd y hy;omega
theorem v1g (xs:List Int) (a b:Int):b∈insA xs a↔b=a\/b∈xs:=by
 by_cases h:a∈xs
 ·unfold insA;rw[if_pos h];constructor;·exact Or.inr
  ·rintro(rfl|h1);·exact h
   ·exact h1
 ·rw[(x9c h).mem_iff,AN]
theorem z2h (l:List Int):∀xs:List Int,xs.Pairwise (· < ·)->(l.foldl insA xs).Pairwise (· < ·)/\ ∀b,b∈l.foldl insA xs↔b∈l\/b∈xs:=by
 induction l with
 | nil=>intro xs h;exact⟨h,fun b=>by simp⟩
 | cons a l ih=>
  intro xs h;obtain⟨h1,h2⟩:=ih (insA xs a) (z9f h a);refine⟨h1,fun b=> ?_⟩;rw[DT,h2,v1g,AN];constructor
  ·rintro(h|h|h);·exact Or.inl (Or.inr h)
   ·exact Or.inl (Or.inl h)
   ·exact Or.inr h
  ·rintro((h|h)|h);·exact Or.inr (Or.inl h)
   ·exact Or.inl h
   ·exact Or.inr (Or.inr h)
theorem z2e:∀{xs ys:List Int},xs.Pairwise (· < ·)->ys.Pairwise (· < ·)->(∀a,a∈xs↔a∈ys)->xs=ys
 | [],[],_,_,_=>rfl
 | [],y::ys,_,_,h=>by have:=(h y).2 (by simp);cases this
 | x::xs,[],_,_,h=>by have:=(h x).1 (by simp);cases this
 | x::xs,y::ys,hx,hy,h=>by
  rw[DD] at hx hy
  have e:x=y:=by
   have h1:=(h x).1 (by simp);have h2:=(h y).2 (by simp);rcases AN.1 h1 with e|e;·exact e
   ·rcases AN.1 h2 with e2|e2;·exact e2.symm
    ·have:=hy.1 x e;have:=hx.1 y e2;omega
  subst e
  have:=z2e hx.2 hy.2 (fun a=>by
   have:=h a;rw[AN,AN] at this;constructor
   ·intro ha;rcases this.1 (Or.inr ha) with e|e;·have:=hx.1 a ha;omega
    ·exact e
   ·intro ha;rcases this.2 (Or.inr ha) with e|e;·have:=hy.1 a ha;omega
    ·exact e)
  rw[this]
def useA (bs:List Int) (i:Nat):List Int:=(q0t (q4r bs i)).map fun j=>q0c (i:Nat) (q1u bs i:Nat) (j.val:Int)
def refA (bs:List Int) (k:Nat):List Int:=(List.range k).flatMap fun i=>useA bs (i+1)
theorem z5b (bs:List Int) (k:Nat):(refL bs k).map (·.1)=refA bs k:=by unfold refL refA useA q9j;rw[List.map_flatMap];congr 1;funext i;rw[BU];rfl
theorem q9b {bs:List Int} {i:Nat} (h:q2k bs i=true):q1u bs i<=3/\ ∀j∈q0t (q4r bs i),j.val<nb (q1u bs i):=by unfold q2k q4y at h;rw[Bool.and_eq_true,Bc] at h;refine⟨by simpa using h.1,fun j hj=> ?_⟩;have:=h.2 j hj;have h2:=v2y (q1u bs i);simp at this;omega
theorem v3f {c j:Nat} (h:j<nb c):1<=c/\c<=3:=by
 have:=v2y c;unfold q0m at this;split at this;·omega
 ·split at this;·omega
  ·split at this<;>omega
theorem z2n {i c j:Nat} (hi:1<=i/\i<=64) (hj:j<nb c):1024*(i:Int)+64<=q0c (i:Nat) (c:Nat) j/\q0c (i:Nat) (c:Nat) j<1024*((i:Int)+1)/\q0c (i:Nat) (c:Nat) j=1024*(i:Int)+64+j*q0e c:=by have I:=v2y c;have hc:=v3f hj;have ha:=z5f (c:Int) (j:Int) (by omega) (by omega);unfold q0c;rw[if_pos ⟨by omega,by omega,by omega,by omega⟩];omega
theorem x0b {bs:List Int} {i:Nat} (h:q2k bs i=true) (hi:1<=i/\i<=64):∀a∈useA bs i,1024*(i:Int)+64<=a/\a<1024*((i:Int)+1):=by intro a ha;unfold useA at ha;obtain⟨j,hj,rfl⟩:=Aj.1 ha;have:=z2n hi ((q9b h).2 j hj);exact⟨this.1,this.2.1⟩
theorem x2y {bs:List Int} {k:Nat} {a:Int}:a∈refA bs k↔ ∃i,1<=i/\i<=k/\a∈useA bs i:=by
 unfold refA;rw[Bq];constructor;·rintro⟨i,hi,h⟩;exact⟨i+1,by omega,by have:=Av.1 hi;omega,h⟩
 ·rintro⟨i,h1,h2,h⟩;exact⟨i-1,Av.2 (by omega),by rwa[show i-1+1=i by omega]⟩
theorem x8e {bs:List Int} {R:List Int}:z8p bs R=(refA bs (nsI bs)).filter fun a=>decide (a∉R):=by
 unfold z8p refA;rw[Cn,Ap,List.flatMap_map,List.filter_flatMap]
 have h0:q3i bs R 0=[]:=by
  unfold q3i q3t z0g;rw[if_pos rfl];have:q0t 0=[]:=by decide
  rw[this];rfl
 rw[h0,Bi];congr 1
theorem v2b {bs:List Int} {a:Int} (ha:clsI bs a≠0) (h:∀i,1<=i->i<nsI bs+1->q2k bs i=true):x3m bs a=decide (a∈refA bs (nsI bs)):=by
 obtain⟨s,hs,L,hr,hx,ht,O,_⟩:=x1l ha;have hk:=q5w a;have ho:s<=nsI bs:=by unfold nsI;omega
 have M:idxZ a (q1u bs s:Nat)≠ -1:=by intro e;unfold idxB at O;rw[e] at O;simp at O
 have S:idxI a (q1u bs s:Nat)=idxZ a (q1u bs s:Nat):=by unfold idxI;rw[if_neg M]
 obtain⟨c,hc⟩:∃c,c=q1u bs s:=⟨_,rfl⟩
 have I:idxZ a (q1u bs s:Nat)=(a % 1024-64)/ (64*(c:Int))/\0<=a % 1024-64/\(a % 1024-64)% (64*(c:Int))=0/\(a % 1024-64)/ (64*(c:Int))<q0m c:=by
  rw[hc];unfold idxZ at M ⊢;split at M;·rename_i hh;rw[if_pos hh];exact⟨rfl,hh.2.2.2.1,hh.2.2.2.2.1,hh.2.2.2.2.2⟩
  ·exact absurd rfl M
 have hq:0<=(a % 1024-64)/ (64*(c:Int)):=Ci I.2.1 (by omega);obtain⟨j,hj⟩:∃j:Nat,(a % 1024-64)/ (64*(c:Int))=j:=⟨_,(Cb hq).symm⟩;have Y:j<nb c:=by have:=v2y c;have:=I.2.2.2;omega
 have he:j<64:=by have:=y0d c;omega
 have U:a=q0c (s:Nat) (c:Nat) (j:Int):=by
  rw[(z2n ⟨L,by omega⟩ Y).2.2];have h1:=Int.mul_ediv_add_emod (a % 1024-64) (64*(c:Int));rw[I.2.2.1,hj] at h1
  have h2:q1q a=a/1024:=by
   unfold q1q at hs ⊢;split at hs;·rename_i hh;rw[if_pos hh]
   ·omega
  have h3:q0e (c:Nat)=64*(c:Int):=by unfold q0e;rw[if_pos ⟨by omega,by omega⟩]
  rw[h3];have h4:(j:Int)*(64*(c:Int))=64*(c:Int)*(j:Int):=Int.mul_comm _ _;omega
 unfold x3m;rw[hs,BG,S,I.1,hj,BG];by_cases hb:hasB (q4r bs s) j=true;·rw[hb];refine(AT (x2y.2 ⟨s,L,ho,?_⟩)).symm;unfold useA;rw[Aj];exact⟨⟨j,he⟩,by unfold q0t;rw[Cg];exact⟨List.mem_finRange _,hb⟩,by rw[<- hc];exact U.symm⟩
 ·rw[Bool.not_eq_true] at hb;rw[hb];refine(AK fun hm=> ?_).symm;obtain⟨i,h1,h2,h3⟩:=x2y.1 hm;have hi:=x0b (h i h1 (by omega)) ⟨h1,by unfold nsI at h2;have:=q1s (n:=bs.length) (by omega);omega⟩ a h3;have hl:i=s:=by have h4:=z2n (c:=c) (j:=j) ⟨L,by omega⟩ Y;rw[<- U] at h4;omega
  subst hl;unfold useA at h3;obtain⟨y,hy,hg⟩:=Aj.1 h3;have hf:=(q9b (h i h1 (by omega))).2 y hy;rw[<- hc] at hf hg;have h5:=(z2n (c:=c) ⟨L,by omega⟩ hf).2.2;have h6:=(z2n (c:=c) (j:=j) ⟨L,by omega⟩ Y).2.2;rw[hg] at h5;rw[<- U] at h6;have h7:(y.val:Int)*q0e (c:Nat)=(j:Int)*q0e (c:Nat):=by omega
  have h8:q0e (c:Nat)≠0:=by unfold q0e;rw[if_pos ⟨by omega,by omega⟩];omega
  have h9:(y.val:Int)=(j:Int):=Int.eq_of_mul_eq_mul_right h8 h7;have hp:y.val=j:=by omega
  unfold q0t at hy;rw[Cg] at hy;rw[hp] at hy;rw[hb] at hy;exact absurd hy.2 (by decide)
theorem z4x {nd:Int->Option NodeA}:∀{l:List (List (Int×NodeA))} {lv first:Int} {up:Option (List (Int×NodeA))},q3f nd lv first up l->(allA l).Nodup/\ ∀a∈allA l,∃n,nd a=some n/\n.lv<=lv
 | [],_,_,_,h=>h.elim
 | row::rest,lv,first,up,h=>by
  obtain⟨h1,_,_,h2⟩:=h;obtain⟨p,hw⟩:=h1.whole;have I:∀a∈row.map (·.1),∃n,nd a=some n/\n.lv=lv:=by intro a ha;obtain⟨x,hx,rfl⟩:=Aj.1 ha;exact⟨x.2,(hw.at' x hx).2.1,(hw.at' x hx).2.2⟩
  have e:allA (row::rest)=row.map (·.1)++allA rest:=by unfold allA;rw[Ap]
  rw[e];by_cases h0:lv=0;·rw[if_pos h0] at h2;subst h2;have e2:allA ([]:List (List (Int×NodeA)))=[]:=rfl;rw[e2,Bx];exact⟨hw.nodup,fun a ha=>by obtain⟨n,q1,q2⟩:=I a ha;exact⟨n,q1,by omega⟩⟩
  ·rw[if_neg h0] at h2;obtain⟨x,r,_,h3⟩:=h2;obtain⟨i1,i2⟩:=z4x h3;refine⟨?_,fun a ha=> ?_⟩;·rw[CS];refine⟨hw.nodup,i1,fun a ha b hb e=> ?_⟩;obtain⟨n,q1,q2⟩:=I a ha;obtain⟨m,r1,r2⟩:=i2 b hb;rw[<- e,q1] at r1;injection r1 with r1;subst r1;omega
   ·rcases An.1 ha with ha|ha;·obtain⟨n,q1,q2⟩:=I a ha;exact⟨n,q1,by omega⟩
    ·obtain⟨n,q1,q2⟩:=i2 a ha;exact⟨n,q1,by omega⟩
theorem z4y {bs:List Int}:∀{es:List (Int×Int)} {R:List Int} {ps:List (Int×ByteArray)},R.Nodup->q4m bs R es ps->(R++es.map (·.2)).Nodup
 | [],R,_,hR,_=>by simpa using hR
 | e::es,R,_,hR,h=>by
  obtain⟨s,L,h1,_,h2⟩:=h;have I:(R++[e.2]).Nodup:=by rw[CS];refine⟨hR,by simp,fun a ha b hb=> ?_⟩;simp at hb;rintro rfl;exact h1.1 (hb▸ha)
  have:=z4y I h2;rw[BB] at this;exact this
theorem z9j {bs:List Int} {rs:List (List (Int×NodeA))} {ps:List (Int×ByteArray)} {leaves:List (Int×NodeA)} (h:q1a bs rs ps) (hl:rs.getLast?=some leaves):(allA rs++(allE leaves).map (·.2)).Nodup:=by obtain⟨n,_,hr⟩:=h.rows;obtain⟨lv,h1,h2⟩:=h.vals;rw[hl] at h1;injection h1 with h1;subst h1;exact z4y (z4x hr).1 h2
def q2i (rs:List (List (Int×NodeA))) (leaves:List (Int×NodeA)):List Int:=(allA rs++(allE leaves).map (·.2)).foldl insA []
theorem x3b {rs:List (List (Int×NodeA))} {leaves:List (Int×NodeA)} {R:List Int} (I:(allA rs++(allE leaves).map (·.2)).Nodup) (h1:R.Perm (allA rs++(allE leaves).map (·.2))) (h2:R.Pairwise (· <= ·)):R=q2i rs leaves:=by unfold q2i;obtain⟨h3,h4⟩:=z2h (allA rs++(allE leaves).map (·.2)) [] List.Pairwise.nil;have hR:R.Nodup:=h1.nodup_iff.2 I;refine z2e ?_ h3 (fun a=>by rw[h4,h1.mem_iff];simp);have:=List.Pairwise.and h2 hR;exact this.imp (fun h=>by omega)
theorem x2e {bs:List Int} {rs:List (List (Int×NodeA))} {ps:List (Int×ByteArray)} {leaves:List (Int×NodeA)} (hb:∀x∈bs,0<=x/\x<256) (h:q1a bs rs ps) (hl:rs.getLast?=some leaves) {R:List Int} (hR:R.Perm (allA rs++(allE leaves).map (·.2))):
  (R.filter fun a=> !x3m bs a)=R.filter fun a=>decide (a∉refA bs (nsI bs)):=by
 refine DJ fun a ha=> ?_;have hc:=z7w hb h.slabs.1 h hl a (hR.mem_iff.1 ha);rw[v2b hc h.slabs.2];by_cases hm:a∈refA bs (nsI bs)<;>simp[hm]
end Go.Proofs.YtibiekfjbibpbaaGreat
