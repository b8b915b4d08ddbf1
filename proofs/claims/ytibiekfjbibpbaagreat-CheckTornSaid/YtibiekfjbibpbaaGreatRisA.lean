/- The keys laid rise; what is laid, loaded whole. -/
import Derived.Test.YtibiekfjbibpbaaGreatSqC
import Derived.Test.YtibiekfjbibpbaaGreatSndF
set_option linter.unusedVariables false
set_option linter.unusedSimpArgs false
namespace Go.Proofs.YtibiekfjbibpbaaGreat
open Go.RowKit
theorem insU_rise {out:List Int} {x:Int} (h:out.Pairwise (· < ·)):(insU out x).Pairwise (· < ·):=by
 unfold insU
 split
 ·exact h
 ·rename_i hne
  obtain⟨a,ha⟩: ∃a,a=atU out x:=⟨_,rfl⟩
  rw[←ha] at hne ⊢
  have hlt: ∀y∈out.take a,y<x:=fun y hy=>by
   rw[ha] at hy
   unfold atU at hy
   have e:out.take (out.takeWhile fun y=>decide (y<x)).length=out.takeWhile fun y=>decide (y<x):=(List.prefix_iff_eq_take.1 (List.takeWhile_prefix _)).symm
   rw[e] at hy
   have:=List.all_eq_true.1 (List.all_takeWhile (p:=fun y=>decide (y<x)) (l:=out)) y hy
   simpa using this
  have hgt: ∀y∈out.drop a,x<y:=by
   cases hd:out.drop a with
   | nil=>intro y hy;cases hy
   | cons z r=>
    have hz:out[a]?=some z:=by
     have h1:(out.drop a)[0]?=some z:=by rw[hd];rfl
     rw[List.getElem?_drop,Nat.add_zero] at h1
     exact h1
    have hnz: ¬z<x:=by
     intro hlt2
     have hdw:out.dropWhile (fun y=>decide (y<x))=z::r:=by
      have e:out.drop (out.takeWhile fun y=>decide (y<x)).length=out.dropWhile fun y=>decide (y<x):=by
       have h1:=List.takeWhile_append_dropWhile (p:=fun y=>decide (y<x)) (l:=out)
       have h2:(out.takeWhile (fun y=>decide (y<x))++out.dropWhile (fun y=>decide (y<x))).drop (out.takeWhile fun y=>decide (y<x)).length=out.dropWhile fun y=>decide (y<x):=List.drop_left
       rw[h1] at h2
       exact h2
      rw[←e]
      unfold atU at ha
      rw[←ha];exact hd
     have:=List.head?_dropWhile_not (fun y=>decide (y<x)) out
     rw[hdw] at this
     simp at this
     omega
    have hzx:z≠x:=fun e=>hne (by rw[hz,e])
    have hp:(z::r).Pairwise (· < ·):=by rw[←hd];exact h.sublist (List.drop_sublist _ _)
    intro y hy
    rcases List.mem_cons.1 hy with rfl | hy
    ·omega
    ·have:=(List.pairwise_cons.1 hp).1 y hy
     omega
  rw[List.pairwise_append]
  refine⟨h.sublist (List.take_sublist _ _),List.pairwise_cons.2 ⟨hgt,h.sublist (List.drop_sublist _ _)⟩,fun y hy z hz=> ?_⟩
  have h1:=hlt y hy
  rcases List.mem_cons.1 hz with rfl | hz
  ·exact h1
  ·have:=hgt z hz;omega
theorem risTo_rise (xs:List Int): ∀i,(q4s xs i).Pairwise (· < ·)
 | 0=>List.Pairwise.nil
 | i+1=>insU_rise (risTo_rise xs i)
theorem risKeys_rise {xs:List Int} (h: ∀y∈xs,U64 y):(q5b xs).Pairwise (· < ·)∧ ∀x∈q5b xs,x<18446744073709551616:=by
 have hin: ∀y∈q4s xs xs.length,U64 y:=fun y hy=>h y (q9v (Nat.le_refl _) y hy)
 refine⟨?_,fun x hx=> ?_⟩
 ·unfold q5b
  rw[List.pairwise_map]
  refine List.Pairwise.imp_of_mem ?_ (risTo_rise xs xs.length)
  intro a b ha hb hab
  have h1:=hin a ha
  have h2:=hin b hb
  unfold U64 at h1 h2
  omega
 ·unfold q5b at hx
  obtain⟨y,hy,rfl⟩:=List.mem_map.1 hx
  have h1:=hin y hy
  unfold U64 at h1
  omega
theorem risKeys_back {xs:List Int} (h: ∀y∈xs,U64 y):(q5b xs).map (fun k:Nat=>(k:Int))=q4s xs xs.length:=by
 unfold q5b
 rw[List.map_map]
 conv=>rhs;rw[←List.map_id (q4s xs xs.length)]
 refine List.map_congr_left fun y hy=> ?_
 have h1:=h y (q9v (Nat.le_refl _) y hy)
 unfold U64 at h1
 show((y.toNat:Nat):Int)=y
 omega
theorem laLoadAt (v:Value):Instr.loadAt 24 v=ldM 24 v:=rfl
theorem la_ld {w:World} {b:Nat} {x:La} {kv:Value} (h:Blk w b 24 (laC x kv)):ldR Tryz.prog 24 (.pointer (some ⟨b,0,none⟩)) w= .ok (.agg (laC x kv)) w:=h.ld Tryz.underlying24 rfl (by simp only[laC];kernel_rfl)
end Go.Proofs.YtibiekfjbibpbaaGreat
