/- Rows of addresses of one's own: how they look; sorted. -/
import Derived.Maps.AppendAt
import Derived.Deep.AppendLies
import Derived.Test.YtibiekfjbibpbaaGreatAppM
import Derived.Test.YtibiekfjbibpbaaGreatSortN
set_option linter.unusedVariables false
set_option linter.unusedSimpArgs false
namespace Go.Proofs.YtibiekfjbibpbaaGreat
open Go.RowKit Go.Shelf
theorem infoAddr:(Tryz.prog.info? 51).map (fun i=>(i.zero,i.size,i.bytes))=some (some (.int .u64 0),1,8):=by kernel_rfl
theorem cells_one_new (w:World) (x:Value) (t:TypeId): ∀j u,[x][j]?=some u→(w.alloc (.cells #[x] t)).cell? ((⟨w.heap.size,0,none⟩:Addr).add j)=some u:=World.news_of_block (Blk.new w t #[x])
theorem row_form1 {w:World} {base:Nat} {e:TypeId} {size:Nat} {v:Value} {n:Nat} {xs:List Value} (h:w.ownsRow base e size v n xs): ∃a c,v= .slice a n c:=by
 rcases h.2 with⟨rfl,rfl⟩ | ⟨g,cap,cur,rfl,_⟩
 ·exact⟨_,_,rfl⟩
 ·exact⟨_,_,rfl⟩
theorem othersWalks {A B:World} (h:KeepsOthers A B):KeepsWalks A B:=⟨h.size,fun k o hk ho=>h.same k o hk (by cases o<;>first | rfl | (simp[Obj.isWalk] at ho))⟩
theorem onlyOthers {A B:World} {g:Nat} {cs:Array Value} {ty:TypeId} {fz:Nat×Nat} (h:Only [g] A B) (hg:A.heap[g]?=some (.cells cs ty fz)):KeepsOthers A B:=
 ⟨h.size,fun k o hk ho=>(h.block k (Array.getElem?_eq_some_iff.1 hk).1 (by
  intro e
  obtain rfl:k=g:=by simpa using e
  rw[hg] at hk;cases hk;cases ho)).trans hk⟩
theorem rowS_of_own {w:World} {base:Nat} {v:Value} {xs:List Int} (h:w.ownsRow base 51 1 v xs.length (xs.map (Value.int .u64))):
  (v= .slice none 0 0∧xs=[])∨ ∃g cap tl,v= .slice (some ⟨g,0,none⟩) xs.length cap∧base≤g∧RowS w g xs.length xs.toArray tl∧xs.length≤cap∧cap≤maxLen∧tl.length=cap-xs.length:=by
 rcases h.2 with⟨rfl,h2⟩ | ⟨g,cap,cur,rfl,h2,h3,h4,h5,h6,h7⟩
 ·exact Or.inl ⟨rfl,List.length_eq_zero_iff.1 h2⟩
 ·refine Or.inr ⟨g,cap,cur.toList.drop xs.length,rfl,h2,⟨?_,by simp⟩,h4,h5,by simp;omega⟩
  show w.heap[g]?=_
  rw[h3]
  have:cur=rowC xs.toArray (cur.toList.drop xs.length):=by
   unfold rowC
   apply Array.ext'
   rw[Nat.mul_one] at h7
   show cur.toList=List.map (Value.int .u64) xs.toArray.toList++_
   simp only[←h7]
   exact(List.take_append_drop _ _).symm
  exact congrArg (fun c=>some (Obj.cells c 51 (0,0))) this
theorem SortOwn_s {w:World} {base:Nat} {v:Value} {xs:List Int} (h:w.ownsRow base 51 1 v xs.length (xs.map (Value.int .u64))) (hn:xs.length≤1000000000):
  Calls Tryz.prog 133 #[v] w fun e w'=>(∃r,e= .returned r)∧ ∃ys:List Int,ys.Perm xs∧ys.Pairwise (· ≤ ·)∧w'.ownsRow base 51 1 v xs.length (ys.map (Value.int .u64))∧KeepsOthers w w'∧
   ((v= .slice none 0 0∧w=w')∨ ∃g n cap,v= .slice (some ⟨g,0,none⟩) n cap∧base≤g∧Only [g] w w'):=by
 rcases rowS_of_own h with⟨rfl,rfl⟩ | ⟨g,cap,tl,rfl,hb,hr,hc1,hc2,htl⟩
 ·refine(Sort_none w).mono ?_
  rintro e w' ⟨hr,rfl⟩
  exact⟨hr,[],List.Perm.refl _,List.Pairwise.nil,h,KeepsOthers.refl _,Or.inl ⟨rfl,rfl⟩⟩
 ·refine(Sort_s g xs.length cap tl xs.toArray w hr hn).mono ?_
  rintro e w' ⟨hr',⟨d',h1,h2,h3⟩,ho⟩
  obtain⟨s1,s2⟩:=sorted_list xs.toArray d' xs.length (by simp) h2 h3
  have hl:d'.toList.length=xs.length:=s1.length_eq
  refine⟨hr',d'.toList,s1,s2,⟨by simpa using hl,Or.inr ⟨g,cap,rowC d' tl,rfl,hb,h1.blk,hc1,hc2,?_,?_⟩⟩,onlyOthers ho hr.blk,Or.inr ⟨g,_,cap,rfl,hb,ho⟩⟩
  ·unfold rowC;simp at hl ⊢;omega
  ·unfold rowC
   show List.take _ (List.map (Value.int .u64) d'.toList++tl)=_
   rw[Nat.mul_one,List.take_append_of_le_length (by rw[List.length_map];omega),List.take_of_length_le (by rw[List.length_map];omega)]
end Go.Proofs.YtibiekfjbibpbaaGreat
