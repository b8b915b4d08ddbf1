/- How a slice of bytes is opened. -/
import Derived.Test.YtibiekfjbibpbaaGreatOpensR
import Derived.Test.YtibiekfjbibpbaaGreatByteW
import Derived.ChangeSlices
set_option maxRecDepth 100000
set_option linter.unusedVariables false
set_option linter.unusedSimpArgs false
namespace Go.Proofs.YtibiekfjbibpbaaGreat
open Go.ChangeShapes Go.WideShapes Go.ChangeAt Go.RowKit Go.Joins Go.Deep
theorem open_bytes {H:Type} {enc:TypeId×Value→H} {w:World} {base:Nat} {spare:Nat→Bool} {held:Bool} {r:Reach} {b0:Nat} {v:Value} {d:DataW H} {p:List MemPlace} (hv:Value.okWide Tryz.prog w r b0 36 v) (h:DataW.Trod enc Tryz.prog w base spare held 36 v d p):
  ∃bs:List Int,ByArg w v bs∧bs.length≤9223372036854775807:=by
 obtain⟨ao,n,cap,rfl⟩:=okWide_slice Tryz.underlying36 hv
 obtain⟨fuel,hf⟩:=h
 rcases Go.ChangeShapes.open_ints Tryz.underlying36 Tryz.underlying5 (by kernel_rfl) hf with⟨h1,_⟩ | ⟨a,len,cap',zs,h1,hb,hl,hm,hzl,hx,hcell,hwf⟩
 ·have h2:(Value.slice ao n cap)= .slice none 0 0:=by simpa[Value.cells] using h1
  injection h2 with e1 e2 e3
  subst e1;subst e2;subst e3
  exact⟨[],⟨(fun x hx=>by cases hx),Or.inl ⟨rfl,rfl⟩⟩,by simp⟩
 ·have h2:(Value.slice ao n cap)= .slice (some a) len cap':=by simpa[Value.cells] using h1
  injection h2 with e1 e2 e3
  subst e1;subst e2;subst e3
  have hlz:n≤zs.length:=by rw[hzl];split<;>omega
  have hlen:(zs.take n).length=n:=by rw[List.length_take];omega
  refine⟨zs.take n,⟨fun x hx=> ?_,Or.inr ⟨a,cap,by rw[hlen],by rw[hlen];exact hl,hm,?_⟩⟩,by rw[hlen];unfold maxLen at hm;omega⟩
  ·have:=hwf x (List.mem_of_mem_take hx)
   simp[Lit.wf,IntKind.min,IntKind.max,IntKind.signed,IntKind.bits] at this
   omega
  by_cases hn:n=0
  ·left;rw[hn];rfl
  right
  obtain⟨b,off,spot⟩:=a
  have hx0:=hcell 0 (by omega)
  have hsp:spot=none:=by simpa[Addr.add] using World.cell?_spot hx0
  subst hsp
  have hlt:b<w.heap.size:=by
   have:=cell_lt hx0
   rw[add_plain] at this
   exact this
  refine⟨b,off,rfl,hlt,fun i x hi=> ?_⟩
  have hil:i<n:=by have:=(List.getElem?_eq_some_iff.1 hi).1;omega
  have:=hcell i (by omega)
  rw[add_plain] at this
  rw[this]
  rw[List.getElem?_take,if_pos hil] at hi
  rw[List.getD_eq_getElem?_getD,hi]
  rfl
end Go.Proofs.YtibiekfjbibpbaaGreat
