import Derived.Test.YtjmaicckkkdjpaaGreatM33
import Derived.Deep.CutBlock
import Derived.StillTailTactics
/- The document's nodes: Len, Is, Places, Valid. -/
set_option maxRecDepth 100000
set_option maxHeartbeats 2000000
set_option linter.unusedVariables false
set_option linter.unusedSimpArgs false
namespace Go.Proofs.YtjmaicckkkdjpaaGreat
open Go.RowKit
section
attribute [local go_sem ↓ high] nodeLoadAt nodeLoadVar nodeStoreAt ptrsLoadAt append_shut2
attribute [local go_sem] ldM_run lvM_run stM_run Oper.semAt_some appM2_run
theorem nodeBox (n:NodeA) (w:World): ∃W1,W1=w.alloc (.cells (nodeC n) 77)∧Blk W1 w.heap.size 77 (nodeC n)∧Below w.heap.size w W1:=⟨_,rfl,Blk.new _ _ _,ba (Below.refl _ _) _⟩
end
section
attribute [local go_sem ↓ high] nodeLoadAt nodeLoadVar nodeStoreAt ptrsLoadAt append_shut2
attribute [local go_sem] ldM_run lvM_run stM_run Oper.semAt_some appM2_run
def EntsAt (w:World) (v:Value) (l:List (Int×Int)):Prop:=
 ∃ao cap,v= .slice ao l.length cap∧(l=[]∨ ∃b off,ao=some ⟨b,off,none⟩∧b<w.heap.size∧ ∀i x,l[i]?=some x→w.cell? ⟨b,off+i*2,none⟩=some (.int .u64 x.1)∧w.cell? ⟨b,off+i*2+1,none⟩=some (.int .u64 x.2))
theorem EntsAt.bel {w w':World} {v:Value} {l:List (Int×Int)} (h:EntsAt w v l) (hb:Below w.heap.size w w'):EntsAt w' v l:=by
 obtain⟨ao,cap,h1,h2⟩:=h
 refine⟨ao,cap,h1,?_⟩
 rcases h2 with h2 | ⟨b,off,h3,h4,h5⟩
 ·exact Or.inl h2
 ·exact Or.inr ⟨b,off,h3,Nat.lt_of_lt_of_le h4 hb.size,fun i x hi=>⟨(hb.cell (p:=⟨b,off+i*2,none⟩) h4).trans (h5 i x hi).1,(hb.cell (p:=⟨b,off+i*2+1,none⟩) h4).trans (h5 i x hi).2⟩⟩
theorem entL_at: ∀(l:List (Int×Int)) (i:Nat) (x:Int×Int),l[i]?=some x→(l.flatMap entC)[i*2]?=some (.int .u64 x.1)∧(l.flatMap entC)[i*2+1]?=some (.int .u64 x.2)
 | [],i,x,h=>by simp at h
 | y::l,0,x,h=>by
  simp at h;subst h
  exact⟨rfl,rfl⟩
 | y::l,i+1,x,h=>by
  have:=entL_at l i x (by simpa using h)
  rw[List.flatMap_cons,show(i+1)*2=(i*2)+1+1 by omega]
  exact this
end
section
attribute [local go_sem ↓ high] nodeLoadAt nodeLoadVar nodeStoreAt ptrsLoadAt append_shut2
attribute [local go_sem] ldM_run lvM_run stM_run Oper.semAt_some appM2_run
end
section
attribute [local go_sem ↓ high] nodeLoadAt nodeLoadVar nodeStoreAt ptrsLoadAt append_shut2
attribute [local go_sem] ldM_run lvM_run stM_run Oper.semAt_some appM2_run
end
section
attribute [local go_sem ↓ high] nodeLoadAt nodeLoadVar nodeStoreAt ptrsLoadAt append_shut2
attribute [local go_sem] ldM_run lvM_run stM_run Oper.semAt_some appM2_run
section
variable {P:Program} {ops:Array Oper} {w:World}
end
end
section
attribute [local go_sem ↓ high] nodeLoadAt nodeLoadVar nodeStoreAt ptrsLoadAt append_shut2
attribute [local go_sem] ldM_run lvM_run stM_run Oper.semAt_some appM2_run
end
end Go.Proofs.YtjmaicckkkdjpaaGreat
