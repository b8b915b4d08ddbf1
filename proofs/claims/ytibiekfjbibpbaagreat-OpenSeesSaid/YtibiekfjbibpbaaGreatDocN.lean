import Derived.Test.YtibiekfjbibpbaaGreatPlnM
set_option maxRecDepth 100000
set_option maxHeartbeats 1000000
set_option linter.unusedVariables false
set_option linter.unusedSimpArgs false
namespace Go.Proofs.YtibiekfjbibpbaaGreat
open Go.RowKit
section
attribute [local go_sem ↓ high] q0v
attribute [local go_sem] Oper.semAt_some q0h
end
section
theorem q5l (ps:Array (Nat×Value)):Instr.build 55 ps=bldM 55 ps:=rfl
attribute [local go_sem ↓ high] q0s q0f q0d q5l
attribute [local go_sem] q1x q1p q1v q2t
end
section
theorem x4z (v:Value):Instr.loadAt 184 v=ldM 184 v:=rfl
attribute [local go_sem ↓ high] q0s q0f q0d q5l x4z
attribute [local go_sem] q1x q1p q1v q2t
end
theorem q7o (p:Value):Instr.loadAt 79 p=ldM 79 p:=rfl
theorem q6b (a:Addr):loadVar 79 a=lvM 79 a:=rfl
theorem q6p (p v:Value):Instr.storeAt 79 p v=stM 79 p v:=rfl
theorem q7s (n:Nat) (ps:Array (Nat×Value)):Instr.buildSlice 77 n ps=bslM 77 n ps:=rfl
end Go.Proofs.YtibiekfjbibpbaaGreat
namespace Go.Proofs.YtibiekfjbibpbaaGreat
open Go.RowKit
section
attribute [local go_sem ↓ high] q0s q0f q0d q5l q7s q7o q6b q6p q0v
attribute [local go_sem] q1x q1p q1v q2t q4g Oper.semAt_some q0h
theorem q6o {w:World} {base:Nat} {e:TypeId} {size:Nat} {v:Value} {n:Nat} {xs:List Value} (h:w.ownsRow base e size v n xs) (h0:0<n):∃g cap,v= .slice (some ⟨g,0,none⟩) n cap/\base<=g/\n<=cap/\g<w.heap.size/\ ∀i x,xs[i]?=some x->w.cell? ⟨g,0+i,none⟩=some x:=by
 have hl:=h.1;rcases h.2 with⟨_,h2⟩|⟨g,cap,I,rfl,h2,h3,h4,h5,h6,h7⟩;·omega
 ·refine⟨g,cap,rfl,h2,h4,(AA.1 h3).1,fun i x hi=> ?_⟩;have hc:Blk w g e I:=h3;have L:i<n*size:=by have:=(AE.1 hi).1;omega
  rw[hc.cell,AQ,<- Ad];have:(I.toList.take (n*size))[i]?=some x:=by rw[h7];exact hi
  rwa[AV,if_pos L] at this
end
section
attribute [local go_sem ↓ high] q0s q0f q0d q5l q7s q7o q6b q6p q0v
attribute [local go_sem] q1x q1p q1v q2t q4g Oper.semAt_some q0h
theorem q1b.of_own2 {X:World} {N n sz:Nat} {e:TypeId} {v:Value} {xs:List Value} (h:X.ownsRow N e sz v n xs) (hs:0<sz):q1b X v n xs:=by
 have hl:=h.1;rcases Bt n with h0|h0
 ·rcases h.2 with⟨rfl,_⟩|⟨g,cap,S,rfl,h2,h3,h4,h5,h6,h7⟩;·exact Or.inl ⟨rfl,h0,by rw[h0] at hl;exact Am.1 (by omega)⟩
  ·exact Or.inr ⟨g,0,cap,rfl,fun j u hj=>by have:=(AE.1 hj).1;rw[hl,h0] at this;omega⟩
 ·obtain⟨g,cap,e1,L,M,O,I⟩:=q6o h h0;exact Or.inr ⟨g,0,cap,e1,fun j u hj=>I j u hj⟩
end
end Go.Proofs.YtibiekfjbibpbaaGreat
namespace Go.Proofs.YtibiekfjbibpbaaGreat
open Go.RowKit
attribute [local go_sem ↓ high] q0s q0f q0d q5l q7s q7o q6b q6p q0v v7r
attribute [local go_sem] q1x q1p q1v q2t q4g Oper.semAt_some q0h
def q8z (bs:List Int) (rs:List (List (Int×NodeA))):Prop:=z0p bs/\x3q bs/\ ∃n,q1y bs (wAt bs 2)=some n/\q3f (q1y bs) n.lv (wAt bs 2) none rs
end Go.Proofs.YtibiekfjbibpbaaGreat
namespace Go.Proofs.YtibiekfjbibpbaaGreat
open Go.RowKit
section
variable {w:World} {b6 b7:Nat} {h nn:Int} {pr:Value} {ps:List (Int×ByteArray)} {v:Value} {xs:List Int} {W W':World}
end
section
variable {W1 W W':World} {rb:Nat} {pr rv fv kv:Value} {h nn:Int} {fs ks:List Int}
end
end Go.Proofs.YtibiekfjbibpbaaGreat
