import Derived.Test.YtibiekfjbibpbaaGreatRefM
import Derived.Test.YtibiekfjbibpbaaGreatGeoN
import Derived.Deep.Onto
set_option maxRecDepth 100000
set_option maxHeartbeats 4000000
set_option linter.unusedVariables false
set_option linter.unusedSimpArgs false
namespace Go.Proofs.YtibiekfjbibpbaaGreat
open Go.RowKit
attribute [local go_sem ↓ high] q0v
attribute [local go_sem] q0h
def insA (xs:List Int) (a:Int):List Int:=if a∈xs then xs else xs.takeWhile (fun x=>decide (x<a))++a::xs.dropWhile (fun x=>decide (x<a))
theorem q6w (N:Nat) (W:World) (x:Value) (l news:List Int) (v:Value) (hx:q1b W x news.length (news.map (Value.int .u64))) (hm:l.length+news.length<=2000000) (hN:N<=W.heap.size) (hr:W.ownsRow N 51 1 v l.length (l.map (Value.int .u64))):
  ∃v' w',q0n Tryz.prog #[30,30] 30 #[v,x] W= .ok v' w'/\w'.ownsRow N 51 1 v' (l++news).length ((l++news).map (Value.int .u64))/\W.grownBy w' v.ownBlock/\(v'.ownBlock=v.ownBlock\/v'.ownBlock=some W.heap.size):=by
 obtain⟨i0,O,I,M,L⟩:=info_parts q9s;obtain⟨v',w',h⟩:=q2b (P:=Tryz.prog) W N 30 30 51 i0 (.int .u64 0) 1 8 Tryz.underlying30 O I M L rfl (by decide) v l.length _ hr x news.length _ hx (by simp) (by intro u hu;obtain⟨y,_,rfl⟩:=Aj.1 hu;rfl) (by unfold maxLen;omega) (by omega) hN;refine⟨v',w',h.run,?_,h.grown,h.ob⟩;rw[AI,Ah];exact h.own
end Go.Proofs.YtibiekfjbibpbaaGreat
namespace Go.Proofs.YtibiekfjbibpbaaGreat
open Go.RowKit
def q9j (bs:List Int) (i:Nat) (l:List (Fin 64)):List (Int×Int):=l.map fun j=>(q0c ((i:Int)+1) (q1u bs (i+1)) (j.val:Int),2)
def refL (bs:List Int) (k:Nat):List (Int×Int):=(List.range k).flatMap fun i=>q9j bs i (q0t (q4r bs (i+1)))
theorem z8x (bs:List Int) (k:Nat):refL bs (k+1)=refL bs k++q9j bs k (q0t (q4r bs (k+1))):=by unfold refL;rw[Ay,Al];simp
end Go.Proofs.YtibiekfjbibpbaaGreat
namespace Go.Proofs.YtibiekfjbibpbaaGreat
open Go.RowKit
attribute [local go_sem ↓ high] q5q
attribute [local go_sem] x2p
theorem z1f (bs:List Int) (k:Nat):(refL bs k).length<=64*k:=by
 induction k with
 | zero=>simp[refL]
 | succ k ih=>
  rw[z8x,AI];have:(q9j bs k (q0t (q4r bs (k+1)))).length<=64:=by unfold q9j;rw[AO];exact q3s (q4r bs (k+1)) 64
  omega
end Go.Proofs.YtibiekfjbibpbaaGreat
namespace Go.Proofs.YtibiekfjbibpbaaGreat
open Go.RowKit
theorem x1a (xs:List Int) (a:Int):(insA xs a).length<=xs.length+1:=by
 unfold insA;split;·omega
 ·have:=congrArg List.length (CJ (p:=fun x=>decide (x<a)) (l:=xs));rw[AI] at this;simp only[List.length_append,List.length_cons];omega
end Go.Proofs.YtibiekfjbibpbaaGreat
namespace Go.Proofs.YtibiekfjbibpbaaGreat
section
open Go.RowKit
attribute [local go_sem] Oper.semAt_some
end
section
open Go.RowKit Go.Shelf
attribute [local go_sem] Oper.semAt_some
end
section
open Go.RowKit Go.Shelf
attribute [local go_sem] Oper.semAt_some
end
section
open Go.RowKit Go.Shelf
attribute [local go_sem] Oper.semAt_some
end
end Go.Proofs.YtibiekfjbibpbaaGreat
