/- The document's blocks of an arena (leveeref06): where they lie, how they grow. -/
import Derived.Test.YtibiekfjbibpbaaGreatRefM
import Derived.Test.YtibiekfjbibpbaaGreatBaseC
import Derived.Test.YtibiekfjbibpbaaGreatGeoN
set_option linter.unusedVariables false
set_option linter.unusedSimpArgs false
namespace Go.Proofs.YtibiekfjbibpbaaGreat
open Go.RowKit
def blkC (x:Int×Int):List Value:=[.int .u64 x.1,.int .i64 x.2]
def intC (x:Int):Value:= .int .i64 x
def refC (bs:List Int) (k:Nat):List Int:=(List.range k).map fun i=>(clsAt bs (i+1):Int)
def refLi (bs:List Int) (i:Nat) (l:List (Fin 64)):List (Int×Int):=l.map fun j=>(blockZ ((i:Int)+1) (clsAt bs (i+1)) (j.val:Int),2)
def refL (bs:List Int) (k:Nat):List (Int×Int):=(List.range k).flatMap fun i=>refLi bs i (setBits (bitAt bs (i+1)))
theorem refC_succ (bs:List Int) (k:Nat):refC bs (k+1)=refC bs k++[(clsAt bs (k+1):Int)]:=by
 unfold refC;rw[List.range_succ,List.map_append];rfl
theorem refL_succ (bs:List Int) (k:Nat):refL bs (k+1)=refL bs k++refLi bs k (setBits (bitAt bs (k+1))):=by
 unfold refL;rw[List.range_succ,List.flatMap_append];simp
structure WorldIs (w:World) (N g:Nat) (size:Int) (cs:List Int) (ls:List (Int×Int)) (vC vL:Value):Prop where
 blk:Blk w g 230 #[.int .i64 size,vC,vL]
 rc:w.ownsRow N 3 1 vC cs.length (cs.map intC)
 rl:w.ownsRow N 235 2 vL ls.length (ls.flatMap blkC)
 lo:N≤g
 nc:vC.ownBlock≠some g
 nl:vL.ownBlock≠some g
 ncl: ∀k,vC.ownBlock=some k→vL.ownBlock≠some k
theorem own_lt {w:World} {base:Nat} {e:TypeId} {size n:Nat} {v:Value} {xs:List Value} (h:w.ownsRow base e size v n xs): ∀k,v.ownBlock=some k→k<w.heap.size:=by
 intro k hk
 rcases h.2 with⟨h1,_⟩ | ⟨g,cap,cur,h1,h2,h3,_⟩
 ·rw[h1] at hk;cases hk
 ·rw[h1] at hk
  have:g=k:=by simpa[Value.ownBlock] using hk
  subst this
  exact(Array.getElem?_eq_some_iff.1 h3).1
theorem WorldIs.only {w w':World} {N g:Nat} {size:Int} {cs:List Int} {ls:List (Int×Int)} {vC vL:Value} {fs:List Nat} (h:WorldIs w N g size cs ls vC vL) (ho:Only fs w w') (h1:g∉fs) (h2: ∀k,vC.ownBlock=some k→k∉fs) (h3: ∀k,vL.ownBlock=some k→k∉fs):WorldIs w' N g size cs ls vC vL:=
 ⟨ho.blk h.blk h1,ho.own h.rc h2,ho.own h.rl h3,h.lo,h.nc,h.nl,h.ncl⟩
theorem WorldIs.bel {w w':World} {N g:Nat} {size:Int} {cs:List Int} {ls:List (Int×Int)} {vC vL:Value} (h:WorldIs w N g size cs ls vC vL) (hb:Below w.heap.size w w'):WorldIs w' N g size cs ls vC vL:=
 h.only (Only.of_below hb []) (by simp) (by simp) (by simp)
theorem WorldIs.addC {w w0 w9:World} {N g:Nat} {size:Int} {cs:List Int} {ls:List (Int×Int)} {vC vL v':Value} {c:Int} (h:WorldIs w N g size cs ls vC vL) (hN:N≤w.heap.size) (hb:Below w.heap.size w w0)
  (hown:w9.ownsRow N 3 1 v' (cs.length+1) (cs.map intC++[.int .i64 c])) (hg:w0.grownBy w9 vC.ownBlock) (hob:v'.ownBlock=vC.ownBlock∨v'.ownBlock=some w0.heap.size):
  WorldIs (w9.setCell ⟨g,1,none⟩ v') N g size (cs++[c]) ls v' vL∧Below N w (w9.setCell ⟨g,1,none⟩ v'):=by
 have h0:=h.bel hb
 have ho:Only vC.ownBlock.toList w0 w9:=Only.of_grown hg (fun k hk=>by simp[hk])
 have hb9:Blk w9 g 230 #[.int .i64 size,vC,vL]:=ho.blk h0.blk (by simpa using h.nc)
 have hl9:w9.ownsRow N 235 2 vL ls.length (ls.flatMap blkC):=ho.own h0.rl (fun k hk hm=>h.ncl k (by simpa using hm) hk)
 have hs:Only [g] w9 (w9.setCell ⟨g,1,none⟩ v'):=(Only.refl _ _).setCell (Or.inl (by simp)) _
 have hgl:=h0.blk.lt
 have nv:v'.ownBlock≠some g:=by
  rcases hob with e | e
  ·rw[e];exact h.nc
  ·rw[e];intro hc;injection hc with hc;omega
 refine⟨⟨hb9.set_ 1 v',hs.own (by simpa[intC] using hown) (fun k hk hm=>nv (by rw[hk,List.mem_singleton.1 hm])),hs.own hl9 (fun k hk hm=>h.nl (by rw[hk,List.mem_singleton.1 hm])),h.lo,nv,h.nl,fun k hk=> ?_⟩,?_⟩
 ·rcases hob with e | e
  ·exact h.ncl k (by rw[←e];exact hk)
  ·rw[e] at hk
   injection hk with hk
   intro hc
   have:=own_lt h0.rl k hc
   omega
 ·have h1:Below N w w0:=hb.mono hN
  have h2:Below N w0 w9:=ho.below (fun x hx=>own_base h0.rc x (by simpa using hx)) (Nat.le_trans hN hb.size)
  exact((h1.trans h2).setCell h.lo _)
theorem WorldIs.addL {w w0 w9:World} {N g:Nat} {size:Int} {cs:List Int} {ls:List (Int×Int)} {vC vL v':Value} {x:Int×Int} (h:WorldIs w N g size cs ls vC vL) (hN:N≤w.heap.size) (hb:Below w.heap.size w w0)
  (hown:w9.ownsRow N 235 2 v' (ls.length+1) (ls.flatMap blkC++blkC x)) (hg:w0.grownBy w9 vL.ownBlock) (hob:v'.ownBlock=vL.ownBlock∨v'.ownBlock=some w0.heap.size):
  WorldIs (w9.setCell ⟨g,2,none⟩ v') N g size cs (ls++[x]) vC v'∧Below N w (w9.setCell ⟨g,2,none⟩ v'):=by
 have h0:=h.bel hb
 have ho:Only vL.ownBlock.toList w0 w9:=Only.of_grown hg (fun k hk=>by simp[hk])
 have hb9:Blk w9 g 230 #[.int .i64 size,vC,vL]:=ho.blk h0.blk (by simpa using h.nl)
 have hc9:w9.ownsRow N 3 1 vC cs.length (cs.map intC):=ho.own h0.rc (fun k hk hm=>h.ncl k hk (by simpa using hm))
 have hs:Only [g] w9 (w9.setCell ⟨g,2,none⟩ v'):=(Only.refl _ _).setCell (Or.inl (by simp)) _
 have hgl:=h0.blk.lt
 have nv:v'.ownBlock≠some g:=by
  rcases hob with e | e
  ·rw[e];exact h.nl
  ·rw[e];intro hc;injection hc with hc;omega
 refine⟨⟨hb9.set_ 2 v',hs.own hc9 (fun k hk hm=>h.nc (by rw[hk,List.mem_singleton.1 hm])),hs.own (by simpa[List.flatMap_append] using hown) (fun k hk hm=>nv (by rw[hk,List.mem_singleton.1 hm])),h.lo,h.nc,nv,fun k hk=> ?_⟩,?_⟩
 ·rcases hob with e | e
  ·rw[e];exact h.ncl k hk
  ·rw[e]
   intro hc
   injection hc with hc
   have:=own_lt h0.rc k hk
   omega
 ·have h1:Below N w w0:=hb.mono hN
  have h2:Below N w0 w9:=ho.below (fun x hx=>own_base h0.rl x (by simpa using hx)) (Nat.le_trans hN hb.size)
  exact((h1.trans h2).setCell h.lo _)
end Go.Proofs.YtibiekfjbibpbaaGreat
