import Derived.ProofKit
import Derived.OpenShut
import Derived.Lib.SmallJoins
import Derived.Below
import Derived.ChangeOld
import Derived.Deep.Slices
import Derived.Deep.Fields
import Derived.ChangeSame
import Derived.SizedLaws
import Derived.Test.YtjmaicckkkdjpaaGreatF31
set_option maxRecDepth 100000
set_option linter.unusedVariables false
set_option linter.unusedSimpArgs false
/- How arguments are opened: a slice of structs of one-cell fields; strings. Of no program. -/
namespace Go.Proofs.YtjmaicckkkdjpaaGreat
open Go.ChangeShapes Go.WideShapes Go.ChangeAt Go.RowKit Go.Joins Go.Deep
section
variable {H:Type} {enc:TypeId×Value→H} {P:Program} {w:World} {base:Nat} {spare:Nat→Bool} {held:Bool}
theorem cell_lt {w:World} {a:Addr} {v:Value} (h:w.cell? a=some v):a.block<w.heap.size:=by
 unfold World.cell? at h
 split at h
 ·rename_i hb;exact(Array.getElem?_eq_some_iff.1 hb).1
 ·cases h
end
section
variable {H:Type} {enc:TypeId×Value→H} {w:World} {base:Nat} {spare:Nat→Bool} {held:Bool}
end
end Go.Proofs.YtjmaicckkkdjpaaGreat
/- What is laid (law 15), opened. -/
namespace Go.Proofs.YtjmaicckkkdjpaaGreat
open Go.ChangeShapes Go.WideShapes Go.ChangeAt Go.RowKit Go.Joins Go.Deep
section
variable {H:Type} {enc:TypeId×Value→H} {w:World} {base:Nat} {spare:Nat→Bool} {held:Bool}
theorem structLaid: ∃f0 f1 f2 f3:Field,Tryz.prog.underlying 24=some (.struct #[f0,f1,f2,f3])∧f0.type=3∧f1.type=22∧f2.type=3∧f3.type=3:=
 ⟨_,_,_,_,Tryz.underlying24,rfl,rfl,rfl,rfl⟩
theorem oneLaid: ∀{fs},Tryz.prog.underlying 24=some (.struct fs)→oneCellFields Tryz.prog fs=true:=by
 intro fs h
 rw[Tryz.underlying24] at h
 injection h with h
 injection h with h
 subst h
 kernel_rfl
theorem cellsLaid:Tryz.prog.cellsOf 24=4:=by kernel_rfl
theorem open_words_in {fuel:Nat} {v:Value} {y:DataW H×List MemPlace} (h:DataW.trod enc Tryz.prog w base spare held fuel 22 [v]=some y): ∃xs:List Int,NumsAt .u64 w v xs∧(∀z∈xs,U64 z)∧xs.length≤9223372036854775807:=by
 rcases Go.ChangeShapes.open_ints Tryz.underlying22 Tryz.underlying25 (by kernel_rfl) h with⟨h1,_⟩ | ⟨a,len,cap',zs,h1,hb,hl,hm,hzl,hx,hcell,hwf⟩
 ·obtain rfl:v= .slice none 0 0:=by simpa using h1
  exact⟨[],⟨none,0,rfl,Or.inl rfl⟩,fun z hz=>(by cases hz),by simp⟩
 ·obtain rfl:v= .slice (some a) len cap':=by simpa using h1
  have hlz:len≤zs.length:=by rw[hzl];split<;>omega
  have hlen:(zs.take len).length=len:=by rw[List.length_take];omega
  refine⟨zs.take len,⟨some a,cap',by rw[hlen],?_⟩,fun z hz=>bounds_u64 (hwf z (List.mem_of_mem_take hz)),by rw[hlen];unfold maxLen at hm;omega⟩
  by_cases hn:len=0
  ·left;rw[hn];rfl
  right
  obtain⟨b,off,spot⟩:=a
  have hx0:=hcell 0 (by omega)
  have hsp:spot=none:=by simpa[Addr.add] using World.cell?_spot hx0
  subst hsp
  have hlt:b<w.heap.size:=by
   have:=cell_lt hx0
   rw[add_plain] at this
   exact this
  refine⟨b,off,rfl,hlt,fun i z hi=> ?_⟩
  have hi2:=(List.getElem?_eq_some_iff.1 hi).1
  rw[hlen] at hi2
  have h9:=hcell i (by omega)
  rw[add_plain] at h9
  rw[h9]
  rw[List.getElem?_take,if_pos hi2] at hi
  rw[List.getD_eq_getElem?_getD,hi];rfl
theorem open_laid {r:Reach} {b0:Nat} {v:Value} {d:DataW H} {p:List MemPlace} (hv:Value.okWide Tryz.prog w r b0 24 v) (h:DataW.Trod enc Tryz.prog w base spare held 24 v d p):
  ∃(x:La) (kv:Value) (xs:List Int),v= .agg (laC x kv)∧NumsAt .u64 w kv xs∧(∀z∈xs,U64 z)∧xs.length≤9223372036854775807∧I64 x.slabs∧I64 x.per∧I64 x.lag:=by
 obtain⟨f0,f1,f2,f3,hu,t0,t1,t2,t3⟩:=structLaid
 have hone:=oneLaid hu
 obtain⟨v0,v1,v2,v3,y0,y1,y2,y3,n,rfl,_,_,g0,g1,g2,g3⟩:=open_agg4 hu hone cellsLaid hv h
 rw[t0] at g0;rw[t1] at g1;rw[t2] at g2;rw[t3] at g3
 obtain⟨z0,e0,_,w0⟩:=DataW.trod_int Tryz.underlying3 g0
 obtain⟨z2,e2,_,w2⟩:=DataW.trod_int Tryz.underlying3 g2
 obtain⟨z3,e3,_,w3⟩:=DataW.trod_int Tryz.underlying3 g3
 obtain rfl:v0=_:=by simpa using e0
 obtain rfl:v2=_:=by simpa using e2
 obtain rfl:v3=_:=by simpa using e3
 obtain⟨xs,q1,q2,q3⟩:=open_words_in g1
 exact⟨⟨z0,z2,z3⟩,v1,xs,rfl,q1,q2,q3,bounds_i64 w0,bounds_i64 w2,bounds_i64 w3⟩
end
theorem GetFinds_l (x:La) (kv:Value) (xs:List Int) (q c:Int) (w:World) (hn:NumsAt .u64 w kv xs) (hu: ∀z∈xs,U64 z) (hl:xs.length≤9223372036854775807) (h1:I64 x.slabs) (h2:I64 x.per) (h3:I64 x.lag) (q0:0≤q) (q1:q≤18446744073709551615) (c0: -9223372036854775808≤c) (c1:c≤9223372036854775807):
  Calls Tryz.prog 3 #[.agg (laC x kv),.int .u64 q,.int .i64 c] w fun e w'=>e= .returned (.bool true)∧Below w.heap.size w w':=GetFinds_z x kv xs q c hu hl ⟨h1,h2,h3⟩ ⟨q0,q1⟩ w hn
end Go.Proofs.YtjmaicckkkdjpaaGreat
