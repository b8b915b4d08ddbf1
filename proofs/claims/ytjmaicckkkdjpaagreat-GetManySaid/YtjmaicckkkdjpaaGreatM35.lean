import Derived.ProofKit
import Derived.OpenShut
import Derived.Lib.SmallJoins
import Derived.Below
import Derived.ChangeOld
import Derived.Deep.Slices
import Derived.Deep.Fields
import Derived.ChangeSame
import Derived.SizedLaws
import Derived.ChangeSlices
import Derived.Test.YtjmaicckkkdjpaaGreatM31
set_option maxRecDepth 100000
set_option maxHeartbeats 4000000
set_option linter.unusedVariables false
set_option linter.unusedSimpArgs false
/- How arguments are opened: a slice of structs of one-cell fields; strings. Of no program. -/
namespace Go.Proofs.YtjmaicckkkdjpaaGreat
open Go.ChangeShapes Go.WideShapes Go.ChangeAt Go.RowKit Go.Joins Go.Deep
section
variable {H:Type} {enc:TypeId×Value→H} {P:Program} {w:World} {base:Nat} {spare:Nat→Bool} {held:Bool}
theorem cell_lt {w:World} {a:Addr} {v:Value} (h:w.cell? a=some v):a.block<w.heap.size:=by
 unfold World.cell? at h
 split at h
 ·rename_i hb;exact(Array.getElem?_eq_some_iff.1 hb).1
 ·cases h
end
section
variable {H:Type} {enc:TypeId×Value→H} {w:World} {base:Nat} {spare:Nat→Bool} {held:Bool}
end
end Go.Proofs.YtjmaicckkkdjpaaGreat
/- How a slice of numbers is opened. -/
namespace Go.Proofs.YtjmaicckkkdjpaaGreat
open Go.ChangeShapes Go.WideShapes Go.ChangeAt Go.RowKit Go.Joins Go.Deep
section
variable {H:Type} {enc:TypeId×Value→H} {P:Program} {w:World} {base:Nat} {spare:Nat→Bool} {held:Bool}
theorem open_nums {r:Reach} {b0:Nat} {t e:TypeId} {k:IntKind} {v:Value} {d:DataW H} {p:List MemPlace} (ht:P.underlying t=some (.slice e)) (he:P.underlying e=some (.int k)) (hC:P.cellsOf e=1)
  (hv:Value.okWide P w r b0 t v) (h:DataW.Trod enc P w base spare held t v d p): ∃xs:List Int,IntsAt k w v xs∧xs.length≤9223372036854775807:=by
 obtain⟨ao,n,cap,rfl⟩:=okWide_slice ht hv
 obtain⟨fuel,hf⟩:=h
 rcases Go.ChangeShapes.open_ints ht he hC hf with⟨h1,_⟩ | ⟨a,len,cap',zs,h1,hb,hl,hm,hzl,hx,hcell,hwf⟩
 ·have h2:(Value.slice ao n cap)= .slice none 0 0:=by simpa[Value.cells] using h1
  injection h2 with e1 e2 e3
  subst e1;subst e2;subst e3
  exact⟨[],⟨⟨_,_,rfl,Or.inl rfl⟩,fun x hx=>by cases hx⟩,by simp⟩
 ·have h2:(Value.slice ao n cap)= .slice (some a) len cap':=by simpa[Value.cells] using h1
  injection h2 with e1 e2 e3
  subst e1;subst e2;subst e3
  have hlz:n≤zs.length:=by rw[hzl];split<;>omega
  have hlen:(zs.take n).length=n:=by rw[List.length_take];omega
  refine⟨zs.take n,⟨⟨_,cap,by rw[hlen],?_⟩,fun x hx=>hwf x (List.mem_of_mem_take hx)⟩,by rw[hlen];unfold maxLen at hm;omega⟩
  by_cases hn:n=0
  ·left;rw[hn];rfl
  right
  obtain⟨b,off,spot⟩:=a
  have hx0:=hcell 0 (by omega)
  have hsp:spot=none:=by simpa[Addr.add] using World.cell?_spot hx0
  subst hsp
  have hlt:b<w.heap.size:=by
   have:=cell_lt hx0
   rw[add_plain] at this
   exact this
  refine⟨b,off,rfl,hlt,fun i hi=> ?_⟩
  rw[hlen] at hi
  have:=hcell i (by omega)
  rw[add_plain] at this
  rw[this,List.getElem_take]
  rw[List.getD_eq_getElem?_getD,List.getElem?_eq_getElem (by omega)]
  rfl
end
end Go.Proofs.YtjmaicckkkdjpaaGreat
/- The law GetFinds, walked. -/
namespace Go.Proofs.YtjmaicckkkdjpaaGreat
open Go.RowKit
attribute [local go_sem ↓ high] rsLoadAt rsLoadVar rsStoreAt laLoadAt15
attribute [local go_sem] ldM_run lvM_run stM_run Oper.semAt_some
end Go.Proofs.YtjmaicckkkdjpaaGreat
/- What is laid (law 15), opened. -/
namespace Go.Proofs.YtjmaicckkkdjpaaGreat
open Go.ChangeShapes Go.WideShapes Go.ChangeAt Go.RowKit Go.Joins Go.Deep
section
variable {H:Type} {enc:TypeId×Value→H} {w:World} {base:Nat} {spare:Nat→Bool} {held:Bool}
theorem structLaid: ∃f0 f1 f2 f3:Field,Tryz.prog.underlying 24=some (.struct #[f0,f1,f2,f3])∧f0.type=3∧f1.type=22∧f2.type=3∧f3.type=3:=
 ⟨_,_,_,_,Tryz.underlying24,rfl,rfl,rfl,rfl⟩
theorem oneLaid: ∀{fs},Tryz.prog.underlying 24=some (.struct fs)→oneCellFields Tryz.prog fs=true:=by
 intro fs h
 rw[Tryz.underlying24] at h
 injection h with h
 injection h with h
 subst h
 kernel_rfl
theorem cellsLaid:Tryz.prog.cellsOf 24=4:=by kernel_rfl
theorem open_words_in {fuel:Nat} {v:Value} {y:DataW H×List MemPlace} (h:DataW.trod enc Tryz.prog w base spare held fuel 22 [v]=some y): ∃xs:List Int,NumsAt .u64 w v xs∧(∀z∈xs,U64 z)∧xs.length≤9223372036854775807:=by
 rcases Go.ChangeShapes.open_ints Tryz.underlying22 Tryz.underlying25 (by kernel_rfl) h with⟨h1,_⟩ | ⟨a,len,cap',zs,h1,hb,hl,hm,hzl,hx,hcell,hwf⟩
 ·obtain rfl:v= .slice none 0 0:=by simpa using h1
  exact⟨[],⟨none,0,rfl,Or.inl rfl⟩,fun z hz=>(by cases hz),by simp⟩
 ·obtain rfl:v= .slice (some a) len cap':=by simpa using h1
  have hlz:len≤zs.length:=by rw[hzl];split<;>omega
  have hlen:(zs.take len).length=len:=by rw[List.length_take];omega
  refine⟨zs.take len,⟨some a,cap',by rw[hlen],?_⟩,fun z hz=>bounds_u64 (hwf z (List.mem_of_mem_take hz)),by rw[hlen];unfold maxLen at hm;omega⟩
  by_cases hn:len=0
  ·left;rw[hn];rfl
  right
  obtain⟨b,off,spot⟩:=a
  have hx0:=hcell 0 (by omega)
  have hsp:spot=none:=by simpa[Addr.add] using World.cell?_spot hx0
  subst hsp
  have hlt:b<w.heap.size:=by
   have:=cell_lt hx0
   rw[add_plain] at this
   exact this
  refine⟨b,off,rfl,hlt,fun i z hi=> ?_⟩
  have hi2:=(List.getElem?_eq_some_iff.1 hi).1
  rw[hlen] at hi2
  have h9:=hcell i (by omega)
  rw[add_plain] at h9
  rw[h9]
  rw[List.getElem?_take,if_pos hi2] at hi
  rw[List.getD_eq_getElem?_getD,hi];rfl
theorem open_laid {r:Reach} {b0:Nat} {v:Value} {d:DataW H} {p:List MemPlace} (hv:Value.okWide Tryz.prog w r b0 24 v) (h:DataW.Trod enc Tryz.prog w base spare held 24 v d p):
  ∃(x:La) (kv:Value) (xs:List Int),v= .agg (laC x kv)∧NumsAt .u64 w kv xs∧(∀z∈xs,U64 z)∧xs.length≤9223372036854775807∧I64 x.slabs∧I64 x.per∧I64 x.lag:=by
 obtain⟨f0,f1,f2,f3,hu,t0,t1,t2,t3⟩:=structLaid
 have hone:=oneLaid hu
 obtain⟨v0,v1,v2,v3,y0,y1,y2,y3,n,rfl,_,_,g0,g1,g2,g3⟩:=open_agg4 hu hone cellsLaid hv h
 rw[t0] at g0;rw[t1] at g1;rw[t2] at g2;rw[t3] at g3
 obtain⟨z0,e0,_,w0⟩:=DataW.trod_int Tryz.underlying3 g0
 obtain⟨z2,e2,_,w2⟩:=DataW.trod_int Tryz.underlying3 g2
 obtain⟨z3,e3,_,w3⟩:=DataW.trod_int Tryz.underlying3 g3
 obtain rfl:v0=_:=by simpa using e0
 obtain rfl:v2=_:=by simpa using e2
 obtain rfl:v3=_:=by simpa using e3
 obtain⟨xs,q1,q2,q3⟩:=open_words_in g1
 exact⟨⟨z0,z2,z3⟩,v1,xs,rfl,q1,q2,q3,bounds_i64 w0,bounds_i64 w2,bounds_i64 w3⟩
end
end Go.Proofs.YtjmaicckkkdjpaaGreat
/- How arguments are opened: an array of eight uint64 by value; a struct of two uint64 by value. -/
namespace Go.Proofs.YtjmaicckkkdjpaaGreat
open Go.ChangeShapes Go.WideShapes Go.ChangeAt Go.RowKit Go.Joins
def num1:Option Value→Int | some (Value.int _ z)=>z | _=>0
section
variable {H:Type} {enc:TypeId×Value→H} {P:Program} {w:World} {base:Nat} {spare:Nat→Bool} {held:Bool}
theorem open_u64s {t e:TypeId} {n:Nat} {d:DataW H} {p:List MemPlace} {cs:List Value} (ht:P.underlying t=some (.array n e)) (he:P.underlying e=some (.int .u64)) (hc:P.cellsOf e=1) (hn:P.cellsOf t=n)
  (h: ∃fuel,DataW.trod enc P w base spare held fuel t cs=some (d,p)): ∃zs:List Int,cs=zs.map (Value.int .u64)∧zs.length=n∧ ∀z∈zs,(Lit.int .u64 z).wf=true:=by
 obtain⟨fuel,hf⟩:=h
 obtain⟨xs,m,_,_,hl,hx,hi⟩:=DataW.trod_array ht hf
 rw[hn] at hl
 have hg: ∀i,i<n→ ∃z,cs[i]?=some (.int .u64 z)∧(Lit.int .u64 z).wf=true:=by
  intro i hlt
  have h1:=hi i hlt
  rw[hc,Nat.mul_one,List.getElem?_eq_getElem (by omega)] at h1
  obtain⟨z,e1,_,e3⟩:=DataW.trod_int he h1
  refine⟨z,?_,e3⟩
  have h0:((cs.drop i).take 1)[0]?=some (.int .u64 z):=by rw[e1];rfl
  simpa using h0
 refine⟨(List.range n).map fun i=>num1 cs[i]?,?_,by simp,?_⟩
 ·apply List.ext_getElem?
  intro i
  by_cases hlt:i<n
  ·obtain⟨z,hz,_⟩:=hg i hlt
   simp[hz,hlt,num1]
  ·rw[List.getElem?_eq_none (by omega),List.getElem?_eq_none (by simp;omega)]
 ·intro z hz
  simp only[List.mem_map,List.mem_range] at hz
  obtain⟨i,hlt,rfl⟩:=hz
  obtain⟨z,hz,hw⟩:=hg i hlt
  rw[hz];exact hw
theorem okWide_arr {r:Reach} {b0:Nat} {t e:TypeId} {n:Nat} {v:Value} (ht:P.underlying t=some (.array n e)) (h:Value.okWide P w r b0 t v): ∃cs,v= .agg cs∧cs.size=P.cellsOf t:=by
 simp only[Value.okWide,ht] at h
 obtain⟨cs,h1,h2,_⟩:=h
 exact⟨cs,h1,h2⟩
end
end Go.Proofs.YtjmaicckkkdjpaaGreat
/- GetMany as it is called: an array of three uint64, a slice of ints. -/
namespace Go.Proofs.YtjmaicckkkdjpaaGreat
open Go.ChangeShapes Go.WideShapes Go.ChangeAt Go.RowKit Go.Joins Go.Deep
section
variable {H:Type} {enc:TypeId×Value→H} {P:Program} {w:World} {base:Nat} {spare:Nat→Bool} {held:Bool}
theorem open_arr3 {r:Reach} {b0:Nat} {t e:TypeId} {v:Value} {d:DataW H} {p:List MemPlace} (ht:P.underlying t=some (.array 3 e)) (he:P.underlying e=some (.int .u64)) (hc:P.cellsOf e=1) (hn:P.cellsOf t=3)
  (hv:Value.okWide P w r b0 t v) (hT:DataW.Trod enc P w base spare held t v d p):
  ∃a b c:Int,v= .agg #[.int .u64 a,.int .u64 b,.int .u64 c]∧(Lit.int .u64 a).wf=true∧(Lit.int .u64 b).wf=true∧(Lit.int .u64 c).wf=true:=by
 obtain⟨cs,rfl,hsz⟩:=okWide_arr ht hv
 obtain⟨zs,h1,h2,h3⟩:=open_u64s ht he hc hn (by obtain⟨fuel,hf⟩:=hT;exact⟨fuel,by simpa[Value.cells] using hf⟩)
 match zs,h2 with
 | [a,b,c],_=>
  have hcs:cs= #[.int .u64 a,.int .u64 b,.int .u64 c]:=by cases cs;simpa using h1
  subst hcs
  exact⟨a,b,c,rfl,h3 a (by simp),h3 b (by simp),h3 c (by simp)⟩
end
theorem open_intsI {H:Type} {enc:TypeId×Value→H} {w:World} {base:Nat} {spare:Nat→Bool} {held:Bool} {r:Reach} {b0:Nat} {v:Value} {d:DataW H} {p:List MemPlace} (hv:Value.okWide Tryz.prog w r b0 54 v) (h:DataW.Trod enc Tryz.prog w base spare held 54 v d p):
  ∃xs:List Int,IntsAt .i64 w v xs∧xs.length≤9223372036854775807:=open_nums Tryz.underlying54 Tryz.underlying3 (by kernel_rfl) hv h
theorem GetMany_l (x:La) (kv:Value) (xs:List Int) (a b c:Int) (v2:Value) (ord:List Int) (w:World) (hn:NumsAt .u64 w kv xs) (hu: ∀z∈xs,U64 z) (hl:xs.length≤9223372036854775807) (h1:I64 x.slabs) (h2:I64 x.per) (h3:I64 x.lag) (a0:0≤a) (a1:a≤18446744073709551615) (b0:0≤b) (b1:b≤18446744073709551615) (c0:0≤c) (c1:c≤18446744073709551615) (hc:IntsAt .i64 w v2 ord) (hm:ord.length≤9223372036854775807):
  Calls Tryz.prog 4 #[.agg (laC x kv),.agg #[.int .u64 a,.int .u64 b,.int .u64 c],v2] w fun e w'=>e= .returned (.bool true)∧Below w.heap.size w w':=
 GetMany_z x kv v2 xs ord a b c hu hl hm ⟨h1,h2,h3⟩ (fun i=>by unfold q3;split;exact⟨a0,a1⟩;split;exact⟨b0,b1⟩;exact⟨c0,c1⟩) w hn hc.nums
end Go.Proofs.YtjmaicckkkdjpaaGreat
