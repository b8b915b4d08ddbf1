/- How what is laid is opened. -/
import Derived.Test.YtibiekfjbibpbaaGreatLawSo
import Derived.Below
import Derived.ChangeOld
import Derived.ChangeSame
import Derived.Deep.Fields
import Derived.Deep.Slices
import Derived.Lib.SmallJoins
import Derived.OpenShut
import Derived.ProofKit
import Derived.SizedLaws
set_option maxRecDepth 100000
set_option linter.unusedVariables false
set_option linter.unusedSimpArgs false
namespace Go.Proofs.YtibiekfjbibpbaaGreat
section
open Go.ChangeShapes Go.WideShapes Go.ChangeAt Go.RowKit Go.Joins Go.Deep
section
variable {H:Type} {enc:TypeId×Value→H} {P:Program} {w:World} {base:Nat} {spare:Nat→Bool} {held:Bool}
theorem x7c {w:World} {a:Addr} {v:Value} (h:w.cell? a=some v):a.block<w.heap.size:=by
 unfold World.cell? at h
 split at h
 ·rename_i hb;exact(Array.getElem?_eq_some_iff.1 hb).1
 ·cases h
theorem open_rows {r:Reach} {b0:Nat} {t e:TypeId} {fs:Array Field} {v:Value} {d:DataW H} {p:List MemPlace} (ht:P.underlying t=some (.slice e)) (he:P.underlying e=some (.struct fs)) (hone:oneCellFields P fs=true) (hC:P.cellsOf e=fs.size) (h0:0<fs.size)
  (hv:Value.okWide P w r b0 t v) (h:DataW.Trod enc P w base spare held t v d p):
  ∃(ao:Option Addr) (n cap:Nat),v= .slice ao n cap∧n≤maxLen∧((n=0∧(ao=none→cap=0))∨ ∃b off,ao=some ⟨b,off,none⟩∧b<w.heap.size∧
   ∀i,i<n→ ∀(j:Nat) (f:Field),fs[j]?=some f→ ∃(x:Value) (y:DataW H×List MemPlace) (m:Nat),w.cell? ⟨b,off+i*fs.size+j,none⟩=some x∧DataW.trod enc P w base spare held m f.type [x]=some y):=by
 obtain⟨ao,n,cap,rfl⟩:=okWide_slice ht hv
 obtain⟨fuel,hf⟩:=h
 rcases open_slice ht hf with⟨h1,_⟩ | ⟨a,len,cap',m,n',D,Pl,h1,hb,hl,hm,hmm,_,hx⟩
 ·have h2:(Value.slice ao n cap)= .slice none 0 0:=by simpa[Value.cells] using h1
  injection h2 with e1 e2 e3
  subst e1;subst e2;subst e3
  exact⟨_,_,_,rfl,by unfold maxLen;omega,Or.inl ⟨rfl,fun _=>rfl⟩⟩
 ·have h2:(Value.slice ao n cap)= .slice (some a) len cap':=by simpa[Value.cells] using h1
  injection h2 with e1 e2 e3
  subst e1;subst e2;subst e3
  refine⟨_,_,_,rfl,Nat.le_trans hl hm,?_⟩
  by_cases hn:n=0
  ·exact Or.inl ⟨hn,fun h=>by cases h⟩
  have hlm:n≤m:=by rw[hmm];split<;>omega
  have each: ∀i,i<n→ ∀(j:Nat) (f:Field),fs[j]?=some f→ ∃(x:Value) (y:DataW H×List MemPlace) (m:Nat),w.cell? (a.add (i*fs.size+j))=some x∧DataW.trod enc P w base spare held m f.type [x]=some y:=by
   intro i hi j f hj
   obtain⟨cs',hc,ht'⟩:=hx i (by omega)
   rw[hC] at hc
   obtain⟨xs,k,_,_,hlen,hyl,hfx⟩:=DataW.trod_struct he ht'
   obtain⟨_,hcl,hat⟩:=World.cells?_some hc
   obtain⟨ho,hk⟩:=hone_of hone j f hj
   have hjl:j<fs.size:=(Array.getElem?_eq_some_iff.1 hj).1
   have hcell:=hat j hjl
   rw[add_add] at hcell
   have h3:=hfx j f hj
   rw[ho,hk] at h3
   have hone':(cs'.drop j).take 1=[cs'[j]'(by omega)]:=by
    rw[List.drop_eq_getElem_cons (by omega)];rfl
   rw[hone'] at h3
   have hys:xs[j]?=some (xs[j]'(by omega)):=List.getElem?_eq_getElem (by omega)
   exact⟨cs'[j]'(by omega),_,_,hcell.trans (List.getElem?_eq_getElem (by omega)),h3.trans hys⟩
  obtain⟨x,_,_,hx0,_⟩:=each 0 (by omega) 0 fs[0] (Array.getElem?_eq_getElem h0)
  obtain⟨b,off,spot⟩:=a
  have hsp:spot=none:=by simpa[Addr.add] using World.cell?_spot hx0
  subst hsp
  have hlt:b<w.heap.size:=by
   have:=x7c hx0
   rw[add_plain] at this
   exact this
  refine Or.inr ⟨b,off,rfl,hlt,fun i hi j f hj=> ?_⟩
  obtain⟨x,y,k,h1,h2⟩:=each i hi j f hj
  rw[add_plain,←Nat.add_assoc] at h1
  exact⟨x,y,k,h1,h2⟩
theorem slice_datum {t e:TypeId} {ao:Option Addr} {n cap:Nat} {d:DataW H} {p:List MemPlace} (ht:P.underlying t=some (.slice e)) (h:DataW.Trod enc P w base spare held t (.slice ao n cap) d p):n=0∨ ∃el sp,d= .slice el sp∧el.length=n:=by
 obtain⟨fuel,hf⟩:=h
 rcases open_slice ht hf with⟨h1,_⟩ | ⟨a,len,cap',m,n',D,Pl,h1,hb,hl,hm,hmm,hx,_⟩
 ·have h2:(Value.slice ao n cap)= .slice none 0 0:=by simpa[Value.cells] using h1
  injection h2 with e1 e2 e3
  exact Or.inl e2
 ·have h2:(Value.slice ao n cap)= .slice (some a) len cap':=by simpa[Value.cells] using h1
  injection h2 with e1 e2 e3
  injection hx with hx1 hx2
  exact Or.inr ⟨_,_,hx1,by simp[e2]⟩
theorem calls_sized {t e:TypeId} {ts:List TypeId} {ds:List (DataW H)} {j k n:Nat} {v:Value} {d:DataW H} {p:List MemPlace} {ao:Option Addr} {cap:Nat} (hsz:(DataW.weightsEach P ts ds).all (· ≤reachBytes)=true) (ht:ts[j]?=some t) (hd:ds[j]?=some d) (hu:P.underlying t=some (.slice e)) (hb:P.bytesOf e=k)
  (hv:v= .slice ao n cap) (h:DataW.Trod enc P w base spare held t v d p):n*k≤140737488351232:=by
 subst hv
 rcases slice_datum hu h with h0 | ⟨el,sp,rfl,hl⟩
 ·rw[h0];simp
 ·have:=sized_slice hsz ht hd hu
  rw[hb,hl] at this
  have h2:reachBytes=140737488351232:=by decide
  rw[h2,Nat.add_mul] at this
  omega
theorem open_string' {r:Reach} {b0:Nat} {t:TypeId} {v:Value} {d:DataW H} {p:List MemPlace} (ht:P.underlying t=some .string) (hv:Value.okWide P w r b0 t v) (h:DataW.Trod enc P w base spare held t v d p): ∃s:ByteArray,v= .string s∧s.size≤9223372036854775807:=by
 obtain⟨s,rfl⟩:=okWide_string ht hv
 obtain⟨fuel,hf⟩:=h
 obtain⟨s',h1,_,h2⟩:=DataW.trod_string ht hf
 have:s=s':=by simpa[Value.cells] using h1
 subst this
 exact⟨s,rfl,by unfold maxLen at h2;omega⟩
theorem open_agg5 {r:Reach} {b0:Nat} {t:TypeId} {f0 f1 f2 f3 f4:Field} {v:Value} {d:DataW H} {p:List MemPlace} (hs:P.underlying t=some (.struct #[f0,f1,f2,f3,f4])) (hone:oneCellFields P #[f0,f1,f2,f3,f4]=true) (hC:P.cellsOf t=5)
  (hv:Value.okWide P w r b0 t v) (h:DataW.Trod enc P w base spare held t v d p):
  ∃(v0 v1 v2 v3 v4:Value) (y0 y1 y2 y3 y4:DataW H×List MemPlace) (n:Nat),v= .agg #[v0,v1,v2,v3,v4]∧
   DataW.trod enc P w base spare held n f0.type [v0]=some y0∧DataW.trod enc P w base spare held n f1.type [v1]=some y1∧DataW.trod enc P w base spare held n f2.type [v2]=some y2∧DataW.trod enc P w base spare held n f3.type [v3]=some y3∧DataW.trod enc P w base spare held n f4.type [v4]=some y4:=by
 obtain⟨cs,rfl,hsz⟩:=okWide_struct hs hv
 obtain⟨l⟩:=cs
 match l,hsz.trans hC with
 | [c0,c1,c2,c3,c4],_=>
  obtain⟨fuel,hf⟩:=h
  obtain⟨xs,n,_,_,_,hlen,hg⟩:=DataW.trod_struct hs hf
  obtain⟨o0,k0⟩:=hone_of hone 0 f0 rfl
  obtain⟨o1,k1⟩:=hone_of hone 1 f1 rfl
  obtain⟨o2,k2⟩:=hone_of hone 2 f2 rfl
  obtain⟨o3,k3⟩:=hone_of hone 3 f3 rfl
  obtain⟨o4,k4⟩:=hone_of hone 4 f4 rfl
  match xs,hlen with
  | [y0,y1,y2,y3,y4],_=>
   exact⟨c0,c1,c2,c3,c4,y0,y1,y2,y3,y4,n,rfl,by simpa[Value.cells,o0,k0] using hg 0 f0 rfl,by simpa[Value.cells,o1,k1] using hg 1 f1 rfl,by simpa[Value.cells,o2,k2] using hg 2 f2 rfl,by simpa[Value.cells,o3,k3] using hg 3 f3 rfl,by simpa[Value.cells,o4,k4] using hg 4 f4 rfl⟩
end
section
variable {H:Type} {enc:TypeId×Value→H} {w:World} {base:Nat} {spare:Nat→Bool} {held:Bool}
abbrev gInt:Option Value→Int | some (.int _ z)=>z | _=>0
abbrev gStr:Option Value→ByteArray | some (.string s)=>s | _=>⟨#[]⟩
end
end
section
open Go.ChangeShapes Go.WideShapes Go.ChangeAt Go.RowKit Go.Joins Go.Deep
section
variable {H:Type} {enc:TypeId×Value→H} {w:World} {base:Nat} {spare:Nat→Bool} {held:Bool}
theorem structLaid: ∃f0 f1 f2 f3:Field,Tryz.prog.underlying 24=some (.struct #[f0,f1,f2,f3])∧f0.type=3∧f1.type=22∧f2.type=3∧f3.type=3:=
 ⟨_,_,_,_,Tryz.underlying24,rfl,rfl,rfl,rfl⟩
theorem oneLaid: ∀{fs},Tryz.prog.underlying 24=some (.struct fs)→oneCellFields Tryz.prog fs=true:=by
 intro fs h
 rw[Tryz.underlying24] at h
 injection h with h
 injection h with h
 subst h
 kernel_rfl
theorem cellsLaid:Tryz.prog.cellsOf 24=4:=by kernel_rfl
theorem open_words_in {fuel:Nat} {v:Value} {y:DataW H×List MemPlace} (h:DataW.trod enc Tryz.prog w base spare held fuel 22 [v]=some y): ∃xs:List Int,q1w .u64 w v xs∧(∀z∈xs,U64 z)∧xs.length≤9223372036854775807:=by
 rcases Go.ChangeShapes.open_ints Tryz.underlying22 Tryz.underlying46 (by kernel_rfl) h with⟨h1,_⟩ | ⟨a,len,cap',zs,h1,hb,hl,hm,hzl,hx,hcell,hwf⟩
 ·obtain rfl:v= .slice none 0 0:=by simpa using h1
  exact⟨[],⟨none,0,rfl,Or.inl rfl⟩,fun z hz=>(by cases hz),by simp⟩
 ·obtain rfl:v= .slice (some a) len cap':=by simpa using h1
  have hlz:len≤zs.length:=by rw[hzl];split<;>omega
  have hlen:(zs.take len).length=len:=by rw[List.length_take];omega
  refine⟨zs.take len,⟨some a,cap',by rw[hlen],?_⟩,fun z hz=>bounds_u64 (hwf z (List.mem_of_mem_take hz)),by rw[hlen];unfold maxLen at hm;omega⟩
  by_cases hn:len=0
  ·left;rw[hn];rfl
  right
  obtain⟨b,off,spot⟩:=a
  have hx0:=hcell 0 (by omega)
  have hsp:spot=none:=by simpa[Addr.add] using World.cell?_spot hx0
  subst hsp
  have hlt:b<w.heap.size:=by
   have:=x7c hx0
   rw[add_plain] at this
   exact this
  refine⟨b,off,rfl,hlt,fun i z hi=> ?_⟩
  have hi2:=(List.getElem?_eq_some_iff.1 hi).1
  rw[hlen] at hi2
  have h9:=hcell i (by omega)
  rw[add_plain] at h9
  rw[h9]
  rw[List.getElem?_take,if_pos hi2] at hi
  rw[List.getD_eq_getElem?_getD,hi];rfl
theorem open_laid {r:Reach} {b0:Nat} {v:Value} {d:DataW H} {p:List MemPlace} (hv:Value.okWide Tryz.prog w r b0 24 v) (h:DataW.Trod enc Tryz.prog w base spare held 24 v d p):
  ∃(x:La) (kv:Value) (xs:List Int),v= .agg (laC x kv)∧q1w .u64 w kv xs∧(∀z∈xs,U64 z)∧xs.length≤9223372036854775807∧I64 x.slabs∧I64 x.per∧I64 x.lag:=by
 obtain⟨f0,f1,f2,f3,hu,t0,t1,t2,t3⟩:=structLaid
 have hone:=oneLaid hu
 obtain⟨v0,v1,v2,v3,y0,y1,y2,y3,n,rfl,_,_,g0,g1,g2,g3⟩:=open_agg4 hu hone cellsLaid hv h
 rw[t0] at g0;rw[t1] at g1;rw[t2] at g2;rw[t3] at g3
 obtain⟨z0,e0,_,w0⟩:=DataW.trod_int Tryz.underlying3 g0
 obtain⟨z2,e2,_,w2⟩:=DataW.trod_int Tryz.underlying3 g2
 obtain⟨z3,e3,_,w3⟩:=DataW.trod_int Tryz.underlying3 g3
 obtain rfl:v0=_:=by simpa using e0
 obtain rfl:v2=_:=by simpa using e2
 obtain rfl:v3=_:=by simpa using e3
 obtain⟨xs,q1,q2,q3⟩:=open_words_in g1
 exact⟨⟨z0,z2,z3⟩,v1,xs,rfl,q1,q2,q3,bounds_i64 w0,bounds_i64 w2,bounds_i64 w3⟩
end
theorem CheckSound_l (x:La) (kv:Value) (xs:List Int) (w:World) (hn:q1w .u64 w kv xs) (hu: ∀z∈xs,U64 z) (hl:xs.length≤9223372036854775807) (h1:I64 x.slabs) (h2:I64 x.per) (h3:I64 x.lag):
  Calls Tryz.prog 4 #[.agg (laC x kv)] w fun e w'=>e= .returned (.bool true)∧Below w.heap.size w w':=CheckSound_z x kv xs hu hl ⟨h1,h2,h3⟩ w hn
end
end Go.Proofs.YtibiekfjbibpbaaGreat
