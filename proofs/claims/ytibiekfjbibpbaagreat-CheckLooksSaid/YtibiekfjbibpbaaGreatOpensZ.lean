/- How a slice of spoils is opened; what is laid, opened. -/
import Derived.Test.YtibiekfjbibpbaaGreatOpensR
import Derived.Test.YtibiekfjbibpbaaGreatLawCl
set_option maxRecDepth 100000
set_option linter.unusedVariables false
set_option linter.unusedSimpArgs false
namespace Go.Proofs.YtibiekfjbibpbaaGreat
open Go.ChangeShapes Go.WideShapes Go.ChangeAt Go.RowKit Go.Joins Go.Deep
section
variable {H:Type} {enc:TypeId×Value→H} {w:World} {base:Nat} {spare:Nat→Bool} {held:Bool}
theorem oneSpoil: ∀{fs},Tryz.prog.underlying 133=some (.struct fs)→oneCellFields Tryz.prog fs=true∧fs.size=6∧(fs[0]?.map (·.type))=some 3∧(fs[1]?.map (·.type))=some 3∧(fs[2]?.map (·.type))=some 3∧(fs[3]?.map (·.type))=some 3∧(fs[4]?.map (·.type))=some 3∧(fs[5]?.map (·.type))=some 46:=by
 intro fs h
 rw[Tryz.underlying133] at h
 injection h with h
 injection h with h
 subst h
 refine⟨by kernel_rfl,rfl,rfl,rfl,rfl,rfl,rfl,rfl⟩
theorem cellsSpoil:Tryz.prog.cellsOf 133=6:=by kernel_rfl
theorem open_spoils {r:Reach} {b0:Nat} {v:Value} {d:DataW H} {p:List MemPlace} (hv:Value.okWide Tryz.prog w r b0 25 v) (h:DataW.Trod enc Tryz.prog w base spare held 25 v d p):
  ∃l:List Sp,SpsAt w v l∧(∀s∈l,SpOK s)∧l.length≤9223372036854775807:=by
 obtain⟨fs,hfs⟩: ∃fs,Tryz.prog.underlying 133=some (.struct fs):=⟨_,Tryz.underlying133⟩
 obtain⟨hone,hsz,t0,t1,t2,t3,t4,t5⟩:=oneSpoil hfs
 have hC:Tryz.prog.cellsOf 133=fs.size:=by rw[hsz];exact cellsSpoil
 have h0:0<fs.size:=by omega
 obtain⟨ao,n,cap,rfl,hn,hc⟩:=open_rows Tryz.underlying25 hfs hone hC h0 hv h
 rcases hc with⟨rfl,hnil⟩ | ⟨b,off,rfl,hb,hc⟩
 ·exact⟨[],⟨ao,cap,rfl,Or.inl rfl⟩,fun x hx=>(by cases hx),by simp⟩
 rw[hsz] at hc
 have hf: ∀j,j<6→ ∃f,fs[j]?=some f:=fun j hj=>⟨fs[j]'(by omega),Array.getElem?_eq_getElem (by omega)⟩
 have ints: ∀i,i<n→ ∀(j:Nat),j<5→ ∃z:Int,I64 z∧w.cell? ⟨b,off+i*6+j,none⟩=some (.int .i64 z):=by
  intro i hi j hj
  obtain⟨f,hfj⟩:=hf j (by omega)
  obtain⟨x,y,m,h1,h2⟩:=hc i hi j f hfj
  have ht:f.type=3:=by
   have:j=0∨j=1∨j=2∨j=3∨j=4:=by omega
   rcases this with rfl | rfl | rfl | rfl | rfl
   ·rw[hfj] at t0;simpa using t0
   ·rw[hfj] at t1;simpa using t1
   ·rw[hfj] at t2;simpa using t2
   ·rw[hfj] at t3;simpa using t3
   ·rw[hfj] at t4;simpa using t4
  rw[ht] at h2
  obtain⟨z,e1,_,wz⟩:=DataW.trod_int Tryz.underlying3 h2
  obtain⟨z0,z1⟩:=bounds_i64 wz
  obtain rfl:x= .int .i64 z:=by simpa using e1
  exact⟨z,⟨z0,z1⟩,h1⟩
 have wrd: ∀i,i<n→ ∃z:Int,U64 z∧w.cell? ⟨b,off+i*6+5,none⟩=some (.int .u64 z):=by
  intro i hi
  obtain⟨f,hfj⟩:=hf 5 (by omega)
  obtain⟨x,y,m,h1,h2⟩:=hc i hi 5 f hfj
  have ht:f.type=46:=by rw[hfj] at t5;simpa using t5
  rw[ht] at h2
  obtain⟨z,e1,_,wz⟩:=DataW.trod_int Tryz.underlying46 h2
  obtain⟨z0,z1⟩:=bounds_u64 wz
  obtain rfl:x= .int .u64 z:=by simpa using e1
  exact⟨z,⟨z0,z1⟩,h1⟩
 let gg:Nat→Sp:=fun i=>⟨gInt (w.cell? ⟨b,off+i*6+0,none⟩),gInt (w.cell? ⟨b,off+i*6+1,none⟩),gInt (w.cell? ⟨b,off+i*6+2,none⟩),gInt (w.cell? ⟨b,off+i*6+3,none⟩),gInt (w.cell? ⟨b,off+i*6+4,none⟩),gInt (w.cell? ⟨b,off+i*6+5,none⟩)⟩
 have hg: ∀i,i<n→SpOK (gg i)∧w.rangeAt b (off+i*6) (spC (gg i)).toList:=by
  intro i hi
  obtain⟨z0,a0,b0'⟩:=ints i hi 0 (by omega)
  obtain⟨z1,a1,b1⟩:=ints i hi 1 (by omega)
  obtain⟨z2,a2,b2⟩:=ints i hi 2 (by omega)
  obtain⟨z3,a3,b3⟩:=ints i hi 3 (by omega)
  obtain⟨z4,a4,b4⟩:=ints i hi 4 (by omega)
  obtain⟨z5,a5,b5⟩:=wrd i hi
  have e:gg i=⟨z0,z1,z2,z3,z4,z5⟩:=by
   show(⟨gInt _,gInt _,gInt _,gInt _,gInt _,gInt _⟩:Sp)=_
   rw[b0',b1,b2,b3,b4,b5]
  rw[e]
  refine⟨⟨a0,a1,a2,a3,a4,a5⟩,fun j v hj=> ?_⟩
  have hj6:j<6:=(List.getElem?_eq_some_iff.1 hj).1
  rcases(by omega:j=0∨j=1∨j=2∨j=3∨j=4∨j=5) with rfl | rfl | rfl | rfl | rfl | rfl
  ·rw[b0'];exact hj
  ·rw[b1];exact hj
  ·rw[b2];exact hj
  ·rw[b3];exact hj
  ·rw[b4];exact hj
  ·rw[b5];exact hj
 refine⟨(List.range n).map gg,⟨some ⟨b,off,none⟩,cap,by simp,Or.inr ⟨b,off,rfl,hb,fun i s hi=> ?_⟩⟩,fun s hs=> ?_,by simpa[maxLen] using hn⟩
 ·rw[List.getElem?_map] at hi
  obtain⟨k,hk,rfl⟩:=Option.map_eq_some_iff.1 hi
  have hk2:=List.getElem?_eq_some_iff.1 hk
  have:k=i:=by have h9:=hk2.2;simp at h9;omega
  subst this
  exact(hg k (by have:=hk2.1;simpa using this)).2
 ·obtain⟨i,hi,rfl⟩:=List.mem_map.1 hs
  exact(hg i (List.mem_range.1 hi)).1
theorem structLaid: ∃f0 f1 f2 f3:Field,Tryz.prog.underlying 24=some (.struct #[f0,f1,f2,f3])∧f0.type=3∧f1.type=22∧f2.type=3∧f3.type=3:=
 ⟨_,_,_,_,Tryz.underlying24,rfl,rfl,rfl,rfl⟩
theorem oneLaid: ∀{fs},Tryz.prog.underlying 24=some (.struct fs)→oneCellFields Tryz.prog fs=true:=by
 intro fs h
 rw[Tryz.underlying24] at h
 injection h with h
 injection h with h
 subst h
 kernel_rfl
theorem cellsLaid:Tryz.prog.cellsOf 24=4:=by kernel_rfl
theorem open_words_in {fuel:Nat} {v:Value} {y:DataW H×List MemPlace} (h:DataW.trod enc Tryz.prog w base spare held fuel 22 [v]=some y): ∃xs:List Int,NumsAt .u64 w v xs∧(∀z∈xs,U64 z)∧xs.length≤9223372036854775807:=by
 rcases Go.ChangeShapes.open_ints Tryz.underlying22 Tryz.underlying46 (by kernel_rfl) h with⟨h1,_⟩ | ⟨a,len,cap',zs,h1,hb,hl,hm,hzl,hx,hcell,hwf⟩
 ·obtain rfl:v= .slice none 0 0:=by simpa using h1
  exact⟨[],⟨none,0,rfl,Or.inl rfl⟩,fun z hz=>(by cases hz),by simp⟩
 ·obtain rfl:v= .slice (some a) len cap':=by simpa using h1
  have hlz:len≤zs.length:=by rw[hzl];split<;>omega
  have hlen:(zs.take len).length=len:=by rw[List.length_take];omega
  refine⟨zs.take len,⟨some a,cap',by rw[hlen],?_⟩,fun z hz=>bounds_u64 (hwf z (List.mem_of_mem_take hz)),by rw[hlen];unfold maxLen at hm;omega⟩
  by_cases hn:len=0
  ·left;rw[hn];rfl
  right
  obtain⟨b,off,spot⟩:=a
  have hx0:=hcell 0 (by omega)
  have hsp:spot=none:=by simpa[Addr.add] using World.cell?_spot hx0
  subst hsp
  have hlt:b<w.heap.size:=by
   have:=cell_lt hx0
   rw[add_plain] at this
   exact this
  refine⟨b,off,rfl,hlt,fun i z hi=> ?_⟩
  have hi2:=(List.getElem?_eq_some_iff.1 hi).1
  rw[hlen] at hi2
  have h9:=hcell i (by omega)
  rw[add_plain] at h9
  rw[h9]
  rw[List.getElem?_take,if_pos hi2] at hi
  rw[List.getD_eq_getElem?_getD,hi];rfl
theorem open_laid {r:Reach} {b0:Nat} {v:Value} {d:DataW H} {p:List MemPlace} (hv:Value.okWide Tryz.prog w r b0 24 v) (h:DataW.Trod enc Tryz.prog w base spare held 24 v d p):
  ∃(x:La) (kv:Value) (xs:List Int),v= .agg (laC x kv)∧NumsAt .u64 w kv xs∧(∀z∈xs,U64 z)∧xs.length≤9223372036854775807∧I64 x.slabs∧I64 x.per∧I64 x.lag:=by
 obtain⟨f0,f1,f2,f3,hu,t0,t1,t2,t3⟩:=structLaid
 have hone:=oneLaid hu
 obtain⟨v0,v1,v2,v3,y0,y1,y2,y3,n,rfl,_,_,g0,g1,g2,g3⟩:=open_agg4 hu hone cellsLaid hv h
 rw[t0] at g0;rw[t1] at g1;rw[t2] at g2;rw[t3] at g3
 obtain⟨z0,e0,_,w0⟩:=DataW.trod_int Tryz.underlying3 g0
 obtain⟨z2,e2,_,w2⟩:=DataW.trod_int Tryz.underlying3 g2
 obtain⟨z3,e3,_,w3⟩:=DataW.trod_int Tryz.underlying3 g3
 obtain rfl:v0=_:=by simpa using e0
 obtain rfl:v2=_:=by simpa using e2
 obtain rfl:v3=_:=by simpa using e3
 obtain⟨xs,q1,q2,q3⟩:=open_words_in g1
 exact⟨⟨z0,z2,z3⟩,v1,xs,rfl,q1,q2,q3,bounds_i64 w0,bounds_i64 w2,bounds_i64 w3⟩
end
theorem CheckLooks_l (x:La) (kv:Value) (xs:List Int) (v1:Value) (l:List Sp) (w:World) (hn:NumsAt .u64 w kv xs) (hu: ∀z∈xs,U64 z) (hl:xs.length≤9223372036854775807) (h1:I64 x.slabs) (h2:I64 x.per) (h3:I64 x.lag) (hc:SpsAt w v1 l) (hs: ∀s∈l,SpOK s) (hm:l.length≤9223372036854775807):
  Calls Tryz.prog 3 #[.agg (laC x kv),v1] w fun e w'=>e= .returned (.bool true)∧Below w.heap.size w w':=CheckLooks_z x kv v1 xs l hu hs hl hm ⟨h1,h2,h3⟩ w hn hc
end Go.Proofs.YtibiekfjbibpbaaGreat
