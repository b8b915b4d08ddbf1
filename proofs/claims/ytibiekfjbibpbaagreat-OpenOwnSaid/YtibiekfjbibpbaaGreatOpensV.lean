import Derived.Test.YtibiekfjbibpbaaGreatLawOb
import Derived.Test.YtibiekfjbibpbaaGreatArnY
import Derived.Lib.SmallJoins
set_option maxRecDepth 100000
set_option maxHeartbeats 1000000
set_option linter.unusedVariables false
set_option linter.unusedSimpArgs false
namespace Go.Proofs.YtibiekfjbibpbaaGreat
open Go.RowKit
theorem ImA.arg {W:World} {N g b n:Nat} {bs:List Int} (h:ImA W N g b n bs):z0v W (.slice (some ⟨b,0,none⟩) n n) bs:=by have hl:=h.ln;have hb:=h.big;rw[show(n:Nat)=bs.length from hl];exact⟨h.byt,Or.inr ⟨_,bs.length,rfl,AG _,by unfold maxLen;omega,Or.inr ⟨b,0,rfl,h.by'.lt,fun i x hi=>by rw[AQ];exact(h.by'.cell i).trans (z2r hi)⟩⟩⟩
theorem v8r (a:Option Addr) (n c:Nat) (w:World):(binOp .eql 36 (.slice a n c) (.slice none 0 0)).run Tryz.prog w= .ok (.bool a.isNone) w:=by simp[binOp,run_equal_slice_nil w 36 5 a n c Tryz.underlying36]
attribute [local go_sem] v8r
theorem x0j (x:La) (kv I:Value) (xs:List Int) (l:List (Int×Int)) (h6:∀y∈xs,U64 y) (h1:∀s∈l,ByOK s) (h3:xs.length<=9223372036854775807) (h5:l.length<=9223372036854775807) (hx:I64 x.slabs/\I64 x.per/\I64 x.lag) (w:World) (hK:q1w .u64 w kv xs) (hS:z5l w I l):
  Calls Tryz.prog 9 #[.agg (laC5 x kv I)] w fun e w'=>e= .returned (.bool true)/\Below w.heap.size w w':=by
 obtain⟨W1,M⟩:∃W1,W1=w.alloc (.cells (laC5 x kv I) 83):=⟨_,rfl⟩;have O:Below w.heap.size w W1:=by rw[M];exact ba (Below.refl _ _) _
 have k1:Blk W1 w.heap.size 83 (laC5 x kv I):=by rw[M];exact Blk.new _ _ _
 have c0:W1.cell? ⟨w.heap.size,0,none⟩=some (.int .i64 x.slabs):=k1.cell 0;have c1:W1.cell? ⟨w.heap.size,1,none⟩=some kv:=k1.cell 1;have c2:W1.cell? ⟨w.heap.size,2,none⟩=some (.int .i64 x.per):=k1.cell 2;have c3:W1.cell? ⟨w.heap.size,3,none⟩=some (.int .i64 x.lag):=k1.cell 3;have c4:W1.cell? ⟨w.heap.size,4,none⟩=some I:=k1.cell 4;have AZ:=hid (x5h x kv I xs l h6 h1 h3 h5 hx W1 (hK.bel O) (hS.bel O));have h7:=hid M;have h9:=hid O;clear M O k1 h6 h1 h3 h5 hx hK hS;go_enter Tryz.func9,Tryz.ntmps9;go_upto_region 1 with fail;rw[show _=W1 from h7.out.symm];go_wp2_with fail;refine AZ.out.mono ?_;rintro e W2 ⟨h4,h2⟩;have U:=hid (bx h9.out h4);clear h4 c0 c1 c2 c3 c4;rcases h2 with rfl|⟨g,b,n,bs,rfl,hI,hN⟩;·go_wp2_with fail;refine(z8n _).mono ?_;rintro e w3 ⟨rfl,L⟩;have S:=hid (bx U.out L);clear L;go_wp2;go_ret;exact⟨rfl,S.out⟩
 ·have OZ:=hid (v6h _ bs W2 hI.arg (by have:=hI.big;have:=hI.ln;omega));clear hI hN;go_wp2_with fail;refine OZ.out.mono ?_;rintro e w3 ⟨rfl,L⟩;have S:=hid (bx U.out L);clear L;go_wp2_with fail;refine(z8n _).mono ?_;rintro e w4 ⟨rfl,Y⟩;have h8:=hid (bx S.out Y);clear Y;go_wp2;go_ret;exact⟨rfl,h8.out⟩
end Go.Proofs.YtibiekfjbibpbaaGreat
namespace Go.Proofs.YtibiekfjbibpbaaGreat
open Go.ChangeShapes Go.WideShapes Go.ChangeAt Go.RowKit Go.Joins Go.Deep
section
variable {H:Type} {enc:TypeId×Value->H} {P:Program} {w:World} {base:Nat} {spare:Nat->Bool} {held:Bool}
theorem x7c {w:World} {a:Addr} {v:Value} (h:w.cell? a=some v):a.block<w.heap.size:=by
 unfold World.cell? at h;split at h;·rename_i hb;exact(AA.1 hb).1
 ·cases h
end
section
variable {H:Type} {enc:TypeId×Value->H} {w:World} {base:Nat} {spare:Nat->Bool} {held:Bool}
end
end Go.Proofs.YtibiekfjbibpbaaGreat
namespace Go.Proofs.YtibiekfjbibpbaaGreat
open Go.ChangeShapes Go.WideShapes Go.ChangeAt Go.RowKit Go.Joins Go.Deep
section
variable {H:Type} {enc:TypeId×Value->H} {P:Program} {w:World} {base:Nat} {spare:Nat->Bool} {held:Bool}
theorem z8f {t e:TypeId} {fs:Array Field} {v:Value} {fuel:Nat} {y:DataW H×List MemPlace} (ht:P.underlying t=some (.slice e)) (he:P.underlying e=some (.struct fs)) (S:oneCellFields P fs=true) (hC:P.cellsOf e=fs.size) (h0:0<fs.size)
  (hf:DataW.trod enc P w base spare held fuel t [v]=some y):
  ∃(ao:Option Addr) (n cap:Nat),v= .slice ao n cap/\n<=maxLen/\(n=0\/ ∃b off,ao=some ⟨b,off,none⟩/\b<w.heap.size/\
   ∀i,i<n-> ∀(j:Nat) (f:Field),fs[j]?=some f-> ∃(x:Value) (y:DataW H×List MemPlace) (m:Nat),w.cell? ⟨b,off+i*fs.size+j,none⟩=some x/\DataW.trod enc P w base spare held m f.type [x]=some y):=by
 rcases open_slice ht hf with⟨h1,_⟩|⟨a,n,M,m,n',D,Pl,h1,hb,hl,hm,ha,_,hx⟩
 ·obtain rfl:v= .slice none 0 0:=by simpa using h1
  exact⟨_,_,_,rfl,by unfold maxLen;omega,Or.inl rfl⟩
 ·obtain rfl:v= .slice (some a) n M:=by simpa using h1
  refine⟨_,_,_,rfl,AH hl hm,?_⟩;by_cases hn:n=0;·exact Or.inl hn
  have hh:n<=m:=by rw[ha];split<;>omega
  have each:∀i,i<n-> ∀(j:Nat) (f:Field),fs[j]?=some f-> ∃(x:Value) (y:DataW H×List MemPlace) (m:Nat),w.cell? (a.add (i*fs.size+j))=some x/\DataW.trod enc P w base spare held m f.type [x]=some y:=by
   intro i hi j f hj;obtain⟨U,hc,hg⟩:=hx i (by omega);rw[hC] at hc;obtain⟨xs,k,_,_,h9,hp,h7⟩:=DataW.trod_struct he hg;obtain⟨_,hq,h8⟩:=World.cells?_some hc;obtain⟨ho,hk⟩:=hone_of S j f hj;have h6:j<fs.size:=(AA.1 hj).1;have I:=h8 j h6;rw[add_add] at I;have h3:=h7 j f hj;rw[ho,hk] at h3;have L:(U.drop j).take 1=[U[j]'(by omega)]:=by rw[Au (by omega)];rfl
   rw[L] at h3;have h4:xs[j]?=some (xs[j]'(by omega)):=AD (by omega);exact⟨U[j]'(by omega),_,_,I.trans (AD (by omega)),h3.trans h4⟩
  obtain⟨x,_,_,Y,_⟩:=each 0 (by omega) 0 fs[0] (AS h0);obtain⟨b,off,O⟩:=a;have h5:O=none:=by simpa[Addr.add] using World.cell?_spot Y
  subst h5;have hlt:b<w.heap.size:=by have:=x7c Y;rw[add_plain] at this;exact this
  refine Or.inr ⟨b,off,rfl,hlt,fun i hi j f hj=> ?_⟩;obtain⟨x,y,k,h1,h2⟩:=each i hi j f hj;rw[add_plain,<- Ce] at h1;exact⟨x,y,k,h1,h2⟩
theorem x6f {r:Reach} {b0:Nat} {t:TypeId} {fs:Array Field} {v:Value} {d:DataW H} {p:List MemPlace} (hs:P.underlying t=some (.struct fs)) (L:oneCellFields P fs=true) (hC:P.cellsOf t=fs.size)
  (hv:Value.okWide P w r b0 t v) (h:DataW.Trod enc P w base spare held t v d p):
  ∃cs:Array Value,v= .agg cs/\cs.size=fs.size/\ ∀(j:Nat) (f:Field),fs[j]?=some f-> ∃(x:Value) (y:DataW H×List MemPlace) (m:Nat),cs[j]?=some x/\DataW.trod enc P w base spare held m f.type [x]=some y:=by
 obtain⟨cs,rfl,S⟩:=okWide_struct hs hv;obtain⟨fuel,hf⟩:=h;refine⟨cs,rfl,S.trans hC,fun j f hj=> ?_⟩;obtain⟨xs,k,_,_,Y,h2,U⟩:=DataW.trod_struct hs hf;obtain⟨ho,hk⟩:=hone_of L j f hj;have h1:j<fs.size:=(AA.1 hj).1;have M:j<cs.size:=by omega
 have h3:=U j f hj;rw[ho,hk] at h3;have I:((Value.agg cs).cells.toList.drop j).take 1=[cs[j]]:=by simp only[Value.cells];rw[Au (by simpa using M)];simp
 rw[I] at h3;have O:xs[j]?=some (xs[j]'(by omega)):=AD (by omega);exact⟨cs[j],_,_,AS M,h3.trans O⟩
end
section
variable {H:Type} {enc:TypeId×Value->H} {w:World} {base:Nat} {spare:Nat->Bool} {held:Bool}
theorem z3n {fuel:Nat} {v:Value} {y:DataW H×List MemPlace} (h:DataW.trod enc Tryz.prog w base spare held fuel 22 [v]=some y):∃xs:List Int,q1w .u64 w v xs/\(∀z∈xs,U64 z)/\xs.length<=9223372036854775807:=by
 rcases Go.ChangeShapes.open_ints Tryz.underlying22 Tryz.underlying46 (by kernel_rfl) h with⟨h1,_⟩|⟨a,len,M,zs,h1,hb,hl,hm,h2,hx,I,h3⟩
 ·obtain rfl:v= .slice none 0 0:=by simpa using h1
  exact⟨[],⟨none,0,rfl,Or.inl rfl⟩,fun z hz=>(by cases hz),by simp⟩
 ·obtain rfl:v= .slice (some a) len M:=by simpa using h1
  have h4:len<=zs.length:=by rw[h2];split<;>omega
  have L:(zs.take len).length=len:=by rw[AU];omega
  refine⟨zs.take len,⟨some a,M,by rw[L],?_⟩,fun z hz=>bounds_u64 (h3 z (Ab hz)),by rw[L];unfold maxLen at hm;omega⟩;by_cases hn:len=0;·left;rw[hn];rfl
  right;obtain⟨b,off,O⟩:=a;have U:=I 0 (by omega);have Y:O=none:=by simpa[Addr.add] using World.cell?_spot U
  subst Y;have hlt:b<w.heap.size:=by have:=x7c U;rw[add_plain] at this;exact this
  refine⟨b,off,rfl,hlt,fun i z hi=> ?_⟩;have S:=(AE.1 hi).1;rw[L] at S;have h9:=I i (by omega);rw[add_plain] at h9;rw[h9];rw[AV,if_pos S] at hi;rw[Ag,hi];rfl
theorem x0m:∃fs:Array Field,Tryz.prog.underlying 83=some (.struct fs)/\oneCellFields Tryz.prog fs=true/\fs.size=5/\fs.map (·.type)= #[3,22,3,3,81]:=⟨_,Tryz.underlying83,by kernel_rfl,rfl,by kernel_rfl⟩
theorem x4f:∃fs:Array Field,Tryz.prog.underlying 201=some (.struct fs)/\oneCellFields Tryz.prog fs=true/\fs.size=2/\fs.map (·.type)= #[3,5]:=⟨_,Tryz.underlying201,by kernel_rfl,rfl,by kernel_rfl⟩
theorem x4x:Tryz.prog.cellsOf 83=5:=by kernel_rfl
theorem x6n:Tryz.prog.cellsOf 201=2:=by kernel_rfl
theorem q6l {fs:Array Field} {ts:Array TypeId} (h:fs.map (·.type)=ts) {j:Nat} {f:Field} (hj:fs[j]?=some f):ts[j]?=some f.type:=by rw[<- h,Array.getElem?_map,hj];rfl
theorem x3r {r:Reach} {b0:Nat} {v:Value} {d:DataW H} {p:List MemPlace} (hv:Value.okWide Tryz.prog w r b0 83 v) (h:DataW.Trod enc Tryz.prog w base spare held 83 v d p):
  ∃(x:La) (kv bv:Value) (xs:List Int) (l:List (Int×Int)),v= .agg (laC5 x kv bv)/\q1w .u64 w kv xs/\(∀z∈xs,U64 z)/\xs.length<=9223372036854775807/\I64 x.slabs/\I64 x.per/\I64 x.lag/\z5l w bv l/\(∀s∈l,ByOK s)/\l.length<=9223372036854775807:=by
 obtain⟨fs,hu,U,h7,M⟩:=x0m;obtain⟨cs,rfl,he,L⟩:=x6f hu U (by rw[h7];exact x4x) hv h;have hf:∀j,j<5-> ∃f,fs[j]?=some f:=fun j hj=>⟨fs[j]'(by omega),AS (by omega)⟩;obtain⟨f0,g0⟩:=hf 0 (by omega);obtain⟨f1,g1⟩:=hf 1 (by omega);obtain⟨f2,g2⟩:=hf 2 (by omega);obtain⟨f3,g3⟩:=hf 3 (by omega);obtain⟨f4,g4⟩:=hf 4 (by omega);obtain⟨x0,y0,m0,c0,t0⟩:=L 0 f0 g0;obtain⟨x1,y1,m1,c1,t1⟩:=L 1 f1 g1;obtain⟨x2,y2,m2,c2,t2⟩:=L 2 f2 g2;obtain⟨x3,y3,m3,c3,t3⟩:=L 3 f3 g3;obtain⟨x4,y4,m4,c4,t4⟩:=L 4 f4 g4;have e0:f0.type=3:=(by simpa using(q6l M g0).symm);have e1:f1.type=22:=(by simpa using(q6l M g1).symm);have e2:f2.type=3:=(by simpa using(q6l M g2).symm);have e3:f3.type=3:=(by simpa using(q6l M g3).symm);have e4:f4.type=81:=(by simpa using(q6l M g4).symm);rw[e0] at t0;rw[e1] at t1;rw[e2] at t2;rw[e3] at t3;rw[e4] at t4;obtain⟨z0,r0,_,w0⟩:=DataW.trod_int Tryz.underlying3 t0;obtain⟨z2,r2,_,w2⟩:=DataW.trod_int Tryz.underlying3 t2;obtain⟨z3,r3,_,w3⟩:=DataW.trod_int Tryz.underlying3 t3;obtain rfl:x0=_:=by simpa using r0
 obtain rfl:x2=_:=by simpa using r2
 obtain rfl:x3=_:=by simpa using r3
 obtain⟨xs,q1,q2,q3⟩:=z3n t1;obtain⟨gs,h5,I,S,O⟩:=x4f;obtain⟨ao,n,cap,rfl,hn,hc⟩:=z8f Tryz.underlying81 h5 I (by rw[S];exact x6n) (by omega) t4;rw[S] at hc
 have Y:∃l:List (Int×Int),z5l w (.slice ao n cap) l/\(∀s∈l,ByOK s)/\l.length=n:=by
  rcases hc with rfl|⟨b,off,rfl,hb,hc⟩;·exact⟨[],⟨ao,cap,rfl,Or.inl rfl⟩,fun x hx=>(by cases hx),rfl⟩
  have each:∀i,i<n-> ∃s:Int×Int,ByOK s/\w.cell? ⟨b,off+i*2,none⟩=some (.int .i64 s.1)/\w.cell? ⟨b,off+i*2+1,none⟩=some (.int .u8 s.2):=by
   intro i hi;obtain⟨x,y,m,a1,a2⟩:=hc i hi 0 _ (AS (show 0<gs.size by omega));obtain⟨x',y',m',b1,b2⟩:=hc i hi 1 _ (AS (show 1<gs.size by omega));have h0:=q6l O (AS (show 0<gs.size by omega));have h1:=q6l O (AS (show 1<gs.size by omega));have e0:(gs[0]'(by omega)).type=3:=(by simpa using h0.symm);have e1:(gs[1]'(by omega)).type=5:=(by simpa using h1.symm);rw[e0] at a2;rw[e1] at b2;obtain⟨z,r1,_,wz⟩:=DataW.trod_int Tryz.underlying3 a2;obtain⟨z',r2,_,h6⟩:=DataW.trod_int Tryz.underlying5 b2;obtain rfl:x=_:=by simpa using r1
   obtain rfl:x'=_:=by simpa using r2
   have ha:=bounds_u8 h6;exact⟨(z,z'),⟨bounds_i64 wz,by show 0<=z';omega,by show z'<256;omega⟩,a1,b1⟩
  refine⟨(List.range n).map fun i=>if h:i<n then(each i h).choose else(0,0),⟨some ⟨b,off,none⟩,cap,by simp,Or.inr ⟨b,off,rfl,hb,fun i s hs=> ?_⟩⟩,fun s hs=> ?_,by simp⟩
  ·rw[AM] at hs;obtain⟨k,hk,rfl⟩:=BX.1 hs;have h4:=AE.1 hk;have h8:=h4.1;have:k=i:=by have h9:=h4.2;simp at h9;omega
   subst this;have h3:k<n:=by simpa using h8
   rw[dif_pos h3];exact(each k h3).choose_spec.2
  ·obtain⟨i,hi,rfl⟩:=Aj.1 hs;have h2:=Av.1 hi;rw[dif_pos h2];exact(each i h2).choose_spec.1
 obtain⟨l,l1,l2,l3⟩:=Y;refine⟨⟨z0,z2,z3⟩,x1,.slice ao n cap,xs,l,?_,q1,q2,q3,bounds_i64 w0,bounds_i64 w2,bounds_i64 w3,l1,l2,by rw[l3];simpa[maxLen] using hn⟩;congr 1;apply Cl;intro j;rcases(by omega:j=0\/j=1\/j=2\/j=3\/j=4\/5<=j) with rfl|rfl|rfl|rfl|rfl|hj;·exact c0
 ·exact c1
 ·exact c2
 ·exact c3
 ·exact c4
 ·rw[CO (by omega),CO (by simp[laC5];omega)]
end
theorem x0z (x:La) (kv bv:Value) (xs:List Int) (l:List (Int×Int)) (w:World) (hn:q1w .u64 w kv xs) (hu:∀z∈xs,U64 z) (hl:xs.length<=9223372036854775807) (h1:I64 x.slabs) (h2:I64 x.per) (h3:I64 x.lag) (hc:z5l w bv l) (hs:∀s∈l,ByOK s) (hm:l.length<=9223372036854775807):
  Calls Tryz.prog 9 #[.agg (laC5 x kv bv)] w fun e w'=>e= .returned (.bool true)/\Below w.heap.size w w':=x0j x kv bv xs l hu hs hl hm ⟨h1,h2,h3⟩ w hn hc
end Go.Proofs.YtibiekfjbibpbaaGreat
