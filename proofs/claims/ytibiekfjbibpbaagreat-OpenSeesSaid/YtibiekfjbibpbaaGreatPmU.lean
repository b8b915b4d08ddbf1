import Derived.Test.YtibiekfjbibpbaaGreatGeoA
import Derived.Test.YtibiekfjbibpbaaGreatBitM
import Derived.Test.YtibiekfjbibpbaaGreatKit
import Derived.Deep.WholeRow
set_option maxHeartbeats 400000
set_option maxRecDepth 100000
set_option linter.unusedVariables false
set_option linter.unusedSimpArgs false
namespace Go.Proofs.YtibiekfjbibpbaaGreat
open Go.RowKit
theorem z2t (n a b:Int) (w:World):
  Calls Tryz.prog 166 #[.int .u64 n,.int .u64 a,.int .u64 b] w fun e w'=>e= .returned (.bool (inB n a b))/\w=w':=by
 by_cases h1:a<=n<;>by_cases h2:n<=b
 all_goals
  go_enter Tryz.func166,Tryz.ntmps166;go_wp2;go_ret;exact⟨by simp[inB, *],rfl⟩
def q1q (a:Int):Int:=if 1<=a/1024/\a/1024<=64 then a/1024 else 0
theorem q5w (a:Int):0<=q1q a/\q1q a<=64:=by unfold q1q;split<;>omega
theorem z7m (a:Int) (w:World) (h0:0<=a) (h1:a<=18446744073709551615):
  Calls Tryz.prog 83 #[.int .u64 a] w fun e w'=>e= .returned (.int .i64 (q1q a))/\w=w':=by
 by_cases h:1<=a/1024/\a/1024<=64;·have hi:=x9t h;have hz:Hid (q1q a=a/1024):=if_pos h;obtain⟨h2,h3⟩:=h;go_enter Tryz.func83,Tryz.ntmps83;go_wp2_with fail;refine(z2t _ _ _ _).mono ?_;rintro e w2 ⟨rfl,rfl⟩;go_wp2;go_ret;exact⟨by rw[hz.out];rfl,rfl⟩
 ·have hi:=x4n h;have hz:Hid (q1q a=0):=if_neg h;clear h;go_enter Tryz.func83,Tryz.ntmps83;go_wp2_with fail;refine(z2t _ _ _ _).mono ?_;rintro e w2 ⟨rfl,rfl⟩;go_wp2;go_ret;exact⟨by rw[hz.out];rfl,rfl⟩
def x8u (s:Int):Int:=if 1<=s/\s<=64 then 1024*s+8 else 0
theorem v8u (s:Int) (w:World):
  Calls Tryz.prog 182 #[.int .i64 s] w fun e w'=>e= .returned (.int .u64 (x8u s))/\w=w':=by
 by_cases h:1<=s/\s<=64
 ·have hz:Hid (x8u s=1024*s+8):=if_pos h;have hk:q1g s=1024*s:=if_pos h;obtain⟨h2,h3⟩:=h;have M:1024<=q1g s:=by omega
  have L:q1g s<=65536:=by omega
  have I:(q1g s==0)=false:=by simp;omega
  have Hk:=hid hk;clear hk;go_enter Tryz.func182,Tryz.ntmps182;go_wp2_with fail;refine(q5k _ _).mono ?_;rintro e w2 ⟨rfl,rfl⟩;go_wp2_with fail;refine(q5k _ _).mono ?_;rintro e w2 ⟨rfl,rfl⟩;go_wp2;go_ret;exact⟨by rw[hz.out,<- Hk.out];rfl,rfl⟩
 ·have hz:Hid (x8u s=0):=if_neg h;have hk:q1g s=0:=if_neg h;have I:(q1g s==0)=true:=by rw[hk];rfl
  clear h hk;go_enter Tryz.func182,Tryz.ntmps182;go_wp2_with fail;refine(q5k _ _).mono ?_;rintro e w2 ⟨rfl,rfl⟩;go_wp2;go_ret;exact⟨by rw[hz.out];rfl,rfl⟩
end Go.Proofs.YtibiekfjbibpbaaGreat
namespace Go.Proofs.YtibiekfjbibpbaaGreat
open Go.RowKit
def leW:List Int->Int
 | []=>0
 | b::bs=>b+256*leW bs
theorem q1h:∀{bs:List Int},(∀x∈bs,0<=x/\x<256)->0<=leW bs/\leW bs<2^ (8*bs.length)
 | [],_=>by simp[leW]
 | b::bs,h=>by
  have h1:=h b (Ae ..);have h2:=q1h (bs:=bs) (fun x hx=>h x (AW _ hx));have e:(2:Int)^ (8*(b::bs).length)=256*2^ (8*bs.length):=by rw[BE,Nat.mul_add,Ca,Int.pow_add];omega
  rw[e];simp only[leW];omega
theorem z5c:∀(bs:List Int) (c:Int),leW (bs++[c])=leW bs+c*2^ (8*bs.length)
 | [],c=>by simp[leW]
 | b::bs,c=>by
  have e:(2:Int)^ (8*(b::bs).length)=256*2^ (8*bs.length):=by rw[BE,Nat.mul_add,Ca,Int.pow_add];omega
  rw[Ct,leW,leW,z5c bs c,e,Int.mul_add,Int.mul_left_comm];omega
def q1m (w:World) (p:Option Addr) (cap:Nat) (bs:List Int):Prop:=bs.length<=cap/\(∀x∈bs,0<=x/\x<256)/\(0<bs.length-> ∃b off,p=some ⟨b,off,none⟩/\b<w.heap.size/\ ∀i x,bs[i]?=some x->w.cell? ⟨b,off+i,none⟩=some (.int .u8 x))
def wAt (bs:List Int) (i:Nat):Int:=leW ((bs.drop (8*i)).take 8)
def q0b (bs:List Int):List Int:=(List.range (bs.length/8)).map (wAt bs)
def x2r (P:Program) (ats:Array TypeId) (ty:TypeId) (args:Array Value) (w:World):Result Value:=(Builtin.append_ ats ty args).run P w
def appM (ats:Array TypeId) (ty:TypeId) (args:Array Value):Sem Value:=Builtin.append_ ats ty args
theorem q5q (I:Array TypeId) (ty:TypeId) (cs:Array Bool) (args:Array Value):builtin .append I ty cs args=(do pure (.value (<- appM I ty args))):=rfl
theorem x2p (P:Program) (I:Array TypeId) (ty:TypeId) (args:Array Value) (w:World):(appM I ty args).run P w=x2r P I ty args w:=rfl
theorem z1a {w:World} {base:Nat} {e:TypeId} {size:Nat} {v:Value} {n:Nat} {xs:List Value} (h:w.ownsRow base e size v n xs):∃a c,v= .slice a n c:=by
 rcases h.2 with⟨rfl,rfl⟩|⟨g,cap,I,rfl,_⟩;·exact⟨_,_,rfl⟩
 ·exact⟨_,_,rfl⟩
theorem v1l (w:World) (n:Nat) (t:TypeId) (hn:0<n):q1m (w.alloc (.cells (Array.replicate n (.int .u8 0)) t)) (some ⟨w.heap.size,0,none⟩) n (List.replicate n 0):=by refine⟨by simp,fun x hx=>by have:=Cd hx;omega,fun _=>⟨w.heap.size,0,rfl,by simp,fun i x hx=> ?_⟩⟩;obtain⟨hi,he⟩:=AE.1 hx;simp at hi he;rw[(Blk.new w t (Array.replicate n (Value.int .u8 0))).cell];simp[hi,he]
def mayB (n:Nat):Bool:=decide (64<=n/\n<=1048576/\n % 64=0)
def nb (c:Nat):Nat:=(q0m c).toNat
theorem v2y (c:Nat):((nb c:Nat):Int)=q0m c:=by have:=q3d c;unfold nb;omega
def q1u (bs:List Int) (i:Nat):Nat:=(leW ((bs.drop (1024*i)).take 8)).toNat
def q4r (bs:List Int) (i:Nat):Nat:=(leW ((bs.drop (1024*i+8)).take 8)).toNat
def q2k (bs:List Int) (i:Nat):Bool:=decide (q1u bs i<=3)&&q4y (q4r bs i) (q0m (q1u bs i))
theorem y0d (c:Nat):nb c<=15:=by have:=q3d c;unfold nb;omega
theorem q2d {w w':World} {p:Option Addr} {cap:Nat} {bs:List Int} (h:q1m w p cap bs) (hb:Below w.heap.size w w'):q1m w' p cap bs:=by refine⟨h.1,h.2.1,fun h0=> ?_⟩;obtain⟨b,off,h1,h2,h3⟩:=h.2.2 h0;exact⟨b,off,h1,AL h2 hb.size,fun i x hx=>(hb.cell (p:=⟨b,off+i,none⟩) h2).trans (h3 i x hx)⟩
structure Key (X:Prop):Prop where
 out:X
theorem z1q {X G:Prop} (main:Key X->G) (key:X):G:=main ⟨key⟩
end Go.Proofs.YtibiekfjbibpbaaGreat
namespace Go.Proofs.YtibiekfjbibpbaaGreat
open Go.RowKit
structure MB where
 vb:Nat
 vc:Nat
 ib:Nat
 ic:Nat
 lb:Nat
structure St4 where
 a:Int
 b:Int
 c:Int
 d:Int
def memC (B:MB) (n:Nat) (s:St4):Array Value:= #[.slice (some ⟨B.vb,0,none⟩) n B.vc,.slice (some ⟨B.ib,0,none⟩) n B.ic,.map (some B.lb),.int .u64 s.a,.int .u64 s.b,.int .u64 s.c,.int .u64 s.d]
abbrev ptrV (m:Nat):Value:= .pointer (some ⟨m,0,none⟩)
theorem q8c (m:Nat) (B:MB) (n:Nat) (s:St4) (hn:0<n) (w:World) (h:Blk w m 206 (memC B n s)):
  Calls Tryz.prog 146 #[ptrV m] w fun e w'=>e= .returned (.bool true)/\w=w':=by
 have x0:w.cell? ⟨m,0,none⟩=some (.slice (some ⟨B.vb,0,none⟩) n B.vc):=h.cell 0;have i0:(n:Int)>0:=by omega
 clear h;go_enter Tryz.func146,Tryz.ntmps146;go_wp2;go_ret;exact⟨rfl,rfl⟩
theorem v3u (m:Nat) (B:MB) (n:Nat) (s:St4) (hn:0<n) (hb:n<=131072) (w:World) (h:Blk w m 206 (memC B n s)):
  Calls Tryz.prog 109 #[ptrV m] w fun e w'=>e= .returned (.int .i64 (8*n:Nat))/\w=w':=by
 have x0:w.cell? ⟨m,0,none⟩=some (.slice (some ⟨B.vb,0,none⟩) n B.vc):=h.cell 0;have H:=hid h;clear h;go_enter Tryz.func109,Tryz.ntmps109;go_wp2_with fail;refine(q8c m B n s hn _ H.out).mono ?_;rintro e w1 ⟨rfl,rfl⟩;go_wp2;go_ret;exact⟨by congr 2,rfl⟩
theorem v4t (m:Nat) (B:MB) (n:Nat) (s:St4) (hn:0<n) (w:World) (h:Blk w m 206 (memC B n s)):
  Calls Tryz.prog 61 #[ptrV m] w fun e w'=>e= .returned (.agg #[.int .u64 s.a,.int .u64 s.b,.int .u64 s.c,.int .u64 s.d])/\Below w.heap.size w w':=by
 have H:=hid (h.alloc (.cells #[.int .u64 0,.int .u64 0,.int .u64 0,.int .u64 0] 129));have x3:(w.alloc (.cells #[.int .u64 0,.int .u64 0,.int .u64 0,.int .u64 0] 129)).cell? ⟨m,3,none⟩=some (.int .u64 s.a):=H.out.cell 3;have x4:(w.alloc (.cells #[.int .u64 0,.int .u64 0,.int .u64 0,.int .u64 0] 129)).cell? ⟨m,4,none⟩=some (.int .u64 s.b):=H.out.cell 4;have x5:(w.alloc (.cells #[.int .u64 0,.int .u64 0,.int .u64 0,.int .u64 0] 129)).cell? ⟨m,5,none⟩=some (.int .u64 s.c):=H.out.cell 5;have x6:(w.alloc (.cells #[.int .u64 0,.int .u64 0,.int .u64 0,.int .u64 0] 129)).cell? ⟨m,6,none⟩=some (.int .u64 s.d):=H.out.cell 6;clear h;go_enter Tryz.func61,Tryz.ntmps61;go_wp2_with fail;refine(q8c m B n s hn _ H.out).mono ?_;rintro e w1 ⟨rfl,rfl⟩;go_wp2;refine bodyPost_ret (v:= .agg #[.int .u64 s.a,.int .u64 s.b,.int .u64 s.c,.int .u64 s.d]) ?_ rfl ?_;·simp[results,Tryz.results61,go_sem]
 ·exact⟨rfl,ba (Below.refl _ _) _⟩
def atE (n:Nat) (a:Int):Int:=if a % 8=0/\a/8<n then 0 else 3
theorem at_z (m:Nat) (B:MB) (n:Nat) (s:St4) (hn:0<n) (hb:n<=131072) (a:Int) (ha:0<=a) (I:a<18446744073709551616) (w:World) (h:Blk w m 206 (memC B n s)):
  Calls Tryz.prog 117 #[ptrV m,.int .u64 a] w fun e w'=>e= .returned (.int .i64 (atE n a))/\w=w':=by
 have x0:w.cell? ⟨m,0,none⟩=some (.slice (some ⟨B.vb,0,none⟩) n B.vc):=h.cell 0;have H:=hid h;clear h;by_cases h1:a % 8=0
 ·by_cases h2:a/8<n
  ·have hz:=hid (show atE n a=0 from if_pos ⟨h1,h2⟩);have h3: ¬(a/8≥(n:Int)):=by omega
   go_enter Tryz.func117,Tryz.ntmps117;go_wp2_with fail;refine(q8c m B n s hn _ H.out).mono ?_;rintro e w1 ⟨rfl,rfl⟩;go_wp2;go_ret;exact⟨by rw[hz.out];rfl,rfl⟩
  ·have hz:=hid (show atE n a=3 from if_neg fun h=>h2 h.2);have h3:a/8≥(n:Int):=by omega
   go_enter Tryz.func117,Tryz.ntmps117;go_wp2_with fail;refine(q8c m B n s hn _ H.out).mono ?_;rintro e w1 ⟨rfl,rfl⟩;go_wp2;go_ret;exact⟨by rw[hz.out];rfl,rfl⟩
 ·have hz:=hid (show atE n a=3 from if_neg fun h=>h1 h.1);go_enter Tryz.func117,Tryz.ntmps117;go_wp2_with fail;refine(q8c m B n s hn _ H.out).mono ?_;rintro e w1 ⟨rfl,rfl⟩;go_wp2;go_ret;exact⟨by rw[hz.out];rfl,rfl⟩
def q7k (w:World) (b:Nat) (xs:List Int):Prop:= ∃cur:Array Value,Blk w b 46 cur/\ ∀(i:Nat) (x:Int),xs[i]?=some x->cur[i]?=some (Value.int .u64 x)
theorem q7k.cell {w:World} {b:Nat} {xs:List Int} (h:q7k w b xs) {i:Nat} {x:Int} (hx:xs[i]?=some x):w.cell? ⟨b,i,none⟩=some (.int .u64 x):=by obtain⟨I,h1,h2⟩:=h;rw[h1.cell];exact h2 i x hx
theorem q7k.lt {w:World} {b:Nat} {xs:List Int} (h:q7k w b xs):b<w.heap.size:=by obtain⟨I,h1,_⟩:=h;exact h1.lt
theorem q7k.only {f:List Nat} {w w':World} {b:Nat} {xs:List Int} (h:q7k w b xs) (ho:Only f w w') (hb:b∉f):q7k w' b xs:=by obtain⟨I,h1,h2⟩:=h;exact⟨I,ho.blk h1 hb,h2⟩
structure z0q where
 adr:Nat
 g:Nat
 o:Nat
 cap:Nat
 ps:List (Nat×Int)
 ks:List Nat
 born:Nat
def v9q (ks:List Nat):List Value:=ks.map fun(k:Nat)=>Value.int .i64 (k:Int)
def y0m (L:z0q):Array Value:=(Value.slice (some ⟨L.g,L.o,none⟩) L.ps.length L.cap::v9q L.ks).toArray
def q7y (L:z0q):MapEntry:={ key:= .int .u64 (L.adr:Int),val:= .agg (y0m L),born:=L.born }
def v9r (ps:List (Nat×Int)):List Value:=ps.flatMap fun p=>[.int .u64 (p.1:Int),.int .u64 p.2]
def RowP (w:World) (L:z0q):Prop:= ∃cur:Array Value,Blk w L.g 62 cur/\L.ps.length<=L.cap/\L.o+L.cap*2<=cur.size/\(cur.toList.drop L.o).take (L.ps.length*2)=v9r L.ps
theorem RowP.only {f:List Nat} {w w':World} {L:z0q} (h:RowP w L) (ho:Only f w w') (hb:L.g∉f):RowP w' L:=by obtain⟨I,h1,h2⟩:=h;exact⟨I,ho.blk h1 hb,h2⟩
structure v9g (n:Nat) (L:z0q):Prop where
 adr:L.adr % 64=0
 some_:L.ps≠[]
 puts:∀p∈L.ps,p.1 % 8=0/\p.1/8<n/\p.1-p.1 % 64=L.adr
 marks:L.ks.length=65
 most:∀k∈L.ks,k<=L.ps.length
structure MemS where
 view:List Int
 image:List Int
 lines:List z0q
 clock:Nat
 st:St4
def q2g (m:Nat) (B:MB) (M:MemS):List Nat:=m::B.vb::B.ib::B.lb::M.lines.map (·.g)
structure q4f (w:World) (m:Nat) (B:MB) (M:MemS):Prop where
 blk:Blk w m 206 (memC B M.view.length M.st)
 pos:0<M.view.length
 big:M.view.length<=131072
 len:M.image.length=M.view.length
 view:q7k w B.vb M.view
 image:q7k w B.ib M.image
 map:w.heap[B.lb]?=some (.map (M.lines.map q7y).toArray M.clock)
 rows:∀L∈M.lines,RowP w L
 ok:∀L∈M.lines,v9g M.view.length L
 keys:M.lines.Pairwise fun a b=>a.adr≠b.adr
 born:M.lines.Pairwise fun a b=>a.born≠b.born
 old:∀L∈M.lines,L.born<M.clock
 apart:(q2g m B M).Nodup
theorem q4f.foot_lt {w:World} {m:Nat} {B:MB} {M:MemS} (h:q4f w m B M):∀k∈q2g m B M,k<w.heap.size:=by
 intro k hk;simp only[q2g,List.mem_cons,List.mem_map] at hk;rcases hk with rfl|rfl|rfl|rfl|⟨L,hL,rfl⟩;·exact h.blk.lt
 ·exact h.view.lt
 ·exact h.image.lt
 ·exact(AA.1 h.map).1
 ·obtain⟨I,h1,_⟩:=h.rows L hL;exact h1.lt
theorem q4f.only {f:List Nat} {w w':World} {m:Nat} {B:MB} {M:MemS} (h:q4f w m B M) (ho:Only f w w') (hf:∀k∈q2g m B M,k∉f):q4f w' m B M:=by
 have f0:=hf m (by simp[q2g]);have f1:=hf B.vb (by simp[q2g]);have f2:=hf B.ib (by simp[q2g]);have f3:=hf B.lb (by simp[q2g])
 exact{ h with
  blk:=ho.blk h.blk f0
  view:=h.view.only ho f1
  image:=h.image.only ho f2
  map:=(ho.block _ (h.foot_lt _ (by simp[q2g])) f3).trans h.map
  rows:=fun L hL=>(h.rows L hL).only ho (hf L.g (by simp only[q2g,List.mem_cons,List.mem_map];exact Or.inr (Or.inr (Or.inr (Or.inr ⟨L,hL,rfl⟩))))) }
theorem q4f.counts {w w':World} {m:Nat} {B:MB} {M:MemS} (h:q4f w m B M) (ho:Only [m] w w') {s:St4} (hb:Blk w' m 206 (memC B M.view.length s)):q4f w' m B { M with st:=s }:=by
 have I:m∉B.vb::B.ib::B.lb::M.lines.map (·.g):=(Br.1 h.apart).1;have ne:∀k∈B.vb::B.ib::B.lb::M.lines.map (·.g),k∉ [m]:=fun k hk hm=>by rw[AF] at hm;subst hm;exact I hk
 exact{ h with
  blk:=hb
  view:=h.view.only ho (ne _ (by simp))
  image:=h.image.only ho (ne _ (by simp))
  map:=(ho.block _ (h.foot_lt _ (by simp[q2g])) (ne _ (by simp))).trans h.map
  rows:=fun L hL=>(h.rows L hL).only ho (ne L.g (by simp only[List.mem_cons,List.mem_map];exact Or.inr (Or.inr (Or.inr ⟨L,hL,rfl⟩)))) }
theorem x1y (m:Nat) (B:MB) (M:MemS) (k:Nat) (hk:k<M.view.length) (w:World) (h:q4f w m B M):
  Calls Tryz.prog 173 #[ptrV m,.int .u64 (8*(k:Int))] w fun e w'=>e= .returned (.tuple #[.int .u64 (M.view[k]'hk),.int .i64 0])/\ ∃s,s.a=(M.st.a+1)% 18446744073709551616/\s.b=M.st.b/\s.c=M.st.c/\s.d=M.st.d/\q4f w' m B { M with st:=s }/\Only [m] w w':=by
 have I:=h.big;have x0:w.cell? ⟨m,0,none⟩=some (.slice (some ⟨B.vb,0,none⟩) M.view.length B.vc):=h.blk.cell 0;have x3:w.cell? ⟨m,3,none⟩=some (.int .u64 M.st.a):=h.blk.cell 3;have L:=h.blk.frozen 3;have xv:w.cell? ⟨B.vb,k,none⟩=some (.int .u64 (M.view[k]'hk)):=h.view.cell (AD hk);have ne:B.vb≠m:=fun e=>(Br.1 h.apart).1 (by rw[<- e];simp);have i1:(8*(k:Int))/8=k:=by omega
 have i2:(8*(k:Int))% 8=0:=by omega
 have i3:(0:Int)<=k:=by omega
 have i4:(k:Int)< (M.view.length:Int):=by omega
 have hz:=hid (show atE M.view.length (8*(k:Int))=0 from if_pos ⟨by omega,by omega⟩);obtain⟨n,hn⟩:∃n,n=M.view.length:=⟨_,rfl⟩;obtain⟨V,hV⟩:∃V,V=M.view[k]'hk:=⟨_,rfl⟩;have H:=hid h;have HV:=hid hV;clear h;go_enter Tryz.func173,Tryz.ntmps173;go_wp2_with fail;refine(at_z m B M.view.length M.st H.out.pos I (8*(k:Int)) (by omega) (by omega) _ H.out.blk).mono ?_;rintro e w1 ⟨rfl,rfl⟩;rw[hz.out];go_wp2;go_ret2;refine⟨rfl,⟨(M.st.a+1)% 18446744073709551616,M.st.b,M.st.c,M.st.d⟩,rfl,rfl,rfl,rfl,?_,?_⟩;·exact H.out.counts ((Only.refl _ _).setCell (Or.inl (by simp)) _) (H.out.blk.set_ 3 _)
 ·exact(Only.refl _ _).setCell (Or.inl (by simp)) _
end Go.Proofs.YtibiekfjbibpbaaGreat
