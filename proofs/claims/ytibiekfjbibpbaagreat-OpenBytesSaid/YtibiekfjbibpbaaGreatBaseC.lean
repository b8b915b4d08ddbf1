/- What other texts say in passing, for a seat without pmem: words of bytes, headers of an image. -/
import Derived.Test.YtibiekfjbibpbaaGreatRow
import Derived.Test.YtibiekfjbibpbaaGreatChunk
import Derived.Test.YtibiekfjbibpbaaGreatBitM
import Derived.Test.YtibiekfjbibpbaaGreatGeoB
set_option linter.unusedVariables false
set_option linter.unusedSimpArgs false
namespace Go.Proofs.YtibiekfjbibpbaaGreat
open Go.RowKit
def leW:List Int→Int
 | []=>0
 | b::bs=>b+256*leW bs
theorem leW_bounds: ∀{bs:List Int},(∀x∈bs,0≤x∧x<256)→0≤leW bs∧leW bs<2^ (8*bs.length)
 | [],_=>by simp[leW]
 | b::bs,h=>by
  have h1:=h b (List.mem_cons_self ..)
  have h2:=leW_bounds (bs:=bs) (fun x hx=>h x (List.mem_cons_of_mem _ hx))
  have e:(2:Int)^ (8*(b::bs).length)=256*2^ (8*bs.length):=by
   rw[List.length_cons,Nat.mul_add,Nat.mul_one,Int.pow_add]
   omega
  rw[e]
  simp only[leW]
  omega
theorem leW_snoc: ∀(bs:List Int) (c:Int),leW (bs++[c])=leW bs+c*2^ (8*bs.length)
 | [],c=>by simp[leW]
 | b::bs,c=>by
  have e:(2:Int)^ (8*(b::bs).length)=256*2^ (8*bs.length):=by
   rw[List.length_cons,Nat.mul_add,Nat.mul_one,Int.pow_add]
   omega
  rw[List.cons_append,leW,leW,leW_snoc bs c,e,Int.mul_add,Int.mul_left_comm]
  omega
def BytesIn (w:World) (p:Option Addr) (cap:Nat) (bs:List Int):Prop:=
 bs.length≤cap∧(∀x∈bs,0≤x∧x<256)∧(0<bs.length→ ∃b off,p=some ⟨b,off,none⟩∧b<w.heap.size∧ ∀i x,bs[i]?=some x→w.cell? ⟨b,off+i,none⟩=some (.int .u8 x))
def wAt (bs:List Int) (i:Nat):Int:=leW ((bs.drop (8*i)).take 8)
def wordsOf (bs:List Int):List Int:=(List.range (bs.length/8)).map (wAt bs)
def appRun (P:Program) (ats:Array TypeId) (ty:TypeId) (args:Array Value) (w:World):Result Value:=(Builtin.append_ ats ty args).run P w
def appM (ats:Array TypeId) (ty:TypeId) (args:Array Value):Sem Value:=Builtin.append_ ats ty args
theorem builtin_append_shut (ats:Array TypeId) (ty:TypeId) (cs:Array Bool) (args:Array Value):builtin .append ats ty cs args=(do pure (.value (←appM ats ty args))):=rfl
theorem appM_run (P:Program) (ats:Array TypeId) (ty:TypeId) (args:Array Value) (w:World):(appM ats ty args).run P w=appRun P ats ty args w:=rfl
theorem rowForm {w:World} {base:Nat} {e:TypeId} {size:Nat} {v:Value} {n:Nat} {xs:List Value} (h:w.ownsRow base e size v n xs): ∃a c,v= .slice a n c:=by
 rcases h.2 with⟨rfl,rfl⟩ | ⟨g,cap,cur,rfl,_⟩
 ·exact⟨_,_,rfl⟩
 ·exact⟨_,_,rfl⟩
theorem zeros_in (w:World) (n:Nat) (t:TypeId) (hn:0<n):BytesIn (w.alloc (.cells (Array.replicate n (.int .u8 0)) t)) (some ⟨w.heap.size,0,none⟩) n (List.replicate n 0):=by
 refine⟨by simp,fun x hx=>by have:=List.eq_of_mem_replicate hx;omega,fun _=>⟨w.heap.size,0,rfl,by simp,fun i x hx=> ?_⟩⟩
 obtain⟨hi,he⟩:=List.getElem?_eq_some_iff.1 hx
 simp at hi he
 rw[(Blk.new w t (Array.replicate n (Value.int .u8 0))).cell]
 simp[hi,he]
def mayB (n:Nat):Bool:=decide (64≤n∧n≤1048576∧n % 64=0)
def isGet:List (Int×Int)→Int→Int
 | [],_=>0
 | x::l,a=>if x.1=a then x.2 else isGet l a
theorem isGet_not {l:List (Int×Int)} {a:Int} (h:a∉l.map (·.1)):isGet l a=0:=by
 induction l with
 | nil=>rfl
 | cons x l ih=>
  simp at h
  unfold isGet
  rw[if_neg (fun e=>h.1 e.symm)]
  exact ih (by simpa using h.2)
def nb (c:Nat):Nat:=(blocksZ c).toNat
theorem nb_eq (c:Nat):((nb c:Nat):Int)=blocksZ c:=by
 have:=blocksZ_le c
 unfold nb;omega
def clsAt (bs:List Int) (i:Nat):Nat:=(leW ((bs.drop (1024*i)).take 8)).toNat
def bitAt (bs:List Int) (i:Nat):Nat:=(leW ((bs.drop (1024*i+8)).take 8)).toNat
def headOK (bs:List Int) (i:Nat):Bool:=decide (clsAt bs i≤3)&&mayBits (bitAt bs i) (blocksZ (clsAt bs i))
theorem nb_le (c:Nat):nb c≤15:=by
 have:=blocksZ_le c
 unfold nb;omega
theorem bytesBel {w w':World} {p:Option Addr} {cap:Nat} {bs:List Int} (h:BytesIn w p cap bs) (hb:Below w.heap.size w w'):BytesIn w' p cap bs:=by
 refine⟨h.1,h.2.1,fun h0=> ?_⟩
 obtain⟨b,off,h1,h2,h3⟩:=h.2.2 h0
 exact⟨b,off,h1,Nat.lt_of_lt_of_le h2 hb.size,fun i x hx=>(hb.cell (p:=⟨b,off+i,none⟩) h2).trans (h3 i x hx)⟩
def at0 (xs:List Int) (i:Nat):Int:=(xs[i]?).getD 0
structure Key (X:Prop):Prop where
 out:X
theorem share {X G:Prop} (main:Key X→G) (key:X):G:=main ⟨key⟩
end Go.Proofs.YtibiekfjbibpbaaGreat
