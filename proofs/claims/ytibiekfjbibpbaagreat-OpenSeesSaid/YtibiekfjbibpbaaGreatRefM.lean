import Derived.Deep.AppendLies
import Derived.Test.YtibiekfjbibpbaaGreatPmX
set_option maxRecDepth 100000
set_option maxHeartbeats 2000000
set_option linter.unusedVariables false
set_option linter.unusedSimpArgs false
namespace Go.Proofs.YtibiekfjbibpbaaGreat
open Go.RowKit
def q0g (n j:Nat):Int:=((n/256^j % 256:Nat):Int)
theorem v0u (n j:Nat):0<=q0g n j/\q0g n j<256:=by unfold q0g;have:=Nat.mod_lt (n/256^j) (show 0<256 by omega);omega
theorem v7f (k:Nat):(2:Int)^ (8*k)=((256^k:Nat):Int):=by rw[Int.pow_mul,Int.natCast_pow];rfl
theorem z6i (n:Nat):∀k,leW ((List.range k).map (q0g n))=((n % 256^k:Nat):Int)
 | 0=>by show(0:Int)=((n % 256^0:Nat):Int);rw[Nat.pow_zero,Nat.mod_one];rfl
 | k+1=>by rw[Ay,Ah,List.map_singleton,z5c,z6i n k,Nat.mod_pow_succ];rw[AO,CT,v7f];unfold q0g;rw[Int.natCast_add,Int.natCast_mul,Int.mul_comm]
theorem x2m {n:Nat} (hn:n<18446744073709551616):leW ((List.range 8).map (q0g n))=(n:Int):=by rw[z6i,Nat.mod_eq_of_lt (by exact hn)]
def putC (n i:Nat):Array Value:=((List.range 8).map fun j=>if j<i then Value.int .u8 (q0g n j) else .int .u8 0).toArray
theorem z8y (n i:Nat) (hi:i<8):(putC n i).setIfInBounds i (.int .u8 (q0g n i))=putC n (i+1):=by
 have:i=0\/i=1\/i=2\/i=3\/i=4\/i=5\/i=6\/i=7:=by omega
 rcases this with rfl|rfl|rfl|rfl|rfl|rfl|rfl|rfl<;>rfl
def putV (n:Nat):Value:= .agg #[.int .u8 (q0g n 0),.int .u8 (q0g n 1),.int .u8 (q0g n 2),.int .u8 (q0g n 3),.int .u8 (q0g n 4),.int .u8 (q0g n 5),.int .u8 (q0g n 6),.int .u8 (q0g n 7)]
theorem y0b (n:Nat) (hn:n<18446744073709551616) (w:World):
  Calls Tryz.prog 80 #[.int .u64 (n:Int)] w fun e w'=>e= .returned (putV n)/\Below w.heap.size w w':=by
 have HN:=hid hn;clear hn;go_enter Tryz.func80,Tryz.ntmps80;go_wp2_with fail;generalize hW:World.alloc (World.alloc w _) _=W0;have O:W0.heap.size=w.heap.size+2:=by rw[<- hW];simp
 have I:Below w.heap.size w W0:=by rw[<- hW];exact ba (ba (Below.refl _ _) _) _
 have h1:Blk W0 (w.heap.size+1) 170 (putC n 0):=by rw[<- hW];have:=Blk.new (w.alloc (.cells (putC n 0) 170)) 170 (putC n 0);simp only[World.size_alloc] at this;exact this
 have h2:Blk W0 w.heap.size 170 (putC n 0):=by rw[<- hW];exact(Blk.new w 170 (putC n 0)).alloc _
 have H0:Hid (Blk W0 (w.heap.size+1) 170 (putC n 0)/\Blk W0 w.heap.size 170 (putC n 0)/\Below w.heap.size w W0):=⟨h1,h2,I⟩;clear hW O I h1 h2;go_loopw [0,4] (fun v i wr=> ∃k:Nat,k<=8/\i= .int .i64 k/\v= .int .u64 ((n/256^k:Nat):Int)/\Hid (Blk wr (w.heap.size+1) 170 (putC n k)/\Blk wr w.heap.size 170 (putC n 0)/\Below w.heap.size w wr)) (fun _ i _=>(8- (intOf i).toNat));case atStart=>exact⟨0,by omega,rfl,by simp,H0⟩
 case round=>
  obtain⟨k,hk,rfl,rfl,hI⟩:=hrel;by_cases hlt:k<8
  ·have i1:(0:Int)<=(k:Int):=by omega
   have i2:(k:Int)<8:=by omega
   have M:n/256^k<=n:=Cy _ _;have e2:Hid (n/256^ (k+1)=n/256^k/256):=by show _=_;rw[Cr,CN]
   have eb:Hid (q0g n k=((n/256^k:Nat):Int)% 256):=by show _=_;unfold q0g;omega
   obtain⟨V,hV⟩:∃V,V=n/256^k:=⟨_,rfl⟩;rw[<- hV] at e2 eb M ⊢;have v0:(0:Int)<=(V:Int):=by omega
   have v1:(V:Int)<18446744073709551616:=by have:=HN.out;omega
   obtain⟨oc,yo⟩:∃oc,wr.cell? ⟨w.heap.size+1,k,none⟩=some oc:=by rw[hI.out.1.cell];exact⟨_,AS (by simp[putC];omega)⟩
   have yf:=hI.out.1.frozen k;have u8:IntKind.u8.wrap ((V:Int)% 256)=(V:Int)% 256:=by rw[IntKind.wrap_u8];omega
   have L:Hid (Blk (wr.setCell ⟨w.heap.size+1,k,none⟩ (.int .u8 ((V:Int)% 256))) (w.heap.size+1) 170 (putC n (k+1))/\Blk (wr.setCell ⟨w.heap.size+1,k,none⟩ (.int .u8 ((V:Int)% 256))) w.heap.size 170 (putC n 0)/\Below w.heap.size w (wr.setCell ⟨w.heap.size+1,k,none⟩ (.int .u8 ((V:Int)% 256)))):=by refine⟨?_,hI.out.2.1.far (by show w.heap.size≠w.heap.size+1;omega) _,hI.out.2.2.setCell (by show w.heap.size<=w.heap.size+1;omega) _⟩;rw[<- z8y n k hlt,eb.out];exact hI.out.1.set_ k _
   clear hV hI;go_wp2;go_roundw;case rel=>exact⟨k+1,by omega,by go_num,by rw[e2.out];try(congr 1),L⟩
   case measure=>simp[intOf];omega
  ·obtain rfl:k=8:=by omega
   have c0:wr.cell? ⟨w.heap.size+1,0,none⟩=some (.int .u8 (q0g n 0)):=hI.out.1.cell 0;have c1:wr.cell? ⟨w.heap.size+1,1,none⟩=some (.int .u8 (q0g n 1)):=hI.out.1.cell 1;have c2:wr.cell? ⟨w.heap.size+1,2,none⟩=some (.int .u8 (q0g n 2)):=hI.out.1.cell 2;have c3:wr.cell? ⟨w.heap.size+1,3,none⟩=some (.int .u8 (q0g n 3)):=hI.out.1.cell 3;have c4:wr.cell? ⟨w.heap.size+1,4,none⟩=some (.int .u8 (q0g n 4)):=hI.out.1.cell 4;have c5:wr.cell? ⟨w.heap.size+1,5,none⟩=some (.int .u8 (q0g n 5)):=hI.out.1.cell 5;have c6:wr.cell? ⟨w.heap.size+1,6,none⟩=some (.int .u8 (q0g n 6)):=hI.out.1.cell 6;have c7:wr.cell? ⟨w.heap.size+1,7,none⟩=some (.int .u8 (q0g n 7)):=hI.out.1.cell 7;have d0:wr.cell? ⟨w.heap.size,0,none⟩=some (.int .u8 0):=hI.out.2.1.cell 0;have d1:wr.cell? ⟨w.heap.size,1,none⟩=some (.int .u8 0):=hI.out.2.1.cell 1;have d2:wr.cell? ⟨w.heap.size,2,none⟩=some (.int .u8 0):=hI.out.2.1.cell 2;have d3:wr.cell? ⟨w.heap.size,3,none⟩=some (.int .u8 0):=hI.out.2.1.cell 3;have d4:wr.cell? ⟨w.heap.size,4,none⟩=some (.int .u8 0):=hI.out.2.1.cell 4;have d5:wr.cell? ⟨w.heap.size,5,none⟩=some (.int .u8 0):=hI.out.2.1.cell 5;have d6:wr.cell? ⟨w.heap.size,6,none⟩=some (.int .u8 0):=hI.out.2.1.cell 6;have d7:wr.cell? ⟨w.heap.size,7,none⟩=some (.int .u8 0):=hI.out.2.1.cell 7;have f0:=hI.out.2.1.frozen 0;have f1:=hI.out.2.1.frozen 1;have f2:=hI.out.2.1.frozen 2;have f3:=hI.out.2.1.frozen 3;have f4:=hI.out.2.1.frozen 4;have f5:=hI.out.2.1.frozen 5;have f6:=hI.out.2.1.frozen 6;have f7:=hI.out.2.1.frozen 7;go_wp2;refine bodyPost_ret (v:=putV n) (by simp[results,Tryz.results80,go_sem,putV, *]) rfl ?_;refine⟨rfl,?_⟩;iterate 8 refine Below.setCell ?_ (by exact AG w.heap.size) _
   exact hI.out.2.2
end Go.Proofs.YtibiekfjbibpbaaGreat
namespace Go.Proofs.YtibiekfjbibpbaaGreat
open Go.RowKit
attribute [local go_sem ↓ high] q0v
attribute [local go_sem] q0h
def wB (x:Int):List Int:=(List.range 8).map fun j=>x/256^j % 256
def q3m (ws:List Int):List Int:=ws.flatMap wB
theorem v4k (x:Int):(wB x).length=8:=rfl
end Go.Proofs.YtibiekfjbibpbaaGreat
