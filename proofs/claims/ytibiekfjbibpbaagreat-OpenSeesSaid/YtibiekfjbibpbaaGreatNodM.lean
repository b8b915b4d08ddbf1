import Derived.Test.YtibiekfjbibpbaaGreatKit
set_option maxRecDepth 100000
set_option maxHeartbeats 2000000
set_option linter.unusedVariables false
set_option linter.unusedSimpArgs false
namespace Go.Proofs.YtibiekfjbibpbaaGreat
section
open Go.RowKit
structure NodeA where
 lv:Int
 low:Int
 nx:Int
 ct:Int
 fi:Int
 k:Nat->Int
 p:Nat->Int
def q2w:NodeA:=⟨0,0,0,0,0,fun _=>0,fun _=>0⟩
def q0x (n:NodeA):Array Value:= #[.int .i64 n.lv,.int .u64 n.low,.int .u64 n.nx,.int .u64 n.ct,.int .u64 n.fi,.int .u64 (n.k 0),.int .u64 (n.k 1),.int .u64 (n.k 2),.int .u64 (n.k 3),.int .u64 (n.k 4),.int .u64 (n.k 5),.int .u64 (n.k 6),.int .u64 (n.k 7),
 .int .u64 (n.p 0),.int .u64 (n.p 1),.int .u64 (n.p 2),.int .u64 (n.p 3),.int .u64 (n.p 4),.int .u64 (n.p 5),.int .u64 (n.p 6),.int .u64 (n.p 7)]
def q0o (f:Nat->Int):Array Value:= #[.int .u64 (f 0),.int .u64 (f 1),.int .u64 (f 2),.int .u64 (f 3),.int .u64 (f 4),.int .u64 (f 5),.int .u64 (f 6),.int .u64 (f 7),.int .u64 (f 8),.int .u64 (f 9),.int .u64 (f 10),.int .u64 (f 11),
 .int .u64 (f 12),.int .u64 (f 13),.int .u64 (f 14),.int .u64 (f 15),.int .u64 (f 16),.int .u64 (f 17),.int .u64 (f 18),.int .u64 (f 19),.int .u64 (f 20),.int .u64 (f 21),.int .u64 (f 22),.int .u64 (f 23)]
theorem z3b (n:NodeA) {i:Nat} (h:i<8):(q0x n)[5+i]?=some (.int .u64 (n.k i)):=by rcases(by omega:i=0\/i=1\/i=2\/i=3\/i=4\/i=5\/i=6\/i=7) with rfl|rfl|rfl|rfl|rfl|rfl|rfl|rfl<;>rfl
theorem q6t (n:NodeA) {i:Nat} (h:i<8):(q0x n)[13+i]?=some (.int .u64 (n.p i)):=by rcases(by omega:i=0\/i=1\/i=2\/i=3\/i=4\/i=5\/i=6\/i=7) with rfl|rfl|rfl|rfl|rfl|rfl|rfl|rfl<;>rfl
theorem q3a (f:Nat->Int) {i:Nat} (h:i<24):(q0o f)[i]?=some (.int .u64 (f i)):=by rcases(by omega:i=0\/i=1\/i=2\/i=3\/i=4\/i=5\/i=6\/i=7\/i=8\/i=9\/i=10\/i=11\/i=12\/i=13\/i=14\/i=15\/i=16\/i=17\/i=18\/i=19\/i=20\/i=21\/i=22\/i=23) with rfl|rfl|rfl|rfl|rfl|rfl|rfl|rfl|rfl|rfl|rfl|rfl|rfl|rfl|rfl|rfl|rfl|rfl|rfl|rfl|rfl|rfl|rfl|rfl<;>rfl
theorem v9x (n:NodeA) {i:Nat} (h:i<8) (v:Int):(q0x n).setIfInBounds (5+i) (.int .u64 v)=q0x { n with k:=fun j=>if j=i then v else n.k j }:=by rcases(by omega:i=0\/i=1\/i=2\/i=3\/i=4\/i=5\/i=6\/i=7) with rfl|rfl|rfl|rfl|rfl|rfl|rfl|rfl<;>rfl
theorem v8j (n:NodeA) {i:Nat} (h:i<8) (v:Int):(q0x n).setIfInBounds (13+i) (.int .u64 v)=q0x { n with p:=fun j=>if j=i then v else n.p j }:=by rcases(by omega:i=0\/i=1\/i=2\/i=3\/i=4\/i=5\/i=6\/i=7) with rfl|rfl|rfl|rfl|rfl|rfl|rfl|rfl<;>rfl
def tagN:Int:=5495893775785918464
def q5t (f:Nat->Int):NodeA:=⟨f 0-tagN,f 1,f 2,f 3,f 4,fun i=>f (8+2*i),fun i=>f (9+2*i)⟩
def U64 (x:Int):Prop:=0<=x/\x<=18446744073709551615
theorem q0s (v:Value):Instr.loadAt 55 v=ldM 55 v:=rfl
theorem q0f (a:Addr):loadVar 55 a=lvM 55 a:=rfl
theorem q0d (p v:Value):Instr.storeAt 55 p v=stM 55 p v:=rfl
attribute [local go_sem ↓ high] q0s q0f q0d
attribute [local go_sem] q1x q1p q1v
theorem q2j {w:World} {b:Nat} {n:NodeA} (h:Blk w b 55 (q0x n)):ldR Tryz.prog 55 (.pointer (some ⟨b,0,none⟩)) w= .ok (.agg (q0x n)) w:=h.ld Tryz.underlying55 rfl (by kernel_rfl)
theorem q7m {w:World} {b:Nat} {n:NodeA} (h:Blk w b 55 (q0x n)):lvR Tryz.prog 55 ⟨b,0,none⟩ w= .ok (.agg (q0x n)) w:=h.lv Tryz.underlying55 rfl (by kernel_rfl)
theorem z3q {w:World} {b:Nat} {n:NodeA} (h:Blk w b 55 (q0x n)):stR Tryz.prog 55 (.pointer (some ⟨b,0,none⟩)) (.agg (q0x n)) w= .ok () w:=h.st_same (by kernel_rfl) (by kernel_rfl)
def q5j (f:Nat->Int) (j:Nat):NodeA:=⟨f 0-tagN,f 1,f 2,f 3,f 4,fun i=>if i<j then f (8+2*i) else 0,fun i=>if i<j then f (9+2*i) else 0⟩
theorem z2s (f:Nat->Int) {j a b:Nat} (h:j<8) (ha:a=8+2*j) (hb:b=9+2*j):q0x { ({ q5j f j with k:=fun i=>if i=j then f a else(q5j f j).k i }:NodeA) with p:=fun i=>if i=j then f b else(q5j f j).p i }=q0x (q5j f (j+1)):=by subst ha;subst hb;rcases(by omega:j=0\/j=1\/j=2\/j=3\/j=4\/j=5\/j=6\/j=7) with rfl|rfl|rfl|rfl|rfl|rfl|rfl|rfl<;>rfl
structure NOfI (w:World) (f:Nat->Int) (B1 j:Nat) (W:World):Prop where
 b1:Blk W B1 184 (q0o f)
 b2:Blk W (B1+1) 55 (q0x (q5j f j))
 bel:Below w.heap.size w W
theorem v9n (f:Nat->Int) (w:World) (h: ¬(tagN<=f 0/\f 0<=tagN+15)):
  Calls Tryz.prog 91 #[.agg (q0o f)] w fun e w'=>e= .returned (.tuple #[.agg (q0x q2w),.int .i64 11])/\Below w.heap.size w w':=by
 obtain⟨W1,I⟩:∃W1,W1=(w.alloc (.cells (q0o f) 184)).alloc (.cells #[.int .i64 0,.int .u64 0,.int .u64 0,.int .u64 0,.int .u64 0,.int .u64 0,.int .u64 0,.int .u64 0,.int .u64 0,.int .u64 0,.int .u64 0,.int .u64 0,.int .u64 0,.int .u64 0,.int .u64 0,.int .u64 0,.int .u64 0,.int .u64 0,.int .u64 0,.int .u64 0,.int .u64 0] 55):=⟨_,rfl⟩;have O:Below w.heap.size w W1:=by rw[I];exact ba (ba (Below.refl _ _) _) _
 have k1:Blk W1 w.heap.size 184 (q0o f):=by rw[I];exact(Blk.new _ _ _).alloc _
 have k2:Blk W1 (w.heap.size+1) 55 (q0x q2w):=by rw[I];have:=Blk.new (w.alloc (.cells (q0o f) 184)) 55 (q0x q2w);rw[World.size_alloc] at this;exact this
 have c0:W1.cell? ⟨w.heap.size,0,none⟩=some (.int .u64 (f 0)):=k1.cell 0;have HW:=hid I;have M:=hid O;have HK:=hid (⟨k1,k2⟩:_/\_);clear I O;have S:=q2j k2;have L:=q7m k2;have U:=z3q k2;clear k1 k2;by_cases h1:f 0<5495893775785918464;·clear h;go_enter Tryz.func91,Tryz.ntmps91;go_upto_region 1 with fail;rw[show _=W1 from HW.out.symm];go_wp2;refine bodyPost_ret (v:= .tuple #[.agg (q0x q2w),.int .i64 11]) (q0y rfl _ _ _ _ _ rfl rfl L) rfl ?_;exact⟨rfl,M.out⟩
 have h2:f 0>5495893775785918479:=by unfold tagN at h;omega
 clear h;go_enter Tryz.func91,Tryz.ntmps91;go_upto_region 1 with fail;rw[show _=W1 from HW.out.symm];go_wp2;refine bodyPost_ret (v:= .tuple #[.agg (q0x q2w),.int .i64 11]) (q0y rfl _ _ _ _ _ rfl rfl L) rfl ?_;exact⟨rfl,M.out⟩
theorem v9i (f:Nat->Int) (w:World) (hf:∀i,U64 (f i)) (h:tagN<=f 0/\f 0<=tagN+15):
  Calls Tryz.prog 91 #[.agg (q0o f)] w fun e w'=>e= .returned (.tuple #[.agg (q0x (q5t f)),.int .i64 0])/\Below w.heap.size w w':=by
 obtain⟨W1,I⟩:∃W1,W1=(w.alloc (.cells (q0o f) 184)).alloc (.cells #[.int .i64 0,.int .u64 0,.int .u64 0,.int .u64 0,.int .u64 0,.int .u64 0,.int .u64 0,.int .u64 0,.int .u64 0,.int .u64 0,.int .u64 0,.int .u64 0,.int .u64 0,.int .u64 0,.int .u64 0,.int .u64 0,.int .u64 0,.int .u64 0,.int .u64 0,.int .u64 0,.int .u64 0] 55):=⟨_,rfl⟩;have O:Below w.heap.size w W1:=by rw[I];exact ba (ba (Below.refl _ _) _) _
 have k1:Blk W1 w.heap.size 184 (q0o f):=by rw[I];exact(Blk.new _ _ _).alloc _
 have k2:Blk W1 (w.heap.size+1) 55 (q0x q2w):=by rw[I];have:=Blk.new (w.alloc (.cells (q0o f) 184)) 55 (q0x q2w);rw[World.size_alloc] at this;exact this
 have c0:W1.cell? ⟨w.heap.size,0,none⟩=some (.int .u64 (f 0)):=k1.cell 0;have HW:=hid I;have M:=hid O;have HK:=hid (⟨k1,k2⟩:_/\_);have HF:=hid hf;clear I O hf;have h1: ¬f 0<5495893775785918464:=by unfold tagN at h;omega
 have h2: ¬f 0>5495893775785918479:=by unfold tagN at h;omega
 have HT:=hid h;clear h;have c1:W1.cell? ⟨w.heap.size,1,none⟩=some (.int .u64 (f 1)):=k1.cell 1;have c2:W1.cell? ⟨w.heap.size,2,none⟩=some (.int .u64 (f 2)):=k1.cell 2;have c3:W1.cell? ⟨w.heap.size,3,none⟩=some (.int .u64 (f 3)):=k1.cell 3;have c4:W1.cell? ⟨w.heap.size,4,none⟩=some (.int .u64 (f 4)):=k1.cell 4;have d0:W1.cell? ⟨w.heap.size+1,0,none⟩=some (.int .i64 0):=k2.cell 0;have d1:W1.cell? ⟨w.heap.size+1,1,none⟩=some (.int .u64 0):=k2.cell 1;have d2:W1.cell? ⟨w.heap.size+1,2,none⟩=some (.int .u64 0):=k2.cell 2;have d3:W1.cell? ⟨w.heap.size+1,3,none⟩=some (.int .u64 0):=k2.cell 3;have d4:W1.cell? ⟨w.heap.size+1,4,none⟩=some (.int .u64 0):=k2.cell 4;have f0:=k2.frozen 0;have f1:=k2.frozen 1;have f2:=k2.frozen 2;have f3:=k2.frozen 3;have f4:=k2.frozen 4;clear k1 k2;go_enter Tryz.func91,Tryz.ntmps91;go_upto_region 1 with fail;rw[show _=W1 from HW.out.symm];go_upto_region 3 with fail;go_region;obtain⟨B1,L⟩:∃B1,B1=w.heap.size:=⟨_,rfl⟩;have S:Hid (NOfI w f B1 0 ((((((W1.setCell ⟨w.heap.size+1,0,none⟩ (.int .i64 (f 0-5495893775785918464))).setCell ⟨w.heap.size+1,1,none⟩ (.int .u64 (f 1))).setCell ⟨w.heap.size+1,2,none⟩ (.int .u64 (f 2))).setCell ⟨w.heap.size+1,3,none⟩ (.int .u64 (f 3))).setCell ⟨w.heap.size+1,4,none⟩ (.int .u64 (f 4))).drew)):=by rw[L];have o:Only [w.heap.size+1] W1 ((((((W1.setCell ⟨w.heap.size+1,0,none⟩ (.int .i64 (f 0-5495893775785918464))).setCell ⟨w.heap.size+1,1,none⟩ (.int .u64 (f 1))).setCell ⟨w.heap.size+1,2,none⟩ (.int .u64 (f 2))).setCell ⟨w.heap.size+1,3,none⟩ (.int .u64 (f 3))).setCell ⟨w.heap.size+1,4,none⟩ (.int .u64 (f 4))).drew):=((((((Only.refl _ W1).setCell (Or.inl (by simp)) _).setCell (Or.inl (by simp)) _).setCell (Or.inl (by simp)) _).setCell (Or.inl (by simp)) _).setCell (Or.inl (by simp)) _).drew;refine⟨o.blk HK.out.1 (by simp),?_,M.out.trans (o.below (fun y hy=>by simp at hy;omega) M.out.size)⟩;exact(((((HK.out.2.set_ 0 _).set_ 1 _).set_ 2 _).set_ 3 _).set_ 4 _).drew
 generalize((((((W1.setCell ⟨w.heap.size+1,0,none⟩ (.int .i64 (f 0-5495893775785918464))).setCell ⟨w.heap.size+1,1,none⟩ (.int .u64 (f 1))).setCell ⟨w.heap.size+1,2,none⟩ (.int .u64 (f 2))).setCell ⟨w.heap.size+1,3,none⟩ (.int .u64 (f 3))).setCell ⟨w.heap.size+1,4,none⟩ (.int .u64 (f 4))).drew)=W2 at S ⊢;have HB:=hid (show w.heap.size<=B1 by omega);rw[<- L];clear c0 c1 c2 c3 c4 d0 d1 d2 d3 d4 f0 f1 f2 f3 f4 HW HK M h1 h2;clear L;go_wp2;go_loopw [31] (fun iv wr=> ∃j:Nat,j<=8/\iv= .int .i64 j/\Hid (NOfI w f B1 j wr)) (fun iv _=>(8- (intOf iv).toNat));case atStart=>exact⟨0,by omega,rfl,S⟩
 case round=>
  obtain⟨j,hj,rfl,hI⟩:=hrel;by_cases hlt:j<8
  ·have i1:(j:Int)<8:=by omega
   have i0:(0:Int)<=(j:Int):=by omega
   have wj:IntKind.i64.wrap (j:Int)=(j:Int):=IntWalk.i64_in _ (by constructor<;>omega);have e1:IntKind.i64.wrap (2*(j:Int))=((2*j:Nat):Int):=IntWalk.i64_in _ (by constructor<;>omega);obtain⟨a,ha⟩:∃a,a=8+2*j:=⟨_,rfl⟩;obtain⟨b,hb⟩:∃b,b=9+2*j:=⟨_,rfl⟩;have e2:8+2*(j:Int)=(a:Int):=by omega
   have e3:9+2*(j:Int)=(b:Int):=by omega
   have h4:(a:Int)<24:=by omega
   have h5:(b:Int)<24:=by omega
   have ca:wr.cell? ⟨B1,a,none⟩=some (.int .u64 (f a)):=(hI.out.b1.cell a).trans (q3a f (by omega));have cb:wr.cell? ⟨B1,b,none⟩=some (.int .u64 (f b)):=(hI.out.b1.cell b).trans (q3a f (by omega));have ck:wr.cell? ⟨B1+1,5+j,none⟩=some (.int .u64 ((q5j f j).k j)):=(hI.out.b2.cell (5+j)).trans (z3b _ hlt);have cp:wr.cell? ⟨B1+1,13+j,none⟩=some (.int .u64 ((q5j f j).p j)):=(hI.out.b2.cell (13+j)).trans (q6t _ hlt);have fk:=hI.out.b2.frozen (5+j);have fp:=hI.out.b2.frozen (13+j);have HA:=hid (⟨ha,hb,hlt⟩:_/\_/\_);clear ha hb hj;go_upto_region 7 with fail;go_region;have hN:Hid (NOfI w f B1 (j+1) ((wr.setCell ⟨B1+1,5+j,none⟩ (.int .u64 (f a))).setCell ⟨B1+1,13+j,none⟩ (.int .u64 (f b))).drew):=by have o:Only [B1+1] wr ((wr.setCell ⟨B1+1,5+j,none⟩ (.int .u64 (f a))).setCell ⟨B1+1,13+j,none⟩ (.int .u64 (f b))).drew:=(((Only.refl _ wr).setCell (Or.inl (by simp)) _).setCell (Or.inl (by simp)) _).drew;refine⟨o.blk hI.out.b1 (by simp),?_,hI.out.bel.trans (o.below (fun y hy=>by have:=HB.out;simp at hy;omega) hI.out.bel.size)⟩;have h1:=((hI.out.b2.set_ (5+j) (.int .u64 (f a))).set_ (13+j) (.int .u64 (f b))).drew;rw[v9x _ HA.out.2.2,v8j _ HA.out.2.2] at h1;rw[z2s f HA.out.2.2 HA.out.1 HA.out.2.1] at h1;exact h1
   clear ca cb ck cp fk fp;go_wp2;go_roundw;case rel=>exact⟨j+1,HA.out.2.2,by go_num,hN⟩
   case measure=>simp[intOf];have:=HA.out.2.2;omega
  ·obtain rfl:j=8:=by omega
   have i1: ¬((8:Nat):Int)<8:=by omega
   have Y:=q2j hI.out.b2;have h3:=z3q hI.out.b2;have U:=q7m hI.out.b2;clear hlt hj;go_wp2;refine bodyPost_ret (v:= .tuple #[.agg (q0x (q5j f 8)),.int .i64 0]) (q0y rfl _ _ _ _ _ rfl rfl U) rfl ?_;exact⟨rfl,hI.out.bel⟩
end
section
open Go.RowKit
def lenF (p:Nat->Int):Nat->Nat->Nat
 | 0,i=>i
 | f+1,i=>if p i=0 then i else lenF p f (i+1)
theorem q9n (p:Nat->Int):∀f i,i<=lenF p f i/\lenF p f i<=i+f/\(∀j,i<=j->j<lenF p f i->p j≠0)/\(lenF p f i<i+f->p (lenF p f i)=0)
 | 0,i=>⟨AG _,AG _,fun j h1 h2=>by unfold lenF at h2;omega,fun h=>by unfold lenF at h;omega⟩
 | f+1,i=>by
  by_cases h0:p i=0
  ·have e:lenF p (f+1) i=i:=by unfold lenF;rw[if_pos h0]
   rw[e];exact⟨AG _,by omega,fun j h1 h2=>by omega,fun _=>h0⟩
  ·have e:lenF p (f+1) i=lenF p f (i+1):=by rw[lenF,if_neg h0]
   rw[e];obtain⟨h1,h2,h3,h4⟩:=q9n p f (i+1);refine⟨by omega,by omega,fun j a b=> ?_,fun h=>h4 (by omega)⟩;by_cases hj:j=i;·subst hj;exact h0
   ·exact h3 j (by omega) b
def lenN (n:NodeA):Nat:=lenF n.p 8 0
theorem q5d (n:NodeA):lenN n<=8:=by have:=(q9n n.p 8 0).2.1;unfold lenN;omega
theorem x8w (n:NodeA) {i:Nat} (h:i<lenN n):n.p i≠0:=(q9n n.p 8 0).2.2.1 i (Af _) h
theorem x8j (n:NodeA) (h:lenN n<8):n.p (lenN n)=0:=(q9n n.p 8 0).2.2.2 (by unfold lenN at h;omega)
def x0f (n:NodeA) (i:Nat):Int:=if i=0 then n.fi else n.p (i-1)
def isN (n:NodeA) (i:Nat):Bool:=n.p i !=x0f n i
def x5p (n:NodeA):Array Value:= #[.int .u64 (n.p 0),.int .u64 (n.p 1),.int .u64 (n.p 2),.int .u64 (n.p 3),.int .u64 (n.p 4),.int .u64 (n.p 5),.int .u64 (n.p 6),.int .u64 (n.p 7)]
theorem v0y (n:NodeA) {i:Nat} (h:i<8):(x5p n)[i]?=some (.int .u64 (n.p i)):=by rcases(by omega:i=0\/i=1\/i=2\/i=3\/i=4\/i=5\/i=6\/i=7) with rfl|rfl|rfl|rfl|rfl|rfl|rfl|rfl<;>rfl
theorem v2q (n:NodeA) (j:Nat) (v:Value) (h:(x5p n)[j]?=some v):(q0x n)[13+j]?=some v:=by have hj:j<8:=(AA.1 h).1;rw[v0y n hj] at h;rw[q6t n hj,h]
theorem x0e {q:Nat} (pre:List (Fin q)) (h:pre.map (·.val)=List.range q):pre=List.finRange q:=by have h2:(List.finRange q).map (·.val)=List.range q:=DP (by simp) (fun i h1 h2=>by simp);have:Function.Injective (fun x:Fin q=>x.val):=fun a b h=>Fin.ext h;exact List.map_inj_right (fun a b I=>Fin.ext I) |>.1 (h.trans h2.symm)
theorem q2c (v:Value):Instr.loadAt 53 v=ldM 53 v:=rfl
theorem v5k {w:World} {b:Nat} {n:NodeA} (h:Blk w b 55 (q0x n)):ldR Tryz.prog 53 (.pointer (some ⟨b,13,none⟩)) w= .ok (.agg (x5p n)) w:=h.ldAt 13 (v2q n) Tryz.underlying53 rfl (by kernel_rfl)
theorem v1x (n:NodeA) {i:Nat} (h:i<8) (W:World):(Instr.index 53 (.agg (x5p n)) (.int .i64 (i:Int))).run Tryz.prog W= .ok (.int .u64 (n.p i)) W:=by rcases(by omega:i=0\/i=1\/i=2\/i=3\/i=4\/i=5\/i=6\/i=7) with rfl|rfl|rfl|rfl|rfl|rfl|rfl|rfl<;>kernel_rfl
attribute [local go_sem ↓ high] q0s q0f q0d q2c
attribute [local go_sem] q1x q1p q1v Oper.semAt_some
theorem z6l (n:NodeA) (w:World):
  Calls Tryz.prog 263 #[.agg (q0x n)] w fun e w'=>e= .returned (.func (.func 273) #[] #[.pointer (some ⟨w.heap.size,0,none⟩)])/\Blk w' w.heap.size 55 (q0x n)/\Below w.heap.size w w':=by
 have I:∀(fn:Fn) (first cap:Array Value) (w:World),(Instr.makeFunc fn first cap).run Tryz.prog w= .ok (.func fn first cap) w:=fun _ _ _ _=>rfl;go_enter Tryz.func263,Tryz.ntmps263;go_wp2;go_ret;exact⟨rfl,Blk.new _ _ _,ba (Below.refl _ _) _⟩
theorem v8m (m:Nat) (n:NodeA) (F:List Nat) (N0 l B:Nat) (J Jx:List (Fin (lenN n))->World->Prop) (W:World) (hB:B<N0) (Y:B∉F) (hN:N0<=W.heap.size)
  (hJ:AbidesFrom W.heap.size J)
  (hY:∀pre (x:Fin (lenN n)) W1,J pre W1->pre.length<lenN n->YieldAt Fence.wide (m-1) Tryz.prog l #[.int .i64 (x.val:Int),.bool (isN n x.val)] W1 fun e W'=>(e= .returned (.bool true)/\J (pre++[x]) W'/\q0u F N0 W1 W')\/(e= .returned (.bool false)/\Jx (pre++[x]) W'))
  (hs:Blk W B 55 (q0x n)) (h0:J [] W):
  CallsIn Fence.wide m Tryz.prog 273 #[.func (.yield l) #[] #[],.pointer (some ⟨B,0,none⟩)] W fun e W'=>(∃v,e= .returned v)/\
   ((∃ys,ys=List.finRange (lenN n)/\J ys W')\/(∃pre,True/\Jx pre W')):=by
 refine callsIn_of_wp Tryz.func273 rfl trivial ?_ rfl;simp only[Tryz.ntmps273,List.size_toArray,List.length_cons,List.length_nil,Nat.reduceAdd,Nat.reduceSub,Array.replicate_succ,Array.replicate_zero,List.push_toArray,List.append_toArray,List.nil_append,List.cons_append];have HY:=hid hY;have HB:=hid (⟨hB,Y,hN⟩:_/\_/\_);have c4:W.cell? ⟨B,4,none⟩=some (.int .u64 n.fi):=hs.cell 4;have h5:=v5k hs;have h9:n.fi=x0f n 0:=rfl;clear hY hB Y hN hs;gi_wp2_with fail;clear c4 h5 h9;gi_loopw [10,3] (fun iv av wr=> ∃k:Nat,k<=lenN n/\iv= .int .i64 (k:Nat)/\av= .int .u64 (x0f n k)/\ ∃pre:List (Fin (lenN n)),pre.map (·.val)=List.range k/\Hid (J pre wr)/\Hid (q0u F N0 W wr)) (fun iv _ _=>(lenN n- (intOf iv).toNat));case atStart=>exact⟨0,by omega,rfl,rfl,[],rfl,h0,q0u.refl _ _ _⟩
 case round=>
  obtain⟨i,hi,rfl,rfl,pre,L,M,hK⟩:=hrel;have hh:(x5p n).size=8:=rfl;have hf:=q5d n;by_cases h8:i<8
  ·have i2:decide ((i:Int)<8)=true:=AT (by omega);have he:(i:Int)<8:=by omega
   have i1:(0:Int)<=(i:Int):=by omega
   have i3:IntKind.i64.wrap ((i:Int)+1)=(i:Int)+1:=IntWalk.i64_in _ (by omega);have h1:=v1x n h8 wr;by_cases hlt:i<lenN n
   ·have h2:=x8w n hlt;have ha:(n.p i==0)=false:=by simpa using h2
    obtain⟨fn,tmps,assign,body,hy,hR⟩:=HY.out pre (⟨i,hlt⟩:Fin (lenN n)) wr M.out (by have:=congrArg List.length L;simp at this;omega);have HR:=hid hR;have h3:(n.p i !=x0f n i)=isN n i:=rfl;have U:(Instr.yield l #[.int .i64 (i:Int),.bool (isN n i)]).run Tryz.prog wr= .ok (.round l fn tmps assign body) wr:=hy;obtain⟨pr,O⟩:∃pr,pr=x0f n i:=⟨_,rfl⟩;rw[<- O] at h3 ⊢;clear hR hy O;gi_wp2;refine⟨fun h=>by simp[Fence.wide] at h,HR.out.mono ?_⟩;rintro e' W5 (⟨rfl,S,hk5⟩|⟨rfl,I⟩)
    ·have h4:=hid (hK.out.trans hk5);have h7:=hid S;have hj:n.p i=x0f n (i+1):=rfl;clear S hk5 U h1;gi_wp2;go_roundw;case rel=>exact⟨i+1,hlt,by go_num,rfl,pre++[⟨i,hlt⟩],by rw[Ah,L,Ay];rfl,h7,h4⟩
     case measure=>simp[intOf];omega
    ·have h6:=hid I;clear I U h1;gi_wp2;refine bodyPost_ret (results_none rfl _ _ _) rfl ?_;exact⟨⟨_,rfl⟩,.inr ⟨_,trivial,h6.out⟩⟩
   ·obtain rfl:i=lenN n:=by omega
    have h0:=x8j n h8;have ha:(n.p (lenN n)==0)=true:=by simpa using h0
    clear hlt;gi_wp2;refine⟨by simp,?_⟩;gi_wp2;refine bodyPost_ret (results_none rfl _ _ _) rfl ?_;exact⟨⟨_,rfl⟩,.inl ⟨pre,x0e pre L,M.out⟩⟩
  ·have hg:i=8:=by omega
   have hl:lenN n=i:=by omega
   have i2:decide ((i:Int)<8)=false:=AK (by omega);gi_wp2;go_end0;rw[<- hl] at L;exact⟨⟨_,rfl⟩,.inl ⟨pre,x0e pre L,M.out⟩⟩
theorem z7z (m:Nat) (n:NodeA) (F:List Nat) (N0 B:Nat) (w:World) (hB:B<N0) (I:B∉F) (hN:N0<=w.heap.size) (hs:Blk w B 55 (q0x n)):
  SeqStopsK Fence.wide m Tryz.prog 273 #[.pointer (some ⟨B,0,none⟩)] (fun x:Fin (lenN n)=> #[.int .i64 (x.val:Int),.bool (isN n x.val)]) (q0u F N0) (fun ys=>ys=List.finRange (lenN n)) (fun _=>True) (lenN n) w:=by
 intro l J Jx W hW hJ _ hY h0;exact v8m m n F N0 l B J Jx W hB I (AH hN hW.size) hJ hY (hs.bel hW) h0
end
section
open Go.RowKit Go.Shelf
attribute [local go_sem ↓ high] q0s q0f q0d q2c
attribute [local go_sem] q1x q1p q1v Oper.semAt_some
structure LenJ (w:World) (N2 kb:Nat) (c:Int) (W:World):Prop where
 sz:N2<=W.heap.size
 blk:Blk W kb 3 #[.int .i64 c]
 bel:Below w.heap.size w W
theorem v6v (n:NodeA) (w:World):
  CallsIn Fence.wide 3 Tryz.prog 243 #[.agg (q0x n)] w fun e W'=>e= .returned (.int .i64 (lenN n:Int))/\Below w.heap.size w W':=by
 refine callsIn_of_wp_marks Tryz.func243 rfl trivial ?_ rfl;simp only[Tryz.ntmps243,List.size_toArray,List.length_cons,List.length_nil,Nat.reduceAdd,Nat.reduceSub,Array.replicate_succ,Array.replicate_zero,List.push_toArray,List.append_toArray,List.nil_append,List.cons_append];obtain⟨W1,I⟩:∃W1,W1=(w.alloc (.cells (q0x n) 55)).alloc (.cells #[.int .i64 0] 3):=⟨_,rfl⟩;have k1:Blk W1 w.heap.size 55 (q0x n):=by rw[I];exact(Blk.new _ _ _).alloc _
 have k2:Blk W1 (w.heap.size+1) 3 #[.int .i64 0]:=by rw[I];have:=Blk.new (w.alloc (.cells (q0x n) 55)) 3 #[.int .i64 0];rw[World.size_alloc] at this;exact this
 have h2:Below w.heap.size w W1:=by rw[I];exact ba (ba (Below.refl _ _) _) _
 have U:=q2j k1;have HE:=hid (z6l n W1);have HW:=hid I;have HK:=hid (⟨k1,k2,h2⟩:_/\_/\_);have M:=I;clear k1 k2 h2 I;rw[M] at U;gi_wp2_with fail;rw[<- HW.out];refine⟨trivial,(callsIn_wide.2 HE.out).mono ?_⟩;rintro e W2 ⟨rfl,e1,e2⟩;have hf:=hid (⟨e1,e2⟩:_/\_);have h5:Hid (LenJ w W2.heap.size (w.heap.size+1) (0:Nat) W2):=⟨AG _,HK.out.2.1.bel e2,HK.out.2.2.trans (e2.mono HK.out.2.2.size)⟩;have Y:W1.heap.size=w.heap.size+2:=by rw[HW.out];simp
 have HS:=hid (z7z 2 n [w.heap.size+1] W2.heap.size W1.heap.size W2 (e1.lt) (by simp;omega) (AG _) e1);have HZ:=hid (⟨Y,e2.size,e1.lt⟩:_/\_/\_);clear e1 e2 U Y HE;gi_wp2_with fail;have h8:w.heap.size+1+1=W1.heap.size:=by have:=HZ.out.1;omega
 rw[h8];obtain⟨D0,h7⟩:∃D0,D0=W1.heap.size:=⟨_,rfl⟩;rw[<- h7] at HS ⊢
 refine wpIn_rangeFunc_ownG rfl (by omega) (gf:=273) (lb:= #[.pointer (some ⟨D0,0,none⟩)]) rfl trivial (enters_of Tryz.func273 (by kernel_rfl) rfl)
  HS.out q0u.trans ?hKb (Below.refl _ _) (fun _=>rfl)
  (fun pre=>LenJ w W2.heap.size (w.heap.size+1) (pre.length:Nat)) (fun _ _ _=>False) ?own (fun _ _ _ _ _ h _ _=>h)
  h5.out
  (fun x:Fin (lenN n)=>{ tmps:= #[.agg (q0x n),.pointer (some ⟨w.heap.size,0,none⟩),.pointer (some ⟨w.heap.size+1,0,none⟩),.agg (q0x n),.func (.func 273) #[] #[.pointer (some ⟨D0,0,none⟩)],.int .i64 (x.val:Int),.bool (isN n x.val),undef,undef,undef],defers:=[] }) ?assign ?body ?done ?stop
 case hKb=>intro W l o o' hl ho hc hw;exact(q0u.refl _ _ W).putObj (by omega) o'
 case own=>
  intro s W W' row hs hg O;have ho:Only row.toList W W':=Only.of_grown hg (fun k hk=>by simp[hk]);have far:∀k∈row.toList,w.heap.size+1<k:=fun k hk=>by have:=(O k (by simpa using hk)).1;have:=HZ.out;omega
  exact⟨AH hs.sz ho.size,ho.blk hs.blk (fun hm=>by have:=far _ hm;omega),hs.bel.trans (ho.below (fun k hk=>by have:=far k hk;omega) hs.bel.size)⟩
 case assign=>intro l x W K' hK;gi_wp2;exact v3i hK (by kernel_rfl)
 case body=>
  rintro l pre x W hI hlt;have c0:W.cell? ⟨w.heap.size+1,0,none⟩=some (.int .i64 (pre.length:Nat)):=hI.blk.cell 0;have f0:=hI.blk.frozen 0;have HI:=hid hI;have he:=q5d n;have e1:IntKind.i64.wrap ((pre.length:Int)+1)=((pre.length+1:Nat):Int):=IntWalk.i64_in _ (by constructor<;>omega);clear hI;gi_wp2_with fail;have ho:Only [w.heap.size+1] W (W.setCell ⟨w.heap.size+1,0,none⟩ (.int .i64 ((pre.length:Int)+1))):=(Only.refl _ W).setCell (Or.inl (by simp)) _;refine⟨z3d ho (fun k hk=>by have:=HZ.out;simp at hk;omega),q0u.only ho HI.out.sz,AH HI.out.sz ho.size,?_,?_⟩;·have:=HI.out.blk.set_ 0 (.int .i64 ((pre.length:Int)+1));rw[AI];exact this
  ·exact HI.out.bel.trans (ho.below (fun k hk=>by simp at hk;omega) HI.out.bel.size)
 case done=>
  rintro D xs W hD h4 hI hK;have c0:W.cell? ⟨w.heap.size+1,0,none⟩=some (.int .i64 (xs.length:Nat)):=hI.blk.cell 0;have f0:=hI.blk.frozen 0;have S:xs.length=lenN n:=by rw[h4];simp
  have HX:=hid (⟨hD,hI,hK,S⟩:_/\_/\_/\_);clear hD hI hK h4 S;gi_wp2_with fail;obtain⟨W',L⟩:∃W',W'=W.setCell ⟨w.heap.size+1,0,none⟩ (.int .i64 (xs.length:Nat)):=⟨_,rfl⟩;have oW:Only [w.heap.size+1] W W':=by rw[L];exact(Only.refl _ _).setCell (Or.inl (by simp)) _
  have h1:Blk W' (w.heap.size+1) 3 #[.int .i64 (xs.length:Nat)]:=by rw[L];exact HX.out.2.1.blk.set_ 0 _
  have h9:=(AA.1 HX.out.2.2.1).1;have hZ:=HZ.out;have hD:=HX.out.1;have h3:W'.heap[D]?=some (.deferred (some [])):=(oW.block D h9 (by simp;omega)).trans HX.out.2.2.1;have o2:Only [D] W' (W'.putObj D (.deferred none)):=Only.putObj (Only.refl _ _) (Or.inl (by simp)) _;have ha:(W'.putObj D (.deferred none)).cell? ⟨w.heap.size+1,0,none⟩=some (.int .i64 (xs.length:Nat)):=(o2.blk h1 (by simp;omega)).cell 0;have hbel:Below w.heap.size w (W'.putObj D (.deferred none)):=(HX.out.2.1.bel.trans (oW.below (fun k hk=>by simp at hk;omega) HX.out.2.1.bel.size)).trans (o2.below (fun k hk=>by simp at hk;omega) (AH HX.out.2.1.bel.size oW.size));rw[<- L];refine z3j (.int .i64 (xs.length:Nat)) h3 ?_ ⟨by rw[HX.out.2.2.2],hbel⟩;clear L oW h3 o2 h1 hbel;simp[results,Tryz.results243,go_sem,ha]
 case stop=>rintro D c0 pre W hD h6 h hK;exact h.elim
theorem v8e (n:NodeA) (w:World):Calls Tryz.prog 243 #[.agg (q0x n)] w fun e W'=>e= .returned (.int .i64 (lenN n:Int))/\Below w.heap.size w W':=callsIn_wide.1 (v6v n w)
theorem v4a:(Tryz.prog.info? 3).map (fun i=>(i.zero,i.size,i.bytes))=some (some (.int .i64 0),1,8):=by kernel_rfl
theorem x8n (N:Nat) (W:World) (x:Value) (l news:List Value) (v:Value) (hx:q1b W x news.length news) (h1:∀u∈news,u.oneCell'=true) (hm:l.length+news.length<=2000000) (hN:N<=W.heap.size) (hr:W.ownsRow N 3 1 v l.length l):
  ∃v' w',q0n Tryz.prog #[227,227] 227 #[v,x] W= .ok v' w'/\w'.ownsRow N 3 1 v' (l++news).length (l++news)/\W.grownBy w' v.ownBlock/\(v'.ownBlock=v.ownBlock\/v'.ownBlock=some W.heap.size):=by
 obtain⟨i0,O,I,M,L⟩:=info_parts v4a;obtain⟨v',w',h⟩:=q2b (P:=Tryz.prog) W N 227 227 3 i0 (.int .i64 0) 1 8 Tryz.underlying227 O I M L rfl (by decide) v l.length _ hr x news.length _ hx (by simp) h1 (by unfold maxLen;omega) (by omega) hN;refine⟨v',w',h.run,?_,h.grown,h.ob⟩;rw[AI];exact h.own
def q1o (n:NodeA):List Nat:=(List.range (lenN n)).filter (isN n)
structure PlcJ (n:NodeA) (w:World) (N2 kb:Nat) (pre:List (Fin (lenN n))) (W:World):Prop where
 sz:N2<=W.heap.size
 row:∃v,Blk W kb 227 #[v]/\W.ownsRow w.heap.size 3 1 v ((pre.filter fun x=>isN n x.val).length) ((pre.filter fun x=>isN n x.val).map fun x=> .int .i64 (x.val:Int))/\ ∀b,v.ownBlock=some b->N2<=b
 bel:Below w.heap.size w W
attribute [local go_sem ↓ high] q0v
attribute [local go_sem] q0h
theorem x5w (n:NodeA) (w:World):
  CallsIn Fence.wide 3 Tryz.prog 262 #[.agg (q0x n)] w fun e W'=> ∃v,e= .returned v/\W'.ownsRow w.heap.size 3 1 v (q1o n).length ((q1o n).map fun i:Nat=> .int .i64 (i:Int))/\Below w.heap.size w W':=by
 refine callsIn_of_wp_marks Tryz.func262 rfl trivial ?_ rfl;simp only[Tryz.ntmps262,List.size_toArray,List.length_cons,List.length_nil,Nat.reduceAdd,Nat.reduceSub,Array.replicate_succ,Array.replicate_zero,List.push_toArray,List.append_toArray,List.nil_append,List.cons_append];obtain⟨W1,M⟩:∃W1,W1=(w.alloc (.cells (q0x n) 55)).alloc (.cells #[.slice none 0 0] 227):=⟨_,rfl⟩;have k1:Blk W1 w.heap.size 55 (q0x n):=by rw[M];exact(Blk.new _ _ _).alloc _
 have k2:Blk W1 (w.heap.size+1) 227 #[.slice none 0 0]:=by rw[M];have:=Blk.new (w.alloc (.cells (q0x n) 55)) 227 #[.slice none 0 0];rw[World.size_alloc] at this;exact this
 have hf:Below w.heap.size w W1:=by rw[M];exact ba (ba (Below.refl _ _) _) _
 have h8:=q2j k1;have HE:=hid (z6l n W1);have HW:=hid M;have HK:=hid (⟨k1,k2,hf⟩:_/\_/\_);have U:=M;clear k1 k2 hf M;rw[U] at h8;gi_wp2_with fail;rw[<- HW.out];refine⟨trivial,(callsIn_wide.2 HE.out).mono ?_⟩;rintro e W2 ⟨rfl,e1,e2⟩;have k7:=hid (⟨e1,e2⟩:_/\_);have ha:W1.heap.size=w.heap.size+2:=by rw[HW.out];simp
 have hq:Hid (PlcJ n w W2.heap.size (w.heap.size+1) [] W2):=⟨AG _,⟨.slice none 0 0,HK.out.2.1.bel e2,World.ownsRow_nil _ _ _ _,fun b hb=>by simp[Value.ownBlock] at hb⟩,HK.out.2.2.trans (e2.mono HK.out.2.2.size)⟩;have HS:=hid (z7z 2 n [w.heap.size+1] W2.heap.size W1.heap.size W2 (e1.lt) (by simp;omega) (AG _) e1);have HZ:=hid (⟨ha,e2.size,e1.lt⟩:_/\_/\_);clear e1 e2 h8 ha HE;gi_wp2_with fail;have hx:w.heap.size+1+1=W1.heap.size:=by have:=HZ.out.1;omega
 rw[hx];obtain⟨D0,hz⟩:∃D0,D0=W1.heap.size:=⟨_,rfl⟩;rw[<- hz] at HS ⊢
 refine wpIn_rangeFunc_ownG rfl (by omega) (gf:=273) (lb:= #[.pointer (some ⟨D0,0,none⟩)]) rfl trivial (enters_of Tryz.func273 (by kernel_rfl) rfl)
  HS.out q0u.trans ?hKb (Below.refl _ _) (fun _=>rfl)
  (fun pre=>PlcJ n w W2.heap.size (w.heap.size+1) pre) (fun _ _ _=>False) ?own (fun _ _ _ _ _ h _ _=>h)
  hq.out
  (fun x:Fin (lenN n)=>{ tmps:= #[.agg (q0x n),.pointer (some ⟨w.heap.size,0,none⟩),.pointer (some ⟨w.heap.size+1,0,none⟩),.int .i64 (x.val:Int),.bool (isN n x.val),.agg (q0x n),.func (.func 273) #[] #[.pointer (some ⟨D0,0,none⟩)],.int .i64 (x.val:Int),.bool (isN n x.val),undef,undef,undef,undef,undef,undef],defers:=[] }) ?assign ?body ?done ?stop
 case hKb=>intro W l o o' hl ho hc hw;exact(q0u.refl _ _ W).putObj (by omega) o'
 case own=>
  intro s W W' row hs hg O;have ho:Only row.toList W W':=Only.of_grown hg (fun k hk=>by simp[hk]);have far:∀k∈row.toList,w.heap.size+1<k:=fun k hk=>by have:=(O k (by simpa using hk)).1;have:=HZ.out;omega
  obtain⟨v,h1,h2,h3⟩:=hs.row;exact⟨AH hs.sz ho.size,⟨v,ho.blk h1 (fun hm=>by have:=far _ hm;omega),z5e h2 hg (fun r hr=>(O r hr).2),h3⟩,hs.bel.trans (ho.below (fun k hk=>by have:=far k hk;omega) hs.bel.size)⟩
 case assign=>intro l x W K' hK;refine v3i (K:=fun a W=>Code.wpIn _ _ _ _ _ a W) (t:= #[.agg (q0x n),.pointer (some ⟨w.heap.size,0,none⟩),.pointer (some ⟨w.heap.size+1,0,none⟩),undef,undef,.agg (q0x n),.func (.func 273) #[] #[.pointer (some ⟨D0,0,none⟩)],.int .i64 (x.val:Int),.bool (isN n x.val),undef,undef,undef,undef,undef,undef]) ?_ (by kernel_rfl);gi_wp2;exact hK
 case body=>
  rintro l pre x W hI hlt;obtain⟨v,h1,h2,h3⟩:=hI.row;have c0:W.cell? ⟨w.heap.size+1,0,none⟩=some v:=h1.cell 0;have f0:=h1.frozen 0;have HI:=hid (⟨hI,h1,h2,h3⟩:_/\_/\_/\_);clear hI h1 h2 h3;cases hb:isN n x.val
  ·gi_wp2_with fail;refine⟨KeepsFrom.refl _ _,q0u.refl _ _ _,HI.out.1.sz,?_,HI.out.1.bel⟩;have e:(pre++[x]).filter (fun x=>isN n x.val)=pre.filter (fun x=>isN n x.val):=by rw[Aq,Cj (by rw[hb];decide)];simp
   rw[e];exact HI.out.1.row
  ·obtain⟨v',W9,k3,I,Y,h7⟩:=x8n w.heap.size (W.alloc (.cells #[.int .i64 (x.val:Int)] 3)) (.slice (some ⟨W.heap.size,0,none⟩) 1 1) _ [.int .i64 (x.val:Int)] v (Or.inr ⟨W.heap.size,0,1,rfl,fun j u hj=>by
    rw[(Blk.new W 3 #[.int .i64 (x.val:Int)]).cell (0+j),AQ];simpa using hj⟩) (fun u hu=>by rw[AF.1 hu];rfl) (by have:=q5d n;have:=Ao (fun x:Fin (lenN n)=>isN n x.val) pre;simp;omega) (by have:=HI.out.1.bel.size;simp;omega) ((by simpa using HI.out.2.2.1:W.ownsRow w.heap.size 3 1 v ((pre.filter fun x=>isN n x.val).map fun x=>Value.int .i64 (x.val:Int)).length _).alloc _)
   obtain⟨va,vc,rfl⟩:=q0q I;have o9:Only v.ownBlock.toList (W.alloc (.cells #[.int .i64 (x.val:Int)] 3)) W9:=Only.of_grown Y (fun k hk=>by simp[hk]);have oW:Only v.ownBlock.toList W W9:=((Only.refl _ W).alloc _).trans o9 (fun k hk=>Or.inl hk);have L:∀k∈v.ownBlock.toList,W2.heap.size<=k:=fun k hk=>HI.out.2.2.2 k (by simpa using hk);have hZ:=HZ.out;have b9:Blk W9 (w.heap.size+1) 227 #[v]:=oW.blk HI.out.2.1 (fun hm=>by have:=L _ hm;omega);have c9:W9.cell? ⟨w.heap.size+1,0,none⟩=some v:=b9.cell 0;have f9:=b9.frozen 0;have HA:=hid (⟨I,Y,h7,oW,L,b9⟩:_/\_/\_/\_/\_/\_);clear I Y h7 o9 oW L b9;gi_wp2_with fail;obtain⟨V,hV⟩:∃V,V=W9.setCell ⟨w.heap.size+1,0,none⟩ (.slice va ((pre.filter fun x=>isN n x.val).length+1) vc):=⟨_,rfl⟩;have oV:Only [w.heap.size+1] W9 V:=by rw[hV];exact(Only.refl _ _).setCell (Or.inl (by simp)) _
   have bV:Blk V (w.heap.size+1) 227 #[.slice va ((pre.filter fun x=>isN n x.val).length+1) vc]:=by rw[hV];exact HA.out.2.2.2.2.2.set_ 0 _
   have hZ:=HZ.out;have o1:Only ((w.heap.size+1)::v.ownBlock.toList) W V:=(HA.out.2.2.2.1.mono (fun k hk=>AW _ hk)).trans oV (fun k hk=>Or.inl (by simp at hk;simp[hk]));have e:(pre++[x]).filter (fun x=>isN n x.val)=pre.filter (fun x=>isN n x.val)++[x]:=by rw[Aq,Ck (by rw[hb])];simp
   have I:=HA.out.1;rw[<- hV];refine⟨⟨o1.size,fun i o hB hi k0=>(o1.block i (AA.1 hi).1 (fun hm=> ?_)).trans hi⟩,⟨o1.size,fun k hk hn=>o1.block k (AL hk HI.out.1.sz) (fun hm=> ?_)⟩,AH HI.out.1.sz o1.size,⟨_,bV,?_,fun k hk=> ?_⟩,HI.out.1.bel.trans (o1.below (fun k hk=> ?_) HI.out.1.bel.size)⟩
   ·rcases AN.1 hm with h|h;·omega
    ·obtain⟨cs,t,fr,hc⟩:=q5e HI.out.2.2.1 i (by simpa using h);rw[hc] at hi;injection hi with hi;subst hi;cases k0
   ·rcases AN.1 hm with h|h;·exact hn (by simp[h])
    ·have:=HA.out.2.2.2.2.1 k h;omega
   ·rw[e]
    have h9:=oV.own I (fun k hk hm=>by
     have h1:k=w.heap.size+1:=by simpa using hm
     rcases HA.out.2.2.1 with h2|h2;·rw[h2] at hk;have:=HI.out.2.2.2 k hk;omega
     ·rw[h2] at hk;injection hk with hk;have h3:=HI.out.1.sz;have h4:(W.alloc (.cells #[.int .i64 (x.val:Int)] 3)).heap.size=W.heap.size+1:=World.size_alloc _ _;omega)
    simpa using h9
   ·have k8:(Value.slice va ((List.map (fun x:Fin (lenN n)=>Value.int .i64 (x.val:Int)) (List.filter (fun x=>isN n x.val) pre)).length+1) vc).ownBlock=some k:=by simpa using hk
    rcases HA.out.2.2.1 with h2|h2
    ·have h3:v.ownBlock=some k:=by rw[<- h2];simpa using hk
     exact HI.out.2.2.2 k h3
    ·have h3:some (W.alloc (.cells #[.int .i64 (x.val:Int)] 3)).heap.size=some k:=by rw[<- h2];simpa using hk
     injection h3 with h3;have h4:(W.alloc (.cells #[.int .i64 (x.val:Int)] 3)).heap.size=W.heap.size+1:=World.size_alloc _ _;have h5:=HI.out.1.sz;omega
   ·rcases AN.1 hk with h|h;·omega
    ·have:=HA.out.2.2.2.2.1 k h;omega
 case done=>
  rintro D xs W hD hh hI hK;obtain⟨v,h1,h2,h3⟩:=hI.row;have c0:W.cell? ⟨w.heap.size+1,0,none⟩=some v:=h1.cell 0;have f0:=h1.frozen 0;obtain⟨va,vc,rfl⟩:=q0q h2;have hp:(xs.filter fun x=>isN n x.val).map (·.val)=q1o n:=by rw[hh];unfold q1o;have e:List.range (lenN n)=(List.finRange (lenN n)).map (·.val):=DP (by simp) (fun i h1 h2=>by simp);rw[e,List.filter_map];rfl
  have HX:=hid (⟨hD,hI,hK,hp,h1,h2,h3⟩:_/\_/\_/\_/\_/\_/\_);clear hD hI hK hh hp h1 h2 h3;gi_wp2_with fail;obtain⟨W',S⟩:∃W',W'=W.setCell ⟨w.heap.size+1,0,none⟩ (.slice va (xs.filter fun x=>isN n x.val).length vc):=⟨_,rfl⟩;have oW:Only [w.heap.size+1] W W':=by rw[S];exact(Only.refl _ _).setCell (Or.inl (by simp)) _
  have he:Blk W' (w.heap.size+1) 227 #[.slice va (xs.filter fun x=>isN n x.val).length vc]:=by rw[S];exact HX.out.2.2.2.2.1.set_ 0 _
  have k4:=(AA.1 HX.out.2.2.1).1;have hZ:=HZ.out;have hD:=HX.out.1;have h6:W'.heap[D]?=some (.deferred (some [])):=(oW.block D k4 (by simp;omega)).trans HX.out.2.2.1;have o2:Only [D] W' (W'.putObj D (.deferred none)):=Only.putObj (Only.refl _ _) (Or.inl (by simp)) _;have k5:(W'.putObj D (.deferred none)).cell? ⟨w.heap.size+1,0,none⟩=some (.slice va (xs.filter fun x=>isN n x.val).length vc):=(o2.blk he (by simp;omega)).cell 0;have hbel:Below w.heap.size w (W'.putObj D (.deferred none)):=(HX.out.2.1.bel.trans (oW.below (fun k hk=>by simp at hk;omega) HX.out.2.1.bel.size)).trans (o2.below (fun k hk=>by simp at hk;omega) (AH HX.out.2.1.bel.size oW.size))
  have I:(W'.putObj D (.deferred none)).ownsRow w.heap.size 3 1 (.slice va (xs.filter fun x=>isN n x.val).length vc) (q1o n).length ((q1o n).map fun i:Nat=> .int .i64 (i:Int)):=by
   have h9:=(oW.own HX.out.2.2.2.2.2.1 (fun k hk hm=>by have:=HX.out.2.2.2.2.2.2 k hk;simp at hm;omega));have hy:=z5e (row:=some D) h9 ⟨o2.os,o2.tape,o2.output,o2.size,fun k hk hn=>o2.block k hk (fun hm=>hn (by simp at hm;simp[hm]))⟩ (fun r hr=>⟨.deferred (some []),by injection hr with hr;subst hr;exact h6,rfl⟩);have e1:(q1o n).length=(xs.filter fun x=>isN n x.val).length:=by rw[<- HX.out.2.2.2.1,AO]
   rw[e1,<- HX.out.2.2.2.1,BU];exact hy
  rw[<- S];refine z3j (.slice va (xs.filter fun x=>isN n x.val).length vc) h6 ?_ ⟨_,rfl,I,hbel⟩;clear S oW h6 o2 he hbel I;simp[results,Tryz.results262,go_sem,k5]
 case stop=>rintro D c0 pre W hD ht h hK;exact h.elim
theorem x9g (n:NodeA) (w:World):Calls Tryz.prog 262 #[.agg (q0x n)] w fun e W'=> ∃v,e= .returned v/\W'.ownsRow w.heap.size 3 1 v (q1o n).length ((q1o n).map fun i:Nat=> .int .i64 (i:Int))/\Below w.heap.size w W':=callsIn_wide.1 (x5w n w)
end
section
open Go.RowKit
attribute [local go_sem ↓ high] q0s q0f q0d q2c q0v
attribute [local go_sem] q1x q1p q1v Oper.semAt_some q0h
def entC (x:Int×Int):List Value:=[.int .u64 x.1,.int .u64 x.2]
def q0r (n:NodeA):List (Int×Int):=(q1o n).map fun i=>(n.k i,n.p i)
theorem x5d:(Tryz.prog.info? 166).map (fun i=>(i.zero,i.size,i.bytes))=some (some (.agg #[.int .u64 0,.int .u64 0]),2,16):=by kernel_rfl
theorem z1i (N:Nat) (W:World) (x:Value) (l:List Value) (n:Nat) (hn:l.length=2*n) (k p:Int) (v:Value) (hx:q1b W x 1 [.int .u64 k,.int .u64 p]) (hm:n+1<=2000000) (hN:N<=W.heap.size) (hr:W.ownsRow N 166 2 v n l):
  ∃v' w',q0n Tryz.prog #[162,162] 162 #[v,x] W= .ok v' w'/\w'.ownsRow N 166 2 v' (n+1) (l++[.int .u64 k,.int .u64 p])/\W.grownBy w' v.ownBlock/\(v'.ownBlock=v.ownBlock\/v'.ownBlock=some W.heap.size):=by
 obtain⟨i0,O,I,M,L⟩:=info_parts x5d;obtain⟨v',w',h⟩:=q2b (P:=Tryz.prog) W N 162 162 166 i0 (.agg #[.int .u64 0,.int .u64 0]) 2 16 Tryz.underlying162 O I M L rfl (by decide) v n _ hr x 1 _ hx (by simp) (fun u hu=>by simp at hu;rcases hu with rfl|rfl<;>rfl) (by unfold maxLen;omega) (by omega) hN;exact⟨v',w',h.run,h.own,h.grown,h.ob⟩
theorem q7a (l:List (Int×Int)):(l.flatMap entC).length=2*l.length:=by
 induction l with
 | nil=>rfl
 | cons x l ih=>rw[Ap,AI,ih,BE];show 2+_=_;omega
theorem z6d (n:NodeA):∀i∈q1o n,i<8:=fun i hi=>by unfold q1o at hi;have:=(Cg.1 hi).1;rw[Av] at this;have:=q5d n;omega
theorem z0j (n:NodeA):(q1o n).length<=8:=by unfold q1o;refine AH (Ao _ _) ?_;rw[CT];exact q5d n
structure ValI (n:NodeA) (w:World) (w2:World) (nb k:Nat) (v:Value) (W:World):Prop where
 row:W.ownsRow w.heap.size 166 2 v k (((q0r n).take k).flatMap entC)
 new:∀b,v.ownBlock=some b->w2.heap.size<=b
 bel:Below w2.heap.size w2 W
theorem x1v (n:NodeA) (w:World):
  Calls Tryz.prog 242 #[.agg (q0x n)] w fun e W'=> ∃v,e= .returned v/\W'.ownsRow w.heap.size 166 2 v (q0r n).length ((q0r n).flatMap entC)/\Below w.heap.size w W':=by
 obtain⟨W1,M⟩:∃W1,W1=w.alloc (.cells (q0x n) 55):=⟨_,rfl⟩;have k1:Blk W1 w.heap.size 55 (q0x n):=by rw[M];exact Blk.new _ _ _
 have h8:Below w.heap.size w W1:=by rw[M];exact ba (Below.refl _ _) _
 have h7:=q2j k1;have HP:=hid (x9g n W1);have HW:=hid M;have HK:=hid (⟨k1,h8⟩:_/\_);rw[M] at h7;clear k1 h8 M;go_enter Tryz.func242,Tryz.ntmps242;go_wp2_with fail;rw[<- HW.out];refine HP.out.mono ?_;rintro e w2 ⟨v,rfl,I,U⟩;obtain⟨va,vc,rfl⟩:=q0q I;have h3:q1w .i64 w2 (.slice va (q1o n).length vc) ((q1o n).map fun i:Nat=>(i:Int)):=q1w.of_own (by rw[AO,BU];exact I);obtain⟨ht,hp,h9,O⟩:=h3;rw[AO] at h9;injection h9 with hv1 hv2 hv3;subst hv1;have kb:=HK.out.1.bel U;have HC:=hid (⟨O,kb,HK.out.2.trans (U.mono HK.out.2.size),U⟩:_/\_/\_/\_);obtain⟨q,hq⟩:∃q,q=(q1o n).length:=⟨_,rfl⟩;have hs:q<=8:=by rw[hq];exact z0j n
 rw[<- hq];have HQ:=hid hq;have ho:Hid (ValI n w w2 w.heap.size 0 (.slice none 0 0) w2):=⟨World.ownsRow_nil _ _ _ _,fun b hb=>by simp[Value.ownBlock] at hb,Below.refl _ _⟩;clear I U O kb hq h7 HP;go_wp2;go_loopw [2,8] (fun rv iv wr=> ∃k:Nat,k<=q/\iv= .int .i64 k/\Hid (ValI n w w2 w.heap.size k rv wr)) (fun _ iv _=>(q- (intOf iv).toNat));case atStart=>exact⟨0,by omega,rfl,ho⟩
 case round=>
  obtain⟨k,hk,rfl,hI⟩:=hrel;by_cases hlt:k<q
  ·have i1:(k:Int)< (q:Int):=by omega
   have i0:(0:Int)<=(k:Int):=by omega
   have Y:k< (q1o n).length:=by rw[<- HQ.out];exact hlt
   obtain⟨i,hi⟩:∃i,(q1o n)[k]?=some i:=⟨_,AD Y⟩;have ha:i<8:=z6d n i (AJ hi);obtain⟨g,off,hg,hm,O⟩:=HC.out.1.resolve_left (fun e=>by have h:=congrArg List.length e;simp at h;rw[h] at hi;simp at hi);subst hg;have ci:wr.cell? ⟨g,off+k,none⟩=some (.int .i64 (i:Nat)):=(hI.out.bel.cell (p:=⟨g,off+k,none⟩) hm).trans (O k _ (by rw[AM,hi];rfl));have kb:=HC.out.2.1.bel hI.out.bel;obtain⟨W5,h4⟩:∃W5,W5=(wr.alloc (.cells #[.int .u64 (n.k i),.int .u64 (n.p i)] 166)).drew:=⟨_,rfl⟩;have o5:Only [] wr W5:=by rw[h4];exact((Only.refl [] wr).alloc _).drew
   have c1:wr.cell? ⟨w.heap.size,5+i,none⟩=some (.int .u64 (n.k i)):=(kb.cell _).trans (z3b n ha);have c2:wr.cell? ⟨w.heap.size,13+i,none⟩=some (.int .u64 (n.p i)):=(kb.cell _).trans (q6t n ha);have j0:(0:Int)<=(i:Int):=by omega
   have j8:(i:Int)<8:=by omega
   have hf:((q0r n).take k).length=k:=by rw[AU];unfold q0r;rw[AO];omega
   obtain⟨v',w9,S,L,h6,h5⟩:=z1i w.heap.size W5 (.slice (some ⟨wr.heap.size,0,none⟩) 1 1) _ k (by rw[q7a,hf]) (n.k i) (n.p i) _ (Or.inr ⟨wr.heap.size,0,1,rfl,fun j u hj=>by rw[h4,((Blk.new wr 166 #[.int .u64 (n.k i),.int .u64 (n.p i)]).drew).cell (0+j),AQ];simpa using hj⟩) (by omega) (by have:=o5.size;have:=HC.out.2.2.1.size;have:=hI.out.bel.size;omega) (o5.own hI.out.row (by simp));obtain⟨a9,d9,rfl⟩:=q0q L;have HN:=hid (⟨L,h6,h5,o5,hi,Y⟩:_/\_/\_/\_/\_/\_);rw[h4] at S;clear L h6 h5 o5 hi Y O;go_upto_region 4 with fail;go_region;have oW:Only (u2.ownBlock.toList) wr w9:=(HN.out.2.2.2.1.mono (fun _ h=>by cases h)).trans (Only.of_grown HN.out.2.1 (fun k hk=>by simp[hk])) (fun k hk=>Or.inl hk)
   have hh:Hid (ValI n w w2 w.heap.size (k+1) (.slice a9 (k+1) d9) w9):=by
    refine⟨?_,fun b hb=> ?_,hI.out.bel.trans (oW.below (fun y hy=>hI.out.new y (by simpa using hy)) hI.out.bel.size)⟩
    ·have e:(q0r n).take (k+1)=(q0r n).take k++[(n.k i,n.p i)]:=by
      rw[Ai];have:(q0r n)[k]?=some (n.k i,n.p i):=by unfold q0r;rw[AM,HN.out.2.2.2.2.1];rfl
      rw[this];rfl
     rw[e,Al];exact HN.out.1
    ·rcases HN.out.2.2.1 with h|h;·exact hI.out.new b (h▸hb)
     ·rw[h] at hb;injection hb with hb;have h1:=HN.out.2.2.2.1.size;have h2:=hI.out.bel.size;omega
   have he:=hid hlt;clear S oW ci c1 c2 hlt;go_wp2;go_roundw;case rel=>exact⟨k+1,he.out,by go_num,hh⟩
   case measure=>simp[intOf];have:=he.out;omega
  ·obtain rfl:k=q:=by omega
   have i1: ¬(k:Int)< (k:Int):=by omega
   clear hlt hk;go_wp2;go_ret;have hl:(q0r n).length=k:=by unfold q0r;rw[AO,HQ.out]
   have hr:=hI.out.row;rw[AY (by omega)] at hr;exact⟨_,rfl,by rw[hl];exact hr,HC.out.2.2.1.trans (hI.out.bel.mono HC.out.2.2.1.size)⟩
end
end Go.Proofs.YtibiekfjbibpbaaGreat
