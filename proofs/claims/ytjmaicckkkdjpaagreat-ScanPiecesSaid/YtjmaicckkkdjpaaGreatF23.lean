import Derived.RangeFuncWrites
import Derived.Test.YtjmaicckkkdjpaaGreatF21
/- Nodes, plainly; node.Of. -/
set_option maxRecDepth 100000
set_option maxHeartbeats 2000000
set_option linter.unusedVariables false
set_option linter.unusedSimpArgs false
namespace Go.Proofs.YtjmaicckkkdjpaaGreat
section
open Go.RowKit
structure NodeA where
 lv:Int
 low:Int
 nx:Int
 ct:Int
 fi:Int
 k:Nat→Int
 p:Nat→Int
def zeroN:NodeA:=⟨0,0,0,0,0,fun _=>0,fun _=>0⟩
def nodeC (n:NodeA):Array Value:= #[.int .i64 n.lv,.int .u64 n.low,.int .u64 n.nx,.int .u64 n.ct,.int .u64 n.fi,.int .u64 (n.k 0),.int .u64 (n.k 1),.int .u64 (n.k 2),.int .u64 (n.k 3),.int .u64 (n.k 4),.int .u64 (n.k 5),.int .u64 (n.k 6),.int .u64 (n.k 7),
 .int .u64 (n.p 0),.int .u64 (n.p 1),.int .u64 (n.p 2),.int .u64 (n.p 3),.int .u64 (n.p 4),.int .u64 (n.p 5),.int .u64 (n.p 6),.int .u64 (n.p 7)]
def wordsC (f:Nat→Int):Array Value:= #[.int .u64 (f 0),.int .u64 (f 1),.int .u64 (f 2),.int .u64 (f 3),.int .u64 (f 4),.int .u64 (f 5),.int .u64 (f 6),.int .u64 (f 7),.int .u64 (f 8),.int .u64 (f 9),.int .u64 (f 10),.int .u64 (f 11),
 .int .u64 (f 12),.int .u64 (f 13),.int .u64 (f 14),.int .u64 (f 15),.int .u64 (f 16),.int .u64 (f 17),.int .u64 (f 18),.int .u64 (f 19),.int .u64 (f 20),.int .u64 (f 21),.int .u64 (f 22),.int .u64 (f 23)]
theorem nodeC_k (n:NodeA) {i:Nat} (h:i<8):(nodeC n)[5+i]?=some (.int .u64 (n.k i)):=by
 rcases(by omega:i=0∨i=1∨i=2∨i=3∨i=4∨i=5∨i=6∨i=7) with rfl | rfl | rfl | rfl | rfl | rfl | rfl | rfl<;>rfl
theorem nodeC_p (n:NodeA) {i:Nat} (h:i<8):(nodeC n)[13+i]?=some (.int .u64 (n.p i)):=by
 rcases(by omega:i=0∨i=1∨i=2∨i=3∨i=4∨i=5∨i=6∨i=7) with rfl | rfl | rfl | rfl | rfl | rfl | rfl | rfl<;>rfl
theorem wordsC_at (f:Nat→Int) {i:Nat} (h:i<24):(wordsC f)[i]?=some (.int .u64 (f i)):=by
 rcases(by omega:i=0∨i=1∨i=2∨i=3∨i=4∨i=5∨i=6∨i=7∨i=8∨i=9∨i=10∨i=11∨i=12∨i=13∨i=14∨i=15∨i=16∨i=17∨i=18∨i=19∨i=20∨i=21∨i=22∨i=23) with rfl | rfl | rfl | rfl | rfl | rfl | rfl | rfl | rfl | rfl | rfl | rfl | rfl | rfl | rfl | rfl | rfl | rfl | rfl | rfl | rfl | rfl | rfl | rfl<;>rfl
theorem set_k (n:NodeA) {i:Nat} (h:i<8) (v:Int):(nodeC n).setIfInBounds (5+i) (.int .u64 v)=nodeC { n with k:=fun j=>if j=i then v else n.k j }:=by
 rcases(by omega:i=0∨i=1∨i=2∨i=3∨i=4∨i=5∨i=6∨i=7) with rfl | rfl | rfl | rfl | rfl | rfl | rfl | rfl<;>rfl
theorem set_p (n:NodeA) {i:Nat} (h:i<8) (v:Int):(nodeC n).setIfInBounds (13+i) (.int .u64 v)=nodeC { n with p:=fun j=>if j=i then v else n.p j }:=by
 rcases(by omega:i=0∨i=1∨i=2∨i=3∨i=4∨i=5∨i=6∨i=7) with rfl | rfl | rfl | rfl | rfl | rfl | rfl | rfl<;>rfl
def tagN:Int:=5495893775785918464
def nodeOf (f:Nat→Int):NodeA:=⟨f 0-tagN,f 1,f 2,f 3,f 4,fun i=>f (8+2*i),fun i=>f (9+2*i)⟩
def U64 (x:Int):Prop:=0≤x∧x≤18446744073709551615
theorem nodeLoadAt (v:Value):Instr.loadAt 77 v=ldM 77 v:=rfl
theorem nodeLoadVar (a:Addr):loadVar 77 a=lvM 77 a:=rfl
theorem nodeStoreAt (p v:Value):Instr.storeAt 77 p v=stM 77 p v:=rfl
attribute [local go_sem ↓ high] nodeLoadAt nodeLoadVar nodeStoreAt
attribute [local go_sem] ldM_run lvM_run stM_run
theorem node_ld {w:World} {b:Nat} {n:NodeA} (h:Blk w b 77 (nodeC n)):ldR Tryz.prog 77 (.pointer (some ⟨b,0,none⟩)) w= .ok (.agg (nodeC n)) w:=h.ld Tryz.underlying77 rfl (by kernel_rfl)
theorem node_lv {w:World} {b:Nat} {n:NodeA} (h:Blk w b 77 (nodeC n)):lvR Tryz.prog 77 ⟨b,0,none⟩ w= .ok (.agg (nodeC n)) w:=h.lv Tryz.underlying77 rfl (by kernel_rfl)
theorem node_st {w:World} {b:Nat} {n:NodeA} (h:Blk w b 77 (nodeC n)):stR Tryz.prog 77 (.pointer (some ⟨b,0,none⟩)) (.agg (nodeC n)) w= .ok () w:=h.st_same (by kernel_rfl) (by kernel_rfl)
def nodeTo (f:Nat→Int) (j:Nat):NodeA:=⟨f 0-tagN,f 1,f 2,f 3,f 4,fun i=>if i<j then f (8+2*i) else 0,fun i=>if i<j then f (9+2*i) else 0⟩
theorem nodeTo_next (f:Nat→Int) {j a b:Nat} (h:j<8) (ha:a=8+2*j) (hb:b=9+2*j):nodeC { ({ nodeTo f j with k:=fun i=>if i=j then f a else(nodeTo f j).k i }:NodeA) with p:=fun i=>if i=j then f b else(nodeTo f j).p i }=nodeC (nodeTo f (j+1)):=by
 subst ha;subst hb
 rcases(by omega:j=0∨j=1∨j=2∨j=3∨j=4∨j=5∨j=6∨j=7) with rfl | rfl | rfl | rfl | rfl | rfl | rfl | rfl<;>rfl
structure NOfI (w:World) (f:Nat→Int) (B1 j:Nat) (W:World):Prop where
 b1:Blk W B1 179 (wordsC f)
 b2:Blk W (B1+1) 77 (nodeC (nodeTo f j))
 bel:Below w.heap.size w W
theorem NOf_z (f:Nat→Int) (w:World) (hf: ∀i,U64 (f i)) (h:tagN≤f 0∧f 0≤tagN+15):
  Calls Tryz.prog 206 #[.agg (wordsC f)] w fun e w'=>e= .returned (.tuple #[.agg (nodeC (nodeOf f)),.int .i64 0])∧Below w.heap.size w w':=by
 obtain⟨W1,hW1⟩: ∃W1,W1=(w.alloc (.cells (wordsC f) 179)).alloc (.cells #[.int .i64 0,.int .u64 0,.int .u64 0,.int .u64 0,.int .u64 0,.int .u64 0,.int .u64 0,.int .u64 0,.int .u64 0,.int .u64 0,.int .u64 0,.int .u64 0,.int .u64 0,.int .u64 0,.int .u64 0,.int .u64 0,.int .u64 0,.int .u64 0,.int .u64 0,.int .u64 0,.int .u64 0] 77):=⟨_,rfl⟩
 have hb1:Below w.heap.size w W1:=by rw[hW1];exact ba (ba (Below.refl _ _) _) _
 have k1:Blk W1 w.heap.size 179 (wordsC f):=by rw[hW1];exact(Blk.new _ _ _).alloc _
 have k2:Blk W1 (w.heap.size+1) 77 (nodeC zeroN):=by
  rw[hW1]
  have:=Blk.new (w.alloc (.cells (wordsC f) 179)) 77 (nodeC zeroN)
  rw[World.size_alloc] at this
  exact this
 have c0:W1.cell? ⟨w.heap.size,0,none⟩=some (.int .u64 (f 0)):=k1.cell 0
 have HW:=hid hW1
 have HB1:=hid hb1
 have HK:=hid (⟨k1,k2⟩:_∧_)
 have HF:=hid hf
 clear hW1 hb1 hf
 have h1: ¬f 0<5495893775785918464:=by unfold tagN at h;omega
 have h2: ¬f 0>5495893775785918479:=by unfold tagN at h;omega
 have HT:=hid h
 clear h
 have c1:W1.cell? ⟨w.heap.size,1,none⟩=some (.int .u64 (f 1)):=k1.cell 1
 have c2:W1.cell? ⟨w.heap.size,2,none⟩=some (.int .u64 (f 2)):=k1.cell 2
 have c3:W1.cell? ⟨w.heap.size,3,none⟩=some (.int .u64 (f 3)):=k1.cell 3
 have c4:W1.cell? ⟨w.heap.size,4,none⟩=some (.int .u64 (f 4)):=k1.cell 4
 have d0:W1.cell? ⟨w.heap.size+1,0,none⟩=some (.int .i64 0):=k2.cell 0
 have d1:W1.cell? ⟨w.heap.size+1,1,none⟩=some (.int .u64 0):=k2.cell 1
 have d2:W1.cell? ⟨w.heap.size+1,2,none⟩=some (.int .u64 0):=k2.cell 2
 have d3:W1.cell? ⟨w.heap.size+1,3,none⟩=some (.int .u64 0):=k2.cell 3
 have d4:W1.cell? ⟨w.heap.size+1,4,none⟩=some (.int .u64 0):=k2.cell 4
 have f0:=k2.frozen 0
 have f1:=k2.frozen 1
 have f2:=k2.frozen 2
 have f3:=k2.frozen 3
 have f4:=k2.frozen 4
 clear k1 k2
 go_enter Tryz.func206,Tryz.ntmps206
 go_upto_region 1 with fail
 rw[show _=W1 from HW.out.symm]
 go_upto_region 3 with fail
 go_region
 obtain⟨B1,hB1⟩: ∃B1,B1=w.heap.size:=⟨_,rfl⟩
 have hI0:Hid (NOfI w f B1 0 ((((((W1.setCell ⟨w.heap.size+1,0,none⟩ (.int .i64 (f 0-5495893775785918464))).setCell ⟨w.heap.size+1,1,none⟩ (.int .u64 (f 1))).setCell ⟨w.heap.size+1,2,none⟩ (.int .u64 (f 2))).setCell ⟨w.heap.size+1,3,none⟩ (.int .u64 (f 3))).setCell ⟨w.heap.size+1,4,none⟩ (.int .u64 (f 4))).drew)):=by
  rw[hB1]
  have o:Only [w.heap.size+1] W1 ((((((W1.setCell ⟨w.heap.size+1,0,none⟩ (.int .i64 (f 0-5495893775785918464))).setCell ⟨w.heap.size+1,1,none⟩ (.int .u64 (f 1))).setCell ⟨w.heap.size+1,2,none⟩ (.int .u64 (f 2))).setCell ⟨w.heap.size+1,3,none⟩ (.int .u64 (f 3))).setCell ⟨w.heap.size+1,4,none⟩ (.int .u64 (f 4))).drew):=
   ((((((Only.refl _ W1).setCell (Or.inl (by simp)) _).setCell (Or.inl (by simp)) _).setCell (Or.inl (by simp)) _).setCell (Or.inl (by simp)) _).setCell (Or.inl (by simp)) _).drew
  refine⟨o.blk HK.out.1 (by simp),?_,HB1.out.trans (o.below (fun y hy=>by simp at hy;omega) HB1.out.size)⟩
  exact(((((HK.out.2.set_ 0 _).set_ 1 _).set_ 2 _).set_ 3 _).set_ 4 _).drew
 generalize((((((W1.setCell ⟨w.heap.size+1,0,none⟩ (.int .i64 (f 0-5495893775785918464))).setCell ⟨w.heap.size+1,1,none⟩ (.int .u64 (f 1))).setCell ⟨w.heap.size+1,2,none⟩ (.int .u64 (f 2))).setCell ⟨w.heap.size+1,3,none⟩ (.int .u64 (f 3))).setCell ⟨w.heap.size+1,4,none⟩ (.int .u64 (f 4))).drew)=W2 at hI0 ⊢
 have HB:=hid (show w.heap.size≤B1 by omega)
 rw[←hB1]
 clear c0 c1 c2 c3 c4 d0 d1 d2 d3 d4 f0 f1 f2 f3 f4 HW HK HB1 h1 h2
 clear hB1
 go_wp2
 go_loopw [31] (fun iv wr=> ∃j:Nat,j≤8∧iv= .int .i64 j∧Hid (NOfI w f B1 j wr)) (fun iv _=>(8- (intOf iv).toNat))
 case atStart=>exact⟨0,by omega,rfl,hI0⟩
 case round=>
  obtain⟨j,hj,rfl,hI⟩:=hrel
  by_cases hlt:j<8
  ·have i1:(j:Int)<8:=by omega
   have i0:(0:Int)≤(j:Int):=by omega
   have wj:IntKind.i64.wrap (j:Int)=(j:Int):=IntWalk.i64_in _ (by constructor<;>omega)
   have e1:IntKind.i64.wrap (2*(j:Int))=((2*j:Nat):Int):=IntWalk.i64_in _ (by constructor<;>omega)
   obtain⟨a,ha⟩: ∃a,a=8+2*j:=⟨_,rfl⟩
   obtain⟨b,hb⟩: ∃b,b=9+2*j:=⟨_,rfl⟩
   have e2:8+2*(j:Int)=(a:Int):=by omega
   have e3:9+2*(j:Int)=(b:Int):=by omega
   have a24:(a:Int)<24:=by omega
   have b24:(b:Int)<24:=by omega
   have ca:wr.cell? ⟨B1,a,none⟩=some (.int .u64 (f a)):=(hI.out.b1.cell a).trans (wordsC_at f (by omega))
   have cb:wr.cell? ⟨B1,b,none⟩=some (.int .u64 (f b)):=(hI.out.b1.cell b).trans (wordsC_at f (by omega))
   have ck:wr.cell? ⟨B1+1,5+j,none⟩=some (.int .u64 ((nodeTo f j).k j)):=(hI.out.b2.cell (5+j)).trans (nodeC_k _ hlt)
   have cp:wr.cell? ⟨B1+1,13+j,none⟩=some (.int .u64 ((nodeTo f j).p j)):=(hI.out.b2.cell (13+j)).trans (nodeC_p _ hlt)
   have fk:=hI.out.b2.frozen (5+j)
   have fp:=hI.out.b2.frozen (13+j)
   have HA:=hid (⟨ha,hb,hlt⟩:_∧_∧_)
   clear ha hb hj
   go_upto_region 7 with fail
   go_region
   have hN:Hid (NOfI w f B1 (j+1) ((wr.setCell ⟨B1+1,5+j,none⟩ (.int .u64 (f a))).setCell ⟨B1+1,13+j,none⟩ (.int .u64 (f b))).drew):=by
    have o:Only [B1+1] wr ((wr.setCell ⟨B1+1,5+j,none⟩ (.int .u64 (f a))).setCell ⟨B1+1,13+j,none⟩ (.int .u64 (f b))).drew:=(((Only.refl _ wr).setCell (Or.inl (by simp)) _).setCell (Or.inl (by simp)) _).drew
    refine⟨o.blk hI.out.b1 (by simp),?_,hI.out.bel.trans (o.below (fun y hy=>by have:=HB.out;simp at hy;omega) hI.out.bel.size)⟩
    have h1:=((hI.out.b2.set_ (5+j) (.int .u64 (f a))).set_ (13+j) (.int .u64 (f b))).drew
    rw[set_k _ HA.out.2.2,set_p _ HA.out.2.2] at h1
    rw[nodeTo_next f HA.out.2.2 HA.out.1 HA.out.2.1] at h1
    exact h1
   clear ca cb ck cp fk fp
   go_wp2
   go_roundw
   case rel=>exact⟨j+1,HA.out.2.2,by go_num,hN⟩
   case measure=>simp[intOf];have:=HA.out.2.2;omega
  ·obtain rfl:j=8:=by omega
   have i1: ¬((8:Nat):Int)<8:=by omega
   have hld:=node_ld hI.out.b2
   have hst:=node_st hI.out.b2
   have hlv:=node_lv hI.out.b2
   clear hlt hj
   go_wp2
   refine bodyPost_ret (v:= .tuple #[.agg (nodeC (nodeTo f 8)),.int .i64 0]) (results_cellv_tmp rfl _ _ _ _ _ rfl rfl hlv) rfl ?_
   exact⟨rfl,hI.out.bel⟩
end
section
open Go.RowKit
def lenF (p:Nat→Int):Nat→Nat→Nat
 | 0,i=>i
 | f+1,i=>if p i=0 then i else lenF p f (i+1)
theorem lenF_spec (p:Nat→Int): ∀f i,i≤lenF p f i∧lenF p f i≤i+f∧(∀j,i≤j→j<lenF p f i→p j≠0)∧(lenF p f i<i+f→p (lenF p f i)=0)
 | 0,i=>⟨Nat.le_refl _,Nat.le_refl _,fun j h1 h2=>by unfold lenF at h2;omega,fun h=>by unfold lenF at h;omega⟩
 | f+1,i=>by
  by_cases h0:p i=0
  ·have e:lenF p (f+1) i=i:=by unfold lenF;rw[if_pos h0]
   rw[e]
   exact⟨Nat.le_refl _,by omega,fun j h1 h2=>by omega,fun _=>h0⟩
  ·have e:lenF p (f+1) i=lenF p f (i+1):=by rw[lenF,if_neg h0]
   rw[e]
   obtain⟨h1,h2,h3,h4⟩:=lenF_spec p f (i+1)
   refine⟨by omega,by omega,fun j a b=> ?_,fun h=>h4 (by omega)⟩
   by_cases hj:j=i
   ·subst hj;exact h0
   ·exact h3 j (by omega) b
def lenN (n:NodeA):Nat:=lenF n.p 8 0
theorem lenN_le (n:NodeA):lenN n≤8:=by have:=(lenF_spec n.p 8 0).2.1;unfold lenN;omega
theorem lenN_lt (n:NodeA) {i:Nat} (h:i<lenN n):n.p i≠0:=(lenF_spec n.p 8 0).2.2.1 i (Nat.zero_le _) h
theorem lenN_at (n:NodeA) (h:lenN n<8):n.p (lenN n)=0:=(lenF_spec n.p 8 0).2.2.2 (by unfold lenN at h;omega)
def prevN (n:NodeA) (i:Nat):Int:=if i=0 then n.fi else n.p (i-1)
def isN (n:NodeA) (i:Nat):Bool:=n.p i !=prevN n i
def ptrsC (n:NodeA):Array Value:= #[.int .u64 (n.p 0),.int .u64 (n.p 1),.int .u64 (n.p 2),.int .u64 (n.p 3),.int .u64 (n.p 4),.int .u64 (n.p 5),.int .u64 (n.p 6),.int .u64 (n.p 7)]
theorem ptrsC_at (n:NodeA) {i:Nat} (h:i<8):(ptrsC n)[i]?=some (.int .u64 (n.p i)):=by
 rcases(by omega:i=0∨i=1∨i=2∨i=3∨i=4∨i=5∨i=6∨i=7) with rfl | rfl | rfl | rfl | rfl | rfl | rfl | rfl<;>rfl
theorem ptrsC_in (n:NodeA) (j:Nat) (v:Value) (h:(ptrsC n)[j]?=some v):(nodeC n)[13+j]?=some v:=by
 have hj:j<8:=(Array.getElem?_eq_some_iff.1 h).1
 rw[ptrsC_at n hj] at h
 rw[nodeC_p n hj,h]
theorem fin_list {q:Nat} (pre:List (Fin q)) (h:pre.map (·.val)=List.range q):pre=List.finRange q:=by
 have h2:(List.finRange q).map (·.val)=List.range q:=List.ext_getElem (by simp) (fun i h1 h2=>by simp)
 have:Function.Injective (fun x:Fin q=>x.val):=fun a b h=>Fin.ext h
 exact List.map_inj_right (fun a b hab=>Fin.ext hab) |>.1 (h.trans h2.symm)
theorem ptrsLoadAt (v:Value):Instr.loadAt 75 v=ldM 75 v:=rfl
theorem ptrs_ld {w:World} {b:Nat} {n:NodeA} (h:Blk w b 77 (nodeC n)):ldR Tryz.prog 75 (.pointer (some ⟨b,13,none⟩)) w= .ok (.agg (ptrsC n)) w:=
 h.ldAt 13 (ptrsC_in n) Tryz.underlying75 rfl (by kernel_rfl)
theorem ptrs_idx (n:NodeA) {i:Nat} (h:i<8) (W:World):(Instr.index 75 (.agg (ptrsC n)) (.int .i64 (i:Int))).run Tryz.prog W= .ok (.int .u64 (n.p i)) W:=by
 rcases(by omega:i=0∨i=1∨i=2∨i=3∨i=4∨i=5∨i=6∨i=7) with rfl | rfl | rfl | rfl | rfl | rfl | rfl | rfl<;>kernel_rfl
attribute [local go_sem ↓ high] nodeLoadAt nodeLoadVar nodeStoreAt ptrsLoadAt
attribute [local go_sem] ldM_run lvM_run stM_run Oper.semAt_some
theorem entries_z (n:NodeA) (w:World):
  Calls Tryz.prog 182 #[.agg (nodeC n)] w fun e w'=>e= .returned (.func (.func 192) #[] #[.pointer (some ⟨w.heap.size,0,none⟩)])∧Blk w' w.heap.size 77 (nodeC n)∧Below w.heap.size w w':=by
 have hmf: ∀(fn:Fn) (first cap:Array Value) (w:World),(Instr.makeFunc fn first cap).run Tryz.prog w= .ok (.func fn first cap) w:=fun _ _ _ _=>rfl
 go_enter Tryz.func182,Tryz.ntmps182
 go_wp2
 go_ret
 exact⟨rfl,Blk.new _ _ _,ba (Below.refl _ _) _⟩
theorem Ent_in (m:Nat) (n:NodeA) (F:List Nat) (N0 l B:Nat) (J Jx:List (Fin (lenN n))→World→Prop) (W:World) (hB:B<N0) (hB':B∉F) (hN:N0≤W.heap.size)
  (hJ:AbidesFrom W.heap.size J)
  (hY: ∀pre (x:Fin (lenN n)) W1,J pre W1→pre.length<lenN n→YieldAt Fence.wide (m-1) Tryz.prog l #[.int .i64 (x.val:Int),.bool (isN n x.val)] W1 fun e W'=>
   (e= .returned (.bool true)∧J (pre++[x]) W'∧KeepN F N0 W1 W')∨(e= .returned (.bool false)∧Jx (pre++[x]) W'))
  (hs:Blk W B 77 (nodeC n)) (h0:J [] W):
  CallsIn Fence.wide m Tryz.prog 192 #[.func (.yield l) #[] #[],.pointer (some ⟨B,0,none⟩)] W fun e W'=>(∃v,e= .returned v)∧
   ((∃ys,ys=List.finRange (lenN n)∧J ys W')∨(∃pre,True∧Jx pre W')):=by
 refine callsIn_of_wp Tryz.func192 rfl trivial ?_ rfl
 simp only[Tryz.ntmps192,List.size_toArray,List.length_cons,List.length_nil,Nat.reduceAdd,Nat.reduceSub,Array.replicate_succ,Array.replicate_zero,List.push_toArray,List.append_toArray,List.nil_append,List.cons_append]
 have HY:=hid hY
 have HB:=hid (⟨hB,hB',hN⟩:_∧_∧_)
 have c4:W.cell? ⟨B,4,none⟩=some (.int .u64 n.fi):=hs.cell 4
 have hld:=ptrs_ld hs
 have hp0:n.fi=prevN n 0:=rfl
 clear hY hB hB' hN hs
 gi_wp2_with fail
 clear c4 hld hp0
 gi_loopw [10,3] (fun iv av wr=> ∃k:Nat,k≤lenN n∧iv= .int .i64 (k:Nat)∧av= .int .u64 (prevN n k)∧ ∃pre:List (Fin (lenN n)),pre.map (·.val)=List.range k∧Hid (J pre wr)∧Hid (KeepN F N0 W wr)) (fun iv _ _=>(lenN n- (intOf iv).toNat))
 case atStart=>exact⟨0,by omega,rfl,rfl,[],rfl,h0,KeepN.refl _ _ _⟩
 case round=>
  obtain⟨i,hi,rfl,rfl,pre,hpl,hJi,hK⟩:=hrel
  have hsz:(ptrsC n).size=8:=rfl
  have hl8:=lenN_le n
  by_cases h8:i<8
  ·have i2:decide ((i:Int)<8)=true:=decide_eq_true (by omega)
   have i2':(i:Int)<8:=by omega
   have i1:(0:Int)≤(i:Int):=by omega
   have i3:IntKind.i64.wrap ((i:Int)+1)=(i:Int)+1:=IntWalk.i64_in _ (by omega)
   have hix:=ptrs_idx n h8 wr
   by_cases hlt:i<lenN n
   ·have hne:=lenN_lt n hlt
    have hb0:(n.p i==0)=false:=by simpa using hne
    obtain⟨fn,tmps,assign,body,hy,hR⟩:=HY.out pre (⟨i,hlt⟩:Fin (lenN n)) wr hJi.out (by have:=congrArg List.length hpl;simp at this;omega)
    have HR:=hid hR
    have hbn:(n.p i !=prevN n i)=isN n i:=rfl
    have hy':(Instr.yield l #[.int .i64 (i:Int),.bool (isN n i)]).run Tryz.prog wr= .ok (.round l fn tmps assign body) wr:=hy
    obtain⟨pr,hpr⟩: ∃pr,pr=prevN n i:=⟨_,rfl⟩
    rw[←hpr] at hbn ⊢
    clear hR hy hpr
    gi_wp2
    refine⟨fun h=>by simp[Fence.wide] at h,HR.out.mono ?_⟩
    rintro e' W5 (⟨rfl,hJ5,hk5⟩ | ⟨rfl,hJx5⟩)
    ·have hK5:=hid (hK.out.trans hk5)
     have HJ5:=hid hJ5
     have hpv:n.p i=prevN n (i+1):=rfl
     clear hJ5 hk5 hy' hix
     gi_wp2
     go_roundw
     case rel=>exact⟨i+1,hlt,by go_num,rfl,pre++[⟨i,hlt⟩],by rw[List.map_append,hpl,List.range_succ];rfl,HJ5,hK5⟩
     case measure=>simp[intOf];omega
    ·have HJx:=hid hJx5
     clear hJx5 hy' hix
     gi_wp2
     refine bodyPost_ret (results_none rfl _ _ _) rfl ?_
     exact⟨⟨_,rfl⟩,.inr ⟨_,trivial,HJx.out⟩⟩
   ·obtain rfl:i=lenN n:=by omega
    have h0:=lenN_at n h8
    have hb0:(n.p (lenN n)==0)=true:=by simpa using h0
    clear hlt
    gi_wp2
    refine⟨by simp,?_⟩
    gi_wp2
    refine bodyPost_ret (results_none rfl _ _ _) rfl ?_
    exact⟨⟨_,rfl⟩,.inl ⟨pre,fin_list pre hpl,hJi.out⟩⟩
  ·have h8':i=8:=by omega
   have hl:lenN n=i:=by omega
   have i2:decide ((i:Int)<8)=false:=decide_eq_false (by omega)
   gi_wp2
   go_end0
   rw[←hl] at hpl
   exact⟨⟨_,rfl⟩,.inl ⟨pre,fin_list pre hpl,hJi.out⟩⟩
theorem Ent_stops (m:Nat) (n:NodeA) (F:List Nat) (N0 B:Nat) (w:World) (hB:B<N0) (hB':B∉F) (hN:N0≤w.heap.size) (hs:Blk w B 77 (nodeC n)):
  SeqStopsK Fence.wide m Tryz.prog 192 #[.pointer (some ⟨B,0,none⟩)] (fun x:Fin (lenN n)=> #[.int .i64 (x.val:Int),.bool (isN n x.val)]) (KeepN F N0) (fun ys=>ys=List.finRange (lenN n)) (fun _=>True) (lenN n) w:=by
 intro l J Jx W hW hJ _ hY h0
 exact Ent_in m n F N0 l B J Jx W hB hB' (Nat.le_trans hN hW.size) hJ hY (hs.bel hW) h0
end
section
open Go.RowKit Go.Shelf
attribute [local go_sem ↓ high] nodeLoadAt nodeLoadVar nodeStoreAt ptrsLoadAt
attribute [local go_sem] ldM_run lvM_run stM_run Oper.semAt_some
theorem infoInt:(Tryz.prog.info? 3).map (fun i=>(i.zero,i.size,i.bytes))=some (some (.int .i64 0),1,8):=by kernel_rfl
theorem app_int (N:Nat) (W:World) (x:Value) (l news:List Value) (v:Value) (hx:NewsAt W x news.length news) (h1: ∀u∈news,u.oneCell'=true) (hm:l.length+news.length≤2000000) (hN:N≤W.heap.size) (hr:W.ownsRow N 3 1 v l.length l):
  ∃v' w',appRun2 Tryz.prog #[54,54] 54 #[v,x] W= .ok v' w'∧w'.ownsRow N 3 1 v' (l++news).length (l++news)∧W.grownBy w' v.ownBlock∧(v'.ownBlock=v.ownBlock∨v'.ownBlock=some W.heap.size):=by
 obtain⟨i0,hi0,hz0,hz1,hz2⟩:=info_parts infoInt
 obtain⟨v',w',h⟩:=run_app (P:=Tryz.prog) W N 54 54 3 i0 (.int .i64 0) 1 8 Tryz.underlying54 hi0 hz0 hz1 hz2 rfl (by decide) v l.length _ hr x news.length _ hx (by simp) h1 (by unfold maxLen;omega) (by omega) hN
 refine⟨v',w',h.run,?_,h.grown,h.ob⟩
 rw[List.length_append]
 exact h.own
def placesN (n:NodeA):List Nat:=(List.range (lenN n)).filter (isN n)
structure PlcJ (n:NodeA) (w:World) (N2 kb:Nat) (pre:List (Fin (lenN n))) (W:World):Prop where
 sz:N2≤W.heap.size
 row: ∃v,Blk W kb 54 #[v]∧W.ownsRow w.heap.size 3 1 v ((pre.filter fun x=>isN n x.val).length) ((pre.filter fun x=>isN n x.val).map fun x=> .int .i64 (x.val:Int))∧ ∀b,v.ownBlock=some b→N2≤b
 bel:Below w.heap.size w W
attribute [local go_sem ↓ high] append_shut2
attribute [local go_sem] appM2_run
theorem Places_in (n:NodeA) (w:World):
  CallsIn Fence.wide 3 Tryz.prog 155 #[.agg (nodeC n)] w fun e W'=> ∃v,e= .returned v∧W'.ownsRow w.heap.size 3 1 v (placesN n).length ((placesN n).map fun i:Nat=> .int .i64 (i:Int))∧Below w.heap.size w W':=by
 refine callsIn_of_wp_marks Tryz.func155 rfl trivial ?_ rfl
 simp only[Tryz.ntmps155,List.size_toArray,List.length_cons,List.length_nil,Nat.reduceAdd,Nat.reduceSub,Array.replicate_succ,Array.replicate_zero,List.push_toArray,List.append_toArray,List.nil_append,List.cons_append]
 obtain⟨W1,hW1⟩: ∃W1,W1=(w.alloc (.cells (nodeC n) 77)).alloc (.cells #[.slice none 0 0] 54):=⟨_,rfl⟩
 have k1:Blk W1 w.heap.size 77 (nodeC n):=by rw[hW1];exact(Blk.new _ _ _).alloc _
 have k2:Blk W1 (w.heap.size+1) 54 #[.slice none 0 0]:=by
  rw[hW1]
  have:=Blk.new (w.alloc (.cells (nodeC n) 77)) 54 #[.slice none 0 0]
  rw[World.size_alloc] at this
  exact this
 have hb1:Below w.heap.size w W1:=by rw[hW1];exact ba (ba (Below.refl _ _) _) _
 have hld:=node_ld k1
 have HE:=hid (entries_z n W1)
 have HW:=hid hW1
 have HK:=hid (⟨k1,k2,hb1⟩:_∧_∧_)
 have hW1':=hW1
 clear k1 k2 hb1 hW1
 rw[hW1'] at hld
 gi_wp2_with fail
 rw[←HW.out]
 refine⟨trivial,(callsIn_wide.2 HE.out).mono ?_⟩
 rintro e W2 ⟨rfl,e1,e2⟩
 have HE2:=hid (⟨e1,e2⟩:_∧_)
 have hs1:W1.heap.size=w.heap.size+2:=by rw[HW.out];simp
 have hJ0:Hid (PlcJ n w W2.heap.size (w.heap.size+1) [] W2):=⟨Nat.le_refl _,⟨.slice none 0 0,HK.out.2.1.bel e2,World.ownsRow_nil _ _ _ _,fun b hb=>by simp[Value.ownBlock] at hb⟩,HK.out.2.2.trans (e2.mono HK.out.2.2.size)⟩
 have HS:=hid (Ent_stops 2 n [w.heap.size+1] W2.heap.size W1.heap.size W2 (e1.lt) (by simp;omega) (Nat.le_refl _) e1)
 have HZ:=hid (⟨hs1,e2.size,e1.lt⟩:_∧_∧_)
 clear e1 e2 hld hs1 HE
 gi_wp2_with fail
 have e12:w.heap.size+1+1=W1.heap.size:=by have:=HZ.out.1;omega
 rw[e12]
 obtain⟨D0,hD0⟩: ∃D0,D0=W1.heap.size:=⟨_,rfl⟩
 rw[←hD0] at HS ⊢
 refine wpIn_rangeFunc_ownG rfl (by omega) (gf:=192) (lb:= #[.pointer (some ⟨D0,0,none⟩)]) rfl trivial (enters_of Tryz.func192 (by kernel_rfl) rfl)
  HS.out KeepN.trans ?hKb (Below.refl _ _) (fun _=>rfl)
  (fun pre=>PlcJ n w W2.heap.size (w.heap.size+1) pre) (fun _ _ _=>False) ?own (fun _ _ _ _ _ h _ _=>h)
  hJ0.out
  (fun x:Fin (lenN n)=>{ tmps:= #[.agg (nodeC n),.pointer (some ⟨w.heap.size,0,none⟩),.pointer (some ⟨w.heap.size+1,0,none⟩),.int .i64 (x.val:Int),.bool (isN n x.val),.agg (nodeC n),.func (.func 192) #[] #[.pointer (some ⟨D0,0,none⟩)],.int .i64 (x.val:Int),.bool (isN n x.val),undef,undef,undef,undef,undef,undef],defers:=[] }) ?assign ?body ?done ?stop
 case hKb=>
  intro W l o o' hl ho hc hw
  exact(KeepN.refl _ _ W).putObj (by omega) o'
 case own=>
  intro s W W' row hs hg hrow
  have ho:Only row.toList W W':=Only.of_grown hg (fun k hk=>by simp[hk])
  have far: ∀k∈row.toList,w.heap.size+1<k:=fun k hk=>by
   have:=(hrow k (by simpa using hk)).1
   have:=HZ.out
   omega
  obtain⟨v,h1,h2,h3⟩:=hs.row
  exact⟨Nat.le_trans hs.sz ho.size,⟨v,ho.blk h1 (fun hm=>by have:=far _ hm;omega),own_keep h2 hg (fun r hr=>(hrow r hr).2),h3⟩,hs.bel.trans (ho.below (fun k hk=>by have:=far k hk;omega) hs.bel.size)⟩
 case assign=>
  intro l x W K' hK
  refine act_eq (K:=fun a W=>Code.wpIn _ _ _ _ _ a W) (t:= #[.agg (nodeC n),.pointer (some ⟨w.heap.size,0,none⟩),.pointer (some ⟨w.heap.size+1,0,none⟩),undef,undef,.agg (nodeC n),.func (.func 192) #[] #[.pointer (some ⟨D0,0,none⟩)],.int .i64 (x.val:Int),.bool (isN n x.val),undef,undef,undef,undef,undef,undef]) ?_ (by kernel_rfl)
  gi_wp2
  exact hK
 case body=>
  rintro l pre x W hI hlt
  obtain⟨v,h1,h2,h3⟩:=hI.row
  have c0:W.cell? ⟨w.heap.size+1,0,none⟩=some v:=h1.cell 0
  have f0:=h1.frozen 0
  have HI:=hid (⟨hI,h1,h2,h3⟩:_∧_∧_∧_)
  clear hI h1 h2 h3
  cases hb:isN n x.val
  ·gi_wp2_with fail
   refine⟨KeepsFrom.refl _ _,KeepN.refl _ _ _,HI.out.1.sz,?_,HI.out.1.bel⟩
   have e:(pre++[x]).filter (fun x=>isN n x.val)=pre.filter (fun x=>isN n x.val):=by
    rw[List.filter_append,List.filter_cons_of_neg (by rw[hb];decide)];simp
   rw[e]
   exact HI.out.1.row
  ·obtain⟨v',W9,hrun,hown,hgr,hob⟩:=app_int w.heap.size (W.alloc (.cells #[.int .i64 (x.val:Int)] 3)) (.slice (some ⟨W.heap.size,0,none⟩) 1 1) _ [.int .i64 (x.val:Int)] v (Or.inr ⟨W.heap.size,0,1,rfl,fun j u hj=>by
    rw[(Blk.new W 3 #[.int .i64 (x.val:Int)]).cell (0+j),Nat.zero_add];simpa using hj⟩) (fun u hu=>by rw[List.mem_singleton.1 hu];rfl) (by have:=lenN_le n;have:=List.length_filter_le (fun x:Fin (lenN n)=>isN n x.val) pre;simp;omega) (by have:=HI.out.1.bel.size;simp;omega) ((by simpa using HI.out.2.2.1:W.ownsRow w.heap.size 3 1 v ((pre.filter fun x=>isN n x.val).map fun x=>Value.int .i64 (x.val:Int)).length _).alloc _)
   obtain⟨va,vc,rfl⟩:=row_form1 hown
   have o9:Only v.ownBlock.toList (W.alloc (.cells #[.int .i64 (x.val:Int)] 3)) W9:=Only.of_grown hgr (fun k hk=>by simp[hk])
   have oW:Only v.ownBlock.toList W W9:=((Only.refl _ W).alloc _).trans o9 (fun k hk=>Or.inl hk)
   have hfar: ∀k∈v.ownBlock.toList,W2.heap.size≤k:=fun k hk=>HI.out.2.2.2 k (by simpa using hk)
   have hZ:=HZ.out
   have b9:Blk W9 (w.heap.size+1) 54 #[v]:=oW.blk HI.out.2.1 (fun hm=>by have:=hfar _ hm;omega)
   have c9:W9.cell? ⟨w.heap.size+1,0,none⟩=some v:=b9.cell 0
   have f9:=b9.frozen 0
   have HA:=hid (⟨hown,hgr,hob,oW,hfar,b9⟩:_∧_∧_∧_∧_∧_)
   clear hown hgr hob o9 oW hfar b9
   gi_wp2_with fail
   obtain⟨V,hV⟩: ∃V,V=W9.setCell ⟨w.heap.size+1,0,none⟩ (.slice va ((pre.filter fun x=>isN n x.val).length+1) vc):=⟨_,rfl⟩
   have oV:Only [w.heap.size+1] W9 V:=by rw[hV];exact(Only.refl _ _).setCell (Or.inl (by simp)) _
   have bV:Blk V (w.heap.size+1) 54 #[.slice va ((pre.filter fun x=>isN n x.val).length+1) vc]:=by rw[hV];exact HA.out.2.2.2.2.2.set_ 0 _
   have hZ:=HZ.out
   have o1:Only ((w.heap.size+1)::v.ownBlock.toList) W V:=(HA.out.2.2.2.1.mono (fun k hk=>List.mem_cons_of_mem _ hk)).trans oV (fun k hk=>Or.inl (by simp at hk;simp[hk]))
   have e:(pre++[x]).filter (fun x=>isN n x.val)=pre.filter (fun x=>isN n x.val)++[x]:=by
    rw[List.filter_append,List.filter_cons_of_pos (by rw[hb])];simp
   have hown:=HA.out.1
   rw[←hV]
   refine⟨⟨o1.size,fun i o hB hi hno=>(o1.block i (Array.getElem?_eq_some_iff.1 hi).1 (fun hm=> ?_)).trans hi⟩,⟨o1.size,fun k hk hn=>o1.block k (Nat.lt_of_lt_of_le hk HI.out.1.sz) (fun hm=> ?_)⟩,Nat.le_trans HI.out.1.sz o1.size,⟨_,bV,?_,fun k hk=> ?_⟩,HI.out.1.bel.trans (o1.below (fun k hk=> ?_) HI.out.1.bel.size)⟩
   ·rcases List.mem_cons.1 hm with h | h
    ·omega
    ·obtain⟨cs,t,fr,hc⟩:=own_cells HI.out.2.2.1 i (by simpa using h)
     rw[hc] at hi
     injection hi with hi
     subst hi
     cases hno
   ·rcases List.mem_cons.1 hm with h | h
    ·exact hn (by simp[h])
    ·have:=HA.out.2.2.2.2.1 k h;omega
   ·rw[e]
    have h9:=oV.own hown (fun k hk hm=>by
     have h1:k=w.heap.size+1:=by simpa using hm
     rcases HA.out.2.2.1 with h2 | h2
     ·rw[h2] at hk
      have:=HI.out.2.2.2 k hk
      omega
     ·rw[h2] at hk
      injection hk with hk
      have h3:=HI.out.1.sz
      have h4:(W.alloc (.cells #[.int .i64 (x.val:Int)] 3)).heap.size=W.heap.size+1:=World.size_alloc _ _
      omega)
    simpa using h9
   ·have hk':(Value.slice va ((List.map (fun x:Fin (lenN n)=>Value.int .i64 (x.val:Int)) (List.filter (fun x=>isN n x.val) pre)).length+1) vc).ownBlock=some k:=by simpa using hk
    rcases HA.out.2.2.1 with h2 | h2
    ·have h3:v.ownBlock=some k:=by rw[←h2];simpa using hk
     exact HI.out.2.2.2 k h3
    ·have h3:some (W.alloc (.cells #[.int .i64 (x.val:Int)] 3)).heap.size=some k:=by rw[←h2];simpa using hk
     injection h3 with h3
     have h4:(W.alloc (.cells #[.int .i64 (x.val:Int)] 3)).heap.size=W.heap.size+1:=World.size_alloc _ _
     have h5:=HI.out.1.sz
     omega
   ·rcases List.mem_cons.1 hk with h | h
    ·omega
    ·have:=HA.out.2.2.2.2.1 k h;omega
 case done=>
  rintro D xs W hD hxs hI hK
  obtain⟨v,h1,h2,h3⟩:=hI.row
  have c0:W.cell? ⟨w.heap.size+1,0,none⟩=some v:=h1.cell 0
  have f0:=h1.frozen 0
  obtain⟨va,vc,rfl⟩:=row_form1 h2
  have hpl:(xs.filter fun x=>isN n x.val).map (·.val)=placesN n:=by
   rw[hxs]
   unfold placesN
   have e:List.range (lenN n)=(List.finRange (lenN n)).map (·.val):=List.ext_getElem (by simp) (fun i h1 h2=>by simp)
   rw[e,List.filter_map];rfl
  have HX:=hid (⟨hD,hI,hK,hpl,h1,h2,h3⟩:_∧_∧_∧_∧_∧_∧_)
  clear hD hI hK hxs hpl h1 h2 h3
  gi_wp2_with fail
  obtain⟨W',hW'⟩: ∃W',W'=W.setCell ⟨w.heap.size+1,0,none⟩ (.slice va (xs.filter fun x=>isN n x.val).length vc):=⟨_,rfl⟩
  have oW:Only [w.heap.size+1] W W':=by rw[hW'];exact(Only.refl _ _).setCell (Or.inl (by simp)) _
  have hb':Blk W' (w.heap.size+1) 54 #[.slice va (xs.filter fun x=>isN n x.val).length vc]:=by rw[hW'];exact HX.out.2.2.2.2.1.set_ 0 _
  have hDl:=(Array.getElem?_eq_some_iff.1 HX.out.2.2.1).1
  have hZ:=HZ.out
  have hD:=HX.out.1
  have hK9:W'.heap[D]?=some (.deferred (some [])):=(oW.block D hDl (by simp;omega)).trans HX.out.2.2.1
  have o2:Only [D] W' (W'.putObj D (.deferred none)):=Only.putObj (Only.refl _ _) (Or.inl (by simp)) _
  have hc2:(W'.putObj D (.deferred none)).cell? ⟨w.heap.size+1,0,none⟩=some (.slice va (xs.filter fun x=>isN n x.val).length vc):=(o2.blk hb' (by simp;omega)).cell 0
  have hbel:Below w.heap.size w (W'.putObj D (.deferred none)):=(HX.out.2.1.bel.trans (oW.below (fun k hk=>by simp at hk;omega) HX.out.2.1.bel.size)).trans (o2.below (fun k hk=>by simp at hk;omega) (Nat.le_trans HX.out.2.1.bel.size oW.size))
  have hown:(W'.putObj D (.deferred none)).ownsRow w.heap.size 3 1 (.slice va (xs.filter fun x=>isN n x.val).length vc) (placesN n).length ((placesN n).map fun i:Nat=> .int .i64 (i:Int)):=by
   have h9:=(oW.own HX.out.2.2.2.2.2.1 (fun k hk hm=>by have:=HX.out.2.2.2.2.2.2 k hk;simp at hm;omega))
   have h10:=own_keep (row:=some D) h9 ⟨o2.os,o2.tape,o2.output,o2.size,fun k hk hn=>o2.block k hk (fun hm=>hn (by simp at hm;simp[hm]))⟩ (fun r hr=>⟨.deferred (some []),by injection hr with hr;subst hr;exact hK9,rfl⟩)
   have e1:(placesN n).length=(xs.filter fun x=>isN n x.val).length:=by rw[←HX.out.2.2.2.1,List.length_map]
   rw[e1,←HX.out.2.2.2.1,List.map_map]
   exact h10
  rw[←hW']
  refine postM_ret (.slice va (xs.filter fun x=>isN n x.val).length vc) hK9 ?_ ⟨_,rfl,hown,hbel⟩
  clear hW' oW hK9 o2 hb' hbel hown
  simp[results,Tryz.results155,go_sem,hc2]
 case stop=>rintro D c0 pre W hD hpre h hK;exact h.elim
theorem NPlaces_z (n:NodeA) (w:World):Calls Tryz.prog 155 #[.agg (nodeC n)] w fun e W'=> ∃v,e= .returned v∧W'.ownsRow w.heap.size 3 1 v (placesN n).length ((placesN n).map fun i:Nat=> .int .i64 (i:Int))∧Below w.heap.size w W':=callsIn_wide.1 (Places_in n w)
end
section
open Go.RowKit
attribute [local go_sem ↓ high] nodeLoadAt nodeLoadVar nodeStoreAt ptrsLoadAt append_shut2
attribute [local go_sem] ldM_run lvM_run stM_run Oper.semAt_some appM2_run
def entC (x:Int×Int):List Value:=[.int .u64 x.1,.int .u64 x.2]
def validN (n:NodeA):List (Int×Int):=(placesN n).map fun i=>(n.k i,n.p i)
theorem infoEnt:(Tryz.prog.info? 130).map (fun i=>(i.zero,i.size,i.bytes))=some (some (.agg #[.int .u64 0,.int .u64 0]),2,16):=by kernel_rfl
theorem app_ent (N:Nat) (W:World) (x:Value) (l:List Value) (n:Nat) (hn:l.length=2*n) (k p:Int) (v:Value) (hx:NewsAt W x 1 [.int .u64 k,.int .u64 p]) (hm:n+1≤2000000) (hN:N≤W.heap.size) (hr:W.ownsRow N 130 2 v n l):
  ∃v' w',appRun2 Tryz.prog #[131,131] 131 #[v,x] W= .ok v' w'∧w'.ownsRow N 130 2 v' (n+1) (l++[.int .u64 k,.int .u64 p])∧W.grownBy w' v.ownBlock∧(v'.ownBlock=v.ownBlock∨v'.ownBlock=some W.heap.size):=by
 obtain⟨i0,hi0,hz0,hz1,hz2⟩:=info_parts infoEnt
 obtain⟨v',w',h⟩:=run_app (P:=Tryz.prog) W N 131 131 130 i0 (.agg #[.int .u64 0,.int .u64 0]) 2 16 Tryz.underlying131 hi0 hz0 hz1 hz2 rfl (by decide) v n _ hr x 1 _ hx (by simp) (fun u hu=>by
  simp at hu
  rcases hu with rfl | rfl<;>rfl) (by unfold maxLen;omega) (by omega) hN
 exact⟨v',w',h.run,h.own,h.grown,h.ob⟩
theorem entL_len (l:List (Int×Int)):(l.flatMap entC).length=2*l.length:=by
 induction l with
 | nil=>rfl
 | cons x l ih=>rw[List.flatMap_cons,List.length_append,ih,List.length_cons];show 2+_=_;omega
theorem places_lt (n:NodeA): ∀i∈placesN n,i<8:=fun i hi=>by
 unfold placesN at hi
 have:=(List.mem_filter.1 hi).1
 rw[List.mem_range] at this
 have:=lenN_le n
 omega
theorem places_len (n:NodeA):(placesN n).length≤8:=by
 unfold placesN
 refine Nat.le_trans (List.length_filter_le _ _) ?_
 rw[List.length_range]
 exact lenN_le n
structure ValI (n:NodeA) (w:World) (w2:World) (nb k:Nat) (v:Value) (W:World):Prop where
 row:W.ownsRow w.heap.size 130 2 v k (((validN n).take k).flatMap entC)
 new: ∀b,v.ownBlock=some b→w2.heap.size≤b
 bel:Below w2.heap.size w2 W
theorem NValid_z (n:NodeA) (w:World):
  Calls Tryz.prog 147 #[.agg (nodeC n)] w fun e W'=> ∃v,e= .returned v∧W'.ownsRow w.heap.size 130 2 v (validN n).length ((validN n).flatMap entC)∧Below w.heap.size w W':=by
 obtain⟨W1,hW1⟩: ∃W1,W1=w.alloc (.cells (nodeC n) 77):=⟨_,rfl⟩
 have k1:Blk W1 w.heap.size 77 (nodeC n):=by rw[hW1];exact Blk.new _ _ _
 have hb1:Below w.heap.size w W1:=by rw[hW1];exact ba (Below.refl _ _) _
 have hld:=node_ld k1
 have HP:=hid (NPlaces_z n W1)
 have HW:=hid hW1
 have HK:=hid (⟨k1,hb1⟩:_∧_)
 rw[hW1] at hld
 clear k1 hb1 hW1
 go_enter Tryz.func147,Tryz.ntmps147
 go_wp2_with fail
 rw[←HW.out]
 refine HP.out.mono ?_
 rintro e w2 ⟨v,rfl,hrow,hb2⟩
 obtain⟨va,vc,rfl⟩:=row_form1 hrow
 have hnum:NumsAt .i64 w2 (.slice va (placesN n).length vc) ((placesN n).map fun i:Nat=>(i:Int)):=NumsAt.of_own (by rw[List.length_map,List.map_map];exact hrow)
 obtain⟨va',vc',hv',hcl⟩:=hnum
 rw[List.length_map] at hv'
 injection hv' with hv1 hv2 hv3
 subst hv1
 have kb:=HK.out.1.bel hb2
 have HC:=hid (⟨hcl,kb,HK.out.2.trans (hb2.mono HK.out.2.size),hb2⟩:_∧_∧_∧_)
 obtain⟨q,hq⟩: ∃q,q=(placesN n).length:=⟨_,rfl⟩
 have hq8:q≤8:=by rw[hq];exact places_len n
 rw[←hq]
 have HQ:=hid hq
 have HI0:Hid (ValI n w w2 w.heap.size 0 (.slice none 0 0) w2):=⟨World.ownsRow_nil _ _ _ _,fun b hb=>by simp[Value.ownBlock] at hb,Below.refl _ _⟩
 clear hrow hb2 hcl kb hq hld HP
 go_wp2
 go_loopw [2,8] (fun rv iv wr=> ∃k:Nat,k≤q∧iv= .int .i64 k∧Hid (ValI n w w2 w.heap.size k rv wr)) (fun _ iv _=>(q- (intOf iv).toNat))
 case atStart=>exact⟨0,by omega,rfl,HI0⟩
 case round=>
  obtain⟨k,hk,rfl,hI⟩:=hrel
  by_cases hlt:k<q
  ·have i1:(k:Int)< (q:Int):=by omega
   have i0:(0:Int)≤(k:Int):=by omega
   have hkp:k< (placesN n).length:=by rw[←HQ.out];exact hlt
   obtain⟨i,hi⟩: ∃i,(placesN n)[k]?=some i:=⟨_,List.getElem?_eq_getElem hkp⟩
   have hi8:i<8:=places_lt n i (List.mem_of_getElem? hi)
   obtain⟨g,off,hva,hgl,hcl⟩:=HC.out.1.resolve_left (fun e=>by have h:=congrArg List.length e;simp at h;rw[h] at hi;simp at hi)
   subst hva
   have ci:wr.cell? ⟨g,off+k,none⟩=some (.int .i64 (i:Nat)):=(hI.out.bel.cell (p:=⟨g,off+k,none⟩) hgl).trans (hcl k _ (by rw[List.getElem?_map,hi];rfl))
   have kb:=HC.out.2.1.bel hI.out.bel
   obtain⟨W5,hW5⟩: ∃W5,W5=(wr.alloc (.cells #[.int .u64 (n.k i),.int .u64 (n.p i)] 130)).drew:=⟨_,rfl⟩
   have o5:Only [] wr W5:=by rw[hW5];exact((Only.refl [] wr).alloc _).drew
   have c1:wr.cell? ⟨w.heap.size,5+i,none⟩=some (.int .u64 (n.k i)):=(kb.cell _).trans (nodeC_k n hi8)
   have c2:wr.cell? ⟨w.heap.size,13+i,none⟩=some (.int .u64 (n.p i)):=(kb.cell _).trans (nodeC_p n hi8)
   have j0:(0:Int)≤(i:Int):=by omega
   have j8:(i:Int)<8:=by omega
   have hvl:((validN n).take k).length=k:=by rw[List.length_take];unfold validN;rw[List.length_map];omega
   obtain⟨v',w9,hrun,hown,hgr,hob⟩:=app_ent w.heap.size W5 (.slice (some ⟨wr.heap.size,0,none⟩) 1 1) _ k (by rw[entL_len,hvl]) (n.k i) (n.p i) _ (Or.inr ⟨wr.heap.size,0,1,rfl,fun j u hj=>by
    rw[hW5,((Blk.new wr 130 #[.int .u64 (n.k i),.int .u64 (n.p i)]).drew).cell (0+j),Nat.zero_add];simpa using hj⟩) (by omega) (by have:=o5.size;have:=HC.out.2.2.1.size;have:=hI.out.bel.size;omega) (o5.own hI.out.row (by simp))
   obtain⟨a9,d9,rfl⟩:=row_form1 hown
   have HN:=hid (⟨hown,hgr,hob,o5,hi,hkp⟩:_∧_∧_∧_∧_∧_)
   rw[hW5] at hrun
   clear hown hgr hob o5 hi hkp hcl
   go_upto_region 4 with fail
   go_region
   have oW:Only (u2.ownBlock.toList) wr w9:=(HN.out.2.2.2.1.mono (fun _ h=>by cases h)).trans (Only.of_grown HN.out.2.1 (fun k hk=>by simp[hk])) (fun k hk=>Or.inl hk)
   have hI1:Hid (ValI n w w2 w.heap.size (k+1) (.slice a9 (k+1) d9) w9):=by
    refine⟨?_,fun b hb=> ?_,hI.out.bel.trans (oW.below (fun y hy=>hI.out.new y (by simpa using hy)) hI.out.bel.size)⟩
    ·have e:(validN n).take (k+1)=(validN n).take k++[(n.k i,n.p i)]:=by
      rw[List.take_add_one]
      have:(validN n)[k]?=some (n.k i,n.p i):=by unfold validN;rw[List.getElem?_map,HN.out.2.2.2.2.1];rfl
      rw[this];rfl
     rw[e,List.flatMap_append]
     exact HN.out.1
    ·rcases HN.out.2.2.1 with h | h
     ·exact hI.out.new b (h▸hb)
     ·rw[h] at hb
      injection hb with hb
      have h1:=HN.out.2.2.2.1.size
      have h2:=hI.out.bel.size
      omega
   have HLT:=hid hlt
   clear hrun oW ci c1 c2 hlt
   go_wp2
   go_roundw
   case rel=>exact⟨k+1,HLT.out,by go_num,hI1⟩
   case measure=>simp[intOf];have:=HLT.out;omega
  ·obtain rfl:k=q:=by omega
   have i1: ¬(k:Int)< (k:Int):=by omega
   clear hlt hk
   go_wp2
   go_ret
   have hl:(validN n).length=k:=by unfold validN;rw[List.length_map,HQ.out]
   have hr:=hI.out.row
   rw[List.take_of_length_le (by omega)] at hr
   exact⟨_,rfl,by rw[hl];exact hr,HC.out.2.2.1.trans (hI.out.bel.mono HC.out.2.2.1.size)⟩
end
end Go.Proofs.YtjmaicckkkdjpaaGreat
