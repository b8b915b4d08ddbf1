import Derived.Deep.AppendLies
import Derived.Deep.RegionHeld3
import Derived.Deep.QuietTactic
import Derived.BigQuiet
import Derived.RangeFuncNested
import Derived.RangeFuncBound
import Derived.RangeFuncCalls
import Derived.RangeFuncLeaves
import Derived.RangeFuncBox
import Derived.Shelf.Abstract
import Derived.Shelf.RegionOpen
import Derived.OwnWalkIn
import Derived.TacticsInMore
import Derived.LoopNIn
import Derived.LoopIn
import Derived.Maps.OwnIn
import Derived.Maps.AppendAt
import Derived.Test.YtjmaicckkkdjpaaGreatF38
set_option linter.unusedVariables false
set_option linter.unusedSimpArgs false
/- slices.Insert of one pair, slices.Delete of one, slices.Clone, slices.Equal, at []api.Pair. -/
namespace Go.Proofs.YtjmaicckkkdjpaaGreat
open Go.RowKit
theorem infoPair:(Tryz.prog.info? 96).map (fun i=>(i.zero,i.size,i.bytes))=some (some (.agg #[.int .u64 0,.string ⟨#[]⟩]),2,24):=by kernel_rfl
end Go.Proofs.YtjmaicckkkdjpaaGreat
/- slices.Delete of one pair, slices.Clone, slices.Equal at []api.Pair. -/
namespace Go.Proofs.YtjmaicckkkdjpaaGreat
open Go.RowKit
section
variable {P:Program}
end
end Go.Proofs.YtjmaicckkkdjpaaGreat
/- slices.Clone, slices.Equal at []api.Pair. -/
namespace Go.Proofs.YtjmaicckkkdjpaaGreat
open Go.RowKit
@[go_sem] theorem eqNilPairs (a:Option Addr) (n c:Nat) (w:World):(binOp .eql 39 (.slice a n c) (.slice none 0 0)).run Tryz.prog w= .ok (.bool a.isNone) w:=by
 simp[binOp,run_equal_slice_nil w 39 96 a n c Tryz.underlying39]
def FreshRow (w:World) (e:TypeId) (size n:Nat) (cs:List Value) (en:Ending) (w':World):Prop:=
 ∃v',en= .returned v'∧w'.ownsRow w.heap.size e size v' n cs∧Below w.heap.size w w'
abbrev PairL:=List (Int×ByteArray)
def pc (ps:PairL):List Value:=ps.flatMap fun p=>[.int .u64 p.1,.string p.2]
theorem pc_nil:pc []=[]:=rfl
theorem pc_cons (p:Int×ByteArray) (ps:PairL):pc (p::ps)= .int .u64 p.1:: .string p.2::pc ps:=rfl
theorem pc_append (ps qs:PairL):pc (ps++qs)=pc ps++pc qs:=by simp[pc]
theorem pc_length (ps:PairL):(pc ps).length=ps.length*2:=by
 induction ps with
 | nil=>rfl
 | cons p ps ih=>rw[pc_cons];simp[ih];omega
theorem pc_one (ps:PairL): ∀v∈pc ps,v.oneCell'=true:=by
 induction ps with
 | nil=>simp[pc_nil]
 | cons p ps ih=>
  rw[pc_cons];intro v hv;simp at hv
  rcases hv with rfl | rfl | h
  ·rfl
  ·rfl
  ·exact ih v h
theorem pc_at (ps:PairL) (k:Nat) (h:k<ps.length):(pc ps)[k*2]?=some (.int .u64 (ps[k]'h).1)∧(pc ps)[k*2+1]?=some (.string (ps[k]'h).2):=by
 induction ps generalizing k with
 | nil=>simp at h
 | cons p ps ih=>
  cases k with
  | zero=>simp[pc_cons]
  | succ k=>
   have:=ih k (by simpa using h)
   rw[show(k+1)*2=k*2+1+1 by omega,pc_cons]
   simpa using this
def pairEq (p q:Int×ByteArray):Bool:=p.1==q.1&&p.2.toList==q.2.toList
def pairsEq:PairL→PairL→Bool
 | [],[]=>true
 | p::ps,q::qs=>pairEq p q&&pairsEq ps qs
 | _,_=>false
theorem pairsEq_len {ps qs:PairL} (h:ps.length≠qs.length):pairsEq ps qs=false:=by
 induction ps generalizing qs with
 | nil=>cases qs with
  | nil=>exact absurd rfl h
  | cons q qs=>rfl
 | cons p ps ih=>cases qs with
  | nil=>rfl
  | cons q qs=>simp[pairsEq,ih (qs:=qs) (by simpa using h)]
theorem pairsEq_all {ps qs:PairL} (h:ps.length=qs.length) (ha: ∀k (h1:k<ps.length) (h2:k<qs.length),pairEq ps[k] qs[k]=true):pairsEq ps qs=true:=by
 induction ps generalizing qs with
 | nil=>cases qs with
  | nil=>rfl
  | cons q qs=>simp at h
 | cons p ps ih=>cases qs with
  | nil=>simp at h
  | cons q qs=>
   have h0:=ha 0 (by simp) (by simp)
   simp only[pairsEq,Bool.and_eq_true]
   exact⟨h0,ih (by simpa using h) fun k h1 h2=>ha (k+1) (by simpa using h1) (by simpa using h2)⟩
theorem pairsEq_not {ps qs:PairL} (k:Nat) (h1:k<ps.length) (h2:k<qs.length) (hk:pairEq ps[k] qs[k]=false):pairsEq ps qs=false:=by
 induction ps generalizing qs k with
 | nil=>simp at h1
 | cons p ps ih=>cases qs with
  | nil=>simp at h2
  | cons q qs=>
   cases k with
   | zero=>simp only[pairsEq];rw[show pairEq p q=false from hk];rfl
   | succ k=>simp only[pairsEq,ih (qs:=qs) k (by simpa using h1) (by simpa using h2) (by simpa using hk),Bool.and_false]
theorem pairEq_t {p q:Int×ByteArray} (h:pairEq p q=true):p.1=q.1∧p.2.toList=q.2.toList:=by simpa[pairEq] using h
theorem pairEq_f {p q:Int×ByteArray} (h:pairEq p q=false):(¬p.1=q.1)∨(p.1=q.1∧ ¬p.2.toList=q.2.toList):=by
 by_cases h1:p.1=q.1
 ·right;refine⟨h1,fun h2=> ?_⟩;simp[pairEq,h1,h2] at h
 ·exact Or.inl h1
theorem row_atQ {w:World} {g n cap base:Nat} {ps:PairL} (h:w.ownsRow base 96 2 (.slice (some ⟨g,0,none⟩) n cap) n (pc ps)) (hl:ps.length=n) (k:Nat) (hk:k<ps.length):
  w.cell? ⟨g,k*2,none⟩=some (.int .u64 ps[k].1)∧w.cell? ⟨g,k*2+1,none⟩=some (.string ps[k].2):=by
 have:=pc_at ps k hk
 exact⟨(h.cellAt (k*2) (by omega)).trans this.1,(h.cellAt (k*2+1) (by omega)).trans this.2⟩
end Go.Proofs.YtjmaicckkkdjpaaGreat
/- (*model.Map).place: sort.Search over the keys. -/
namespace Go.Proofs.YtjmaicckkkdjpaaGreat
open Go.RowKit
def Rises (ps:PairL):Prop:= ∀i j (h1:i<j) (h2:j<ps.length),(ps[i]'(by omega)).1<ps[j].1
def placeI (k:Int):PairL→Nat
 | []=>0
 | p::ps=>if p.1<k then placeI k ps+1 else 0
theorem placeI_le (k:Int) (ps:PairL):placeI k ps≤ps.length:=by
 induction ps with
 | nil=>exact Nat.le_refl _
 | cons p ps ih=>simp only[placeI];split<;>simp<;>omega
theorem placeI_lt {k:Int} {ps:PairL} (j:Nat) (h:j<ps.length) (hj:j<placeI k ps):ps[j].1<k:=by
 induction ps generalizing j with
 | nil=>simp at h
 | cons p ps ih=>
  simp only[placeI] at hj
  split at hj
  ·cases j with
   | zero=>simpa
   | succ j=>simpa using ih j (by simpa using h) (by omega)
  ·omega
theorem placeI_ge {k:Int} {ps:PairL} (h:placeI k ps<ps.length):k≤ps[placeI k ps].1:=by
 induction ps with
 | nil=>simp at h
 | cons p ps ih=>
  by_cases hp:p.1<k
  ·have e:placeI k (p::ps)=placeI k ps+1:=by simp[placeI,hp]
   have h':placeI k ps<ps.length:=by rw[e] at h;simpa using h
   have:=ih h'
   simp only[e,List.getElem_cons_succ];exact this
  ·have e:placeI k (p::ps)=0:=by simp[placeI,hp]
   simp only[e,List.getElem_cons_zero];omega
def placeB (k:Int) (ps:PairL):Bool:=match ps[placeI k ps]? with | some p=>p.1==k | none=>false
theorem placeB_in {k:Int} {ps:PairL} (h:placeI k ps<ps.length):placeB k ps=(ps[placeI k ps].1==k):=by
 unfold placeB;rw[List.getElem?_eq_getElem h]
theorem placeB_out {k:Int} {ps:PairL} (h: ¬placeI k ps<ps.length):placeB k ps=false:=by
 unfold placeB;rw[List.getElem?_eq_none (by omega)]
end Go.Proofs.YtjmaicckkkdjpaaGreat
/- Contracts of the map's methods: Put, Get, Delete, Len, Pairs. -/
namespace Go.Proofs.YtjmaicckkkdjpaaGreat
open Go.RowKit
def putM (k:Int) (s:ByteArray) (ps:PairL):PairL:=ps.take (placeI k ps)++[(k,s)]++ps.drop (if placeB k ps then placeI k ps+1 else placeI k ps)
def delM (k:Int) (ps:PairL):PairL:=if placeB k ps then ps.take (placeI k ps)++ps.drop (placeI k ps+1) else ps
def footQ (m:Nat) (v:Value):List Nat:=m::v.ownBlock.toList
theorem Rises.iff {ps:PairL}:Rises ps↔ps.Pairwise fun a b=>a.1<b.1:=by
 rw[List.pairwise_iff_getElem]
 exact⟨fun h i j hi hj hij=>h i j hij hj,fun h i j hij hj=>h i j (by omega) hj hij⟩
theorem take_lt {k:Int} {ps:PairL}: ∀p∈ps.take (placeI k ps),p.1<k:=by
 intro p hp
 obtain⟨j,hj,rfl⟩:=List.mem_iff_getElem.1 hp
 have hl:j<ps.length:=by simp at hj;omega
 rw[List.getElem_take]
 exact placeI_lt j hl (by simp at hj;omega)
theorem drop_ge {k:Int} {ps:PairL} (hr:Rises ps): ∀p∈ps.drop (placeI k ps),k≤p.1:=by
 intro p hp
 obtain⟨j,hj,rfl⟩:=List.mem_iff_getElem.1 hp
 have hl:placeI k ps+j<ps.length:=by simp at hj;omega
 rw[List.getElem_drop]
 have h0:=placeI_ge (k:=k) (ps:=ps) (by omega)
 by_cases hj0:j=0
 ·subst hj0;exact h0
 ·have:=hr (placeI k ps) (placeI k ps+j) (by omega) hl;omega
theorem drop_gt {k:Int} {ps:PairL} (hr:Rises ps): ∀p∈ps.drop (if placeB k ps then placeI k ps+1 else placeI k ps),k<p.1:=by
 intro p hp
 cases hb:placeB k ps with
 | true=>
  rw[hb] at hp
  have hlt:placeI k ps<ps.length:=by
   by_cases h:placeI k ps<ps.length
   ·exact h
   ·rw[placeB_out h] at hb;cases hb
  rw[placeB_in hlt] at hb
  have he:ps[placeI k ps].1=k:=by simpa using hb
  obtain⟨j,hj,rfl⟩:=List.mem_iff_getElem.1 hp
  have hl:placeI k ps+1+j<ps.length:=by simp at hj;omega
  simp only[if_pos]
  rw[List.getElem_drop]
  have:=hr (placeI k ps) (placeI k ps+1+j) (by omega) hl
  omega
 | false=>
  rw[hb] at hp
  simp only[Bool.false_eq_true,if_false] at hp
  have h1:=drop_ge hr p hp
  by_cases hlt:placeI k ps<ps.length
  ·rw[placeB_in hlt] at hb
   have hne:ps[placeI k ps].1≠k:=by simpa using hb
   obtain⟨j,hj,rfl⟩:=List.mem_iff_getElem.1 hp
   have hl:placeI k ps+j<ps.length:=by simp at hj;omega
   rw[List.getElem_drop] at h1 ⊢
   have h0:=placeI_ge hlt
   by_cases hj0:j=0
   ·subst hj0;simp only[Nat.add_zero] at h1 ⊢;omega
   ·have:=hr (placeI k ps) (placeI k ps+j) (by omega) hl;omega
  ·rw[List.drop_eq_nil_of_le (by omega)] at hp;cases hp
theorem putM_rises {k:Int} {s:ByteArray} {ps:PairL} (hr:Rises ps):Rises (putM k s ps):=by
 rw[Rises.iff] at hr ⊢
 unfold putM
 rw[List.append_assoc,List.pairwise_append]
 refine⟨hr.sublist (List.take_sublist _ _),?_,?_⟩
 ·rw[List.singleton_append,List.pairwise_cons]
  exact⟨fun p hp=>drop_gt (Rises.iff.2 hr) p hp,hr.sublist (List.drop_sublist _ _)⟩
 ·intro p hp q hq
  have h1:=take_lt p hp
  rw[List.singleton_append,List.mem_cons] at hq
  rcases hq with rfl | hq
  ·exact h1
  ·have:=drop_gt (Rises.iff.2 hr) q hq;omega
theorem delM_rises {k:Int} {ps:PairL} (hr:Rises ps):Rises (delM k ps):=by
 unfold delM
 split
 ·rw[Rises.iff] at hr ⊢
  have h1:=hr.sublist (List.take_sublist (placeI k ps) ps)
  rw[List.pairwise_append]
  refine⟨h1,hr.sublist (List.drop_sublist _ _),fun p hp q hq=> ?_⟩
  have h2:=take_lt p hp
  rename_i hb
  have h3:=drop_gt (k:=k) (Rises.iff.2 hr) q (by rw[hb];exact hq)
  omega
 ·exact hr
theorem putM_length (k:Int) (s:ByteArray) (ps:PairL):(putM k s ps).length≤ps.length+1:=by
 unfold putM
 have:=placeI_le k ps
 simp;split<;>omega
theorem delM_length (k:Int) (ps:PairL):(delM k ps).length≤ps.length:=by
 unfold delM;split
 ·simp;omega
 ·omega
theorem putM_new {k:Int} {s:ByteArray} {ps:PairL} (hb:placeB k ps=false):putM k s ps=ps.take (placeI k ps)++[(k,s)]++ps.drop (placeI k ps):=by simp[putM,hb]
theorem placeB_lt {k:Int} {ps:PairL} (hb:placeB k ps=true):placeI k ps<ps.length:=by
 by_cases hx:placeI k ps<ps.length
 ·exact hx
 ·rw[placeB_out hx] at hb;cases hb
theorem bdrew {B:Nat} {a b:World} (h:Below B a b):Below B a b.drew:=⟨h.os,h.tape,h.output,h.size,h.block⟩
theorem row_slice {w:World} {base:Nat} {e:TypeId} {size:Nat} {v:Value} {n:Nat} {xs:List Value} (h:w.ownsRow base e size v n xs): ∃a n c,v= .slice a n c:=by
 rcases h.2 with⟨rfl,_⟩ | ⟨g,cap,cur,rfl,_⟩
 ·exact⟨_,_,_,rfl⟩
 ·exact⟨_,_,_,rfl⟩
end Go.Proofs.YtjmaicckkkdjpaaGreat
/- Contracts of the map's methods: Get, Delete, Len, Pairs, Copy, Same. -/
namespace Go.Proofs.YtjmaicckkkdjpaaGreat
open Go.RowKit
theorem row_zero {w:World} {base:Nat} {e:TypeId} {size:Nat} {v:Value} {n:Nat} {xs:List Value} (h:w.ownsRow base e size v n xs):w.ownsRow 0 e size v n xs:=by
 refine⟨h.1,?_⟩
 rcases h.2 with h | ⟨g,cap,cur,h1,h2,h3⟩
 ·exact Or.inl h
 ·exact Or.inr ⟨g,cap,cur,h1,Nat.zero_le _,h3⟩
theorem row_lt {w:World} {base:Nat} {e:TypeId} {size:Nat} {v:Value} {n:Nat} {xs:List Value} (h:w.ownsRow base e size v n xs): ∀k,v.ownBlock=some k→base≤k∧k<w.heap.size:=h.lt
theorem row_alloc {w:World} {base:Nat} {e:TypeId} {size:Nat} {v:Value} {n:Nat} {xs:List Value} (h:w.ownsRow base e size v n xs) (o:Obj):(w.alloc o).ownsRow base e size v n xs:=h.alloc o
end Go.Proofs.YtjmaicckkkdjpaaGreat
/- The map's iterator (All, All$1) as a contract for a loop over it; bounds, May. -/
namespace Go.Proofs.YtjmaicckkkdjpaaGreat
open Go.RowKit Go.Shelf
attribute [local go_sem] Oper.semAt_some
def boundsErr (lo hi lim:Int):Int:=if lo>hi∨lim<1∨lim>256 then 2 else 0
section
variable {F:List Nat} {O:Nat} {A B C:World}
end
end Go.Proofs.YtjmaicckkkdjpaaGreat
/- The map's Scan: a loop over All that leaves early, and collects. -/
namespace Go.Proofs.YtjmaicckkkdjpaaGreat
open Go.RowKit Go.Shelf
attribute [local go_sem] Oper.semAt_some
def scanL (lo hi lim:Int) (ps:PairL):PairL:=(ps.filter fun p=>decide (lo≤p.1∧p.1≤hi)).take lim.toNat
theorem bounds_ok {lo hi lim:Int} (h:boundsErr lo hi lim=0):lo≤hi∧1≤lim∧lim≤256:=by
 unfold boundsErr at h
 split at h
 ·cases h
 ·omega
theorem row_form {w:World} {base:Nat} {e:TypeId} {size:Nat} {v:Value} {n:Nat} {xs:List Value} (h:w.ownsRow base e size v n xs): ∃a c,v= .slice a n c:=by
 rcases h.2 with⟨rfl,rfl⟩ | ⟨g,cap,cur,rfl,_⟩
 ·exact⟨_,_,rfl⟩
 ·exact⟨_,_,rfl⟩
theorem cells_two_new (w:World) (x y:Value) (t:TypeId): ∀j u,[x,y][j]?=some u→(w.alloc (.cells #[x,y] t)).cell? ((⟨w.heap.size,0,none⟩:Addr).add j)=some u:=World.news_of_block (Blk.new w t #[x,y])
theorem boundsErr_two {lo hi lim:Int} (h:boundsErr lo hi lim≠0):boundsErr lo hi lim=2:=by
 unfold boundsErr at h ⊢
 split
 ·rfl
 ·rename_i hh;simp[hh] at h
end Go.Proofs.YtjmaicckkkdjpaaGreat
/- A scan's object, and what it holds. -/
namespace Go.Proofs.YtjmaicckkkdjpaaGreat
open Go.RowKit
structure SR where
 wv:Value
 gv:Value
 pv:Value
def SR.bl (R:SR):List Nat:=R.wv.ownBlock.toList++(R.gv.ownBlock.toList++R.pv.ownBlock.toList)
abbrev nilS:Value:= .slice none 0 0
def scC (si:Nat) (x:ScP) (R:SR) (uv fv:Value):Array Value:= #[ptrV si,.int .i64 x.client,.int .u64 x.lo,.int .u64 x.hi,.int .i64 x.limit,uv,fv,.int .u64 x.at',
 .int .i64 x.leaf.lv,.int .u64 x.leaf.low,.int .u64 x.leaf.nx,.int .u64 x.leaf.ct,.int .u64 x.leaf.fi,.int .u64 (x.leaf.k 0),.int .u64 (x.leaf.k 1),.int .u64 (x.leaf.k 2),.int .u64 (x.leaf.k 3),.int .u64 (x.leaf.k 4),.int .u64 (x.leaf.k 5),.int .u64 (x.leaf.k 6),.int .u64 (x.leaf.k 7),.int .u64 (x.leaf.p 0),.int .u64 (x.leaf.p 1),.int .u64 (x.leaf.p 2),.int .u64 (x.leaf.p 3),.int .u64 (x.leaf.p 4),.int .u64 (x.leaf.p 5),.int .u64 (x.leaf.p 6),.int .u64 (x.leaf.p 7),.int .u64 x.high,.bool x.has,R.wv,R.gv,.int .i64 x.why,R.pv,.int .i64 (x.tries:Int),.bool x.done,.int .i64 x.e]
abbrev ScBlk (w:World) (g si:Nat) (x:ScP) (R:SR) (uv fv:Value):Prop:=Blk w g 159 (scC si x R uv fv)
theorem scBuild (ps:Array (Nat×Value)):Instr.build 159 ps=bldMg 159 ps:=rfl
theorem lfBuild (ps:Array (Nat×Value)):Instr.build 157 ps=bldMg 157 ps:=rfl
theorem lfStoreAt (p v:Value):Instr.storeAt 157 p v=stM 157 p v:=rfl
theorem sc_bld (si:Nat) (c lo hi limit:Int) (W:World):bldRg Tryz.prog 159 #[(0,ptrV si),(1,.int .i64 c),(2,.int .u64 lo),(3,.int .u64 hi),(4,.int .i64 limit)] W= .ok (.agg (scC si (scNew c lo hi limit) ⟨nilS,nilS,nilS⟩ .nilIface .nilFunc)) W:=by kernel_rfl
def leafC0:Array Value:= #[.int .u64 0,.int .i64 0,.int .u64 0,.int .u64 0,.int .u64 0,.int .u64 0,.int .u64 0,.int .u64 0,.int .u64 0,.int .u64 0,.int .u64 0,.int .u64 0,.int .u64 0,.int .u64 0,.int .u64 0,.int .u64 0,.int .u64 0,.int .u64 0,.int .u64 0,.int .u64 0,.int .u64 0,.int .u64 0,.int .u64 0,.bool false,nilS,nilS,.int .i64 0]
theorem lf_bld (W:World):bldRg Tryz.prog 157 #[] W= .ok (.agg leafC0) W:=by kernel_rfl
theorem scC_L (si:Nat) (x:ScP) (R:SR) (uv fv:Value) (n:NodeA):setL (scC si x R uv fv) 8 (nodeC n).toList=scC si { x with leaf:=n } R uv fv:=by kernel_rfl
theorem scC_Z (si:Nat) (x:ScP) (R:SR) (uv fv:Value):setL (scC si x R uv fv) 7 leafC0.toList=scC si { x with at':=0,leaf:=zeroN,high:=0,has:=false,want:=[],got:=[],why:=0 } { R with wv:=nilS,gv:=nilS } uv fv:=by kernel_rfl
theorem scC_n (si:Nat) (x:ScP) (R:SR) (uv fv:Value) {i:Nat} (h:i<21):(scC si x R uv fv)[8+i]?=(nodeC x.leaf)[i]?:=by
 rcases(by omega:i=0∨i=1∨i=2∨i=3∨i=4∨i=5∨i=6∨i=7∨i=8∨i=9∨i=10∨i=11∨i=12∨i=13∨i=14∨i=15∨i=16∨i=17∨i=18∨i=19∨i=20) with rfl | rfl | rfl | rfl | rfl | rfl | rfl | rfl | rfl | rfl | rfl | rfl | rfl | rfl | rfl | rfl | rfl | rfl | rfl | rfl | rfl<;>rfl
theorem ScBlk.stn {w:World} {g si:Nat} {x:ScP} {R:SR} {uv fv:Value} (h:ScBlk w g si x R uv fv) (n:NodeA): ∃W',stR Tryz.prog 77 (.pointer (some ⟨g,8,none⟩)) (.agg (nodeC n)) w= .ok () W'∧ScBlk W' g si { x with leaf:=n } R uv fv∧Only [g] w W':=
 ⟨_,Blk.stAt h 8 (by show 8+21≤38;omega) (by kernel_rfl) (by kernel_rfl),by have:=Blk.setCells (nodeC n).toList 8 h;rw[scC_L] at this;exact this,Only.setCellsM g _ 8 w⟩
theorem ScBlk.stz {w:World} {g si:Nat} {x:ScP} {R:SR} {uv fv:Value} (h:ScBlk w g si x R uv fv): ∃W',stR Tryz.prog 157 (.pointer (some ⟨g,7,none⟩)) (.agg leafC0) w= .ok () W'∧ScBlk W' g si { x with at':=0,leaf:=zeroN,high:=0,has:=false,want:=[],got:=[],why:=0 } { R with wv:=nilS,gv:=nilS } uv fv∧Only [g] w W':=
 ⟨_,Blk.stAt h 7 (by show 7+27≤38;omega) (by kernel_rfl) (by kernel_rfl),by have:=Blk.setCells leafC0.toList 7 h;rw[scC_Z] at this;exact this,Only.setCellsM g _ 7 w⟩
theorem ScBlk.ldn {w:World} {g si:Nat} {x:ScP} {R:SR} {uv fv:Value} (h:ScBlk w g si x R uv fv):ldR Tryz.prog 77 (.pointer (some ⟨g,8,none⟩)) w= .ok (.agg (nodeC x.leaf)) w:=h.ldAt 8 (xs:=nodeC x.leaf) (fun j v hj=>by
 have hj2:j<21:=(Array.getElem?_eq_some_iff.1 hj).1
 rw[scC_n si x R uv fv hj2];exact hj) Tryz.underlying77 rfl (by kernel_rfl)
structure ScRows (w:World) (want:List (Int×Int)) (got pairs:List (Int×ByteArray)) (R:SR):Prop where
 want:EntsAt w R.wv want
 got:w.ownsRow 0 96 2 R.gv got.length (pc got)
 pairs:w.ownsRow 0 96 2 R.pv pairs.length (pc pairs)
 wg: ∀b,R.wv.ownBlock=some b→R.gv.ownBlock≠some b
 wp: ∀b,R.wv.ownBlock=some b→R.pv.ownBlock≠some b
 gp: ∀b,R.gv.ownBlock=some b→R.pv.ownBlock≠some b
 lt: ∀b∈R.bl,b<w.heap.size
theorem SR.bl_w {R:SR} {b:Nat} (h:R.wv.ownBlock=some b):b∈R.bl:=by unfold SR.bl;simp[h]
theorem SR.bl_g {R:SR} {b:Nat} (h:R.gv.ownBlock=some b):b∈R.bl:=by unfold SR.bl;simp[h]
theorem SR.bl_p {R:SR} {b:Nat} (h:R.pv.ownBlock=some b):b∈R.bl:=by unfold SR.bl;simp[h]
theorem EntsAt.only {w w':World} {v:Value} {l:List (Int×Int)} {ks:List Nat} (h:EntsAt w v l) (ho:Only ks w w') (hk: ∀b,v.ownBlock=some b→b∉ks):EntsAt w' v l:=by
 obtain⟨ao,cap,rfl,h2⟩:=h
 refine⟨ao,cap,rfl,?_⟩
 rcases h2 with h2 | ⟨b,off,rfl,h4,h5⟩
 ·exact Or.inl h2
 ·exact Or.inr ⟨b,off,rfl,Nat.lt_of_lt_of_le h4 ho.size,fun i x hi=>⟨(ho.cell (p:=⟨b,off+i*2,none⟩) h4 (hk b rfl)).trans (h5 i x hi).1,(ho.cell (p:=⟨b,off+i*2+1,none⟩) h4 (hk b rfl)).trans (h5 i x hi).2⟩⟩
theorem ScRows.only {w w':World} {want:List (Int×Int)} {got pairs:List (Int×ByteArray)} {R:SR} {ks:List Nat} (h:ScRows w want got pairs R) (ho:Only ks w w') (hk: ∀z∈R.bl,z∉ks):ScRows w' want got pairs R:=
 ⟨h.want.only ho (fun b hb=>hk b (SR.bl_w hb)),ho.own h.got (fun b hb=>hk b (SR.bl_g hb)),ho.own h.pairs (fun b hb=>hk b (SR.bl_p hb)),h.wg,h.wp,h.gp,fun b hb=>Nat.lt_of_lt_of_le (h.lt b hb) ho.size⟩
theorem ScRows.bel {w w':World} {want:List (Int×Int)} {got pairs:List (Int×ByteArray)} {R:SR} (h:ScRows w want got pairs R) (hb:Below w.heap.size w w'):ScRows w' want got pairs R:=h.only (Only.of_below hb []) (by simp)
def ScP.ky (x:ScP):Int:=(x.want.getD x.got.length (0,0)).1
def ScU.at (w:World) (si m g:Nat) (n:NodeA) (ky:Int) (u:ScU) (uv fv:Value) (us bs:List Nat):Prop:=match u with
 | .walk y=> ∃wg f0 bg bw,uv= .iface 171 (ptrV wg)∧fv=clV 113 bg bw∧WkIs w si m wg y f0∧w.cell? ⟨bg,0,none⟩=some (ptrV g)∧w.cell? ⟨bw,0,none⟩=some (ptrV wg)∧us=wg::f0∧bs=[bg,bw]
 | .read y=> ∃rg lv br bg be pt N,uv= .iface 235 (ptrV rg)∧fv= .func (.func 150) #[] #[.pointer (some ⟨br,0,none⟩),.pointer (some ⟨bg,0,none⟩),.pointer (some ⟨be,0,none⟩)]∧RdIs w N m rg y lv∧N≤w.heap.size∧w.cell? ⟨br,0,none⟩=some (ptrV rg)∧w.cell? ⟨bg,0,none⟩=some (ptrV g)∧Blk w be 130 #[.int .u64 ky,.int .u64 pt]∧us=rg::lv.ownBlock.toList∧bs=[br,bg,be]
 | .still y=> ∃sg bg bs',uv= .iface 272 (ptrV sg)∧fv=clV 177 bg bs'∧StIs w m sg n y∧w.cell? ⟨bg,0,none⟩=some (ptrV g)∧w.cell? ⟨bs',0,none⟩=some (ptrV sg)∧us=[sg]∧bs=[bg,bs']
 | .last l=> ∃lg lr,uv= .iface 267 (ptrV lg)∧fv=fnV 178 g∧LtIs w m lg lr l∧us=[lg,lr]∧bs=[]
theorem ScU.at.only {w w':World} {si m g:Nat} {n:NodeA} {ky:Int} {u:ScU} {uv fv:Value} {us bs ks:List Nat} (h:u.at w si m g n ky uv fv us bs) (ho:Only ks w w') (hu: ∀z∈us,z∉ks) (hb: ∀z∈bs,z∉ks):u.at w' si m g n ky uv fv us bs:=by
 have hc: ∀b,b∈bs→ ∀v,w.cell? ⟨b,0,none⟩=some v→w'.cell? ⟨b,0,none⟩=some v:=fun b h1 v h2=>(ho.cell (p:=⟨b,0,none⟩) (World.block_lt_of_cell? _ _ h2) (hb b h1)).trans h2
 cases u with
 | walk y=>
  obtain⟨wg,f0,bg,bw,rfl,rfl,h1,h2,h3,rfl,rfl⟩:=h
  exact⟨wg,f0,bg,bw,rfl,rfl,h1.only ho (hu _ (by simp)) (fun z hz=>hu z (by simp[hz])),hc _ (by simp) _ h2,hc _ (by simp) _ h3,rfl,rfl⟩
 | read y=>
  obtain⟨rg,lv,br,bg,be,pt,N,rfl,rfl,h1,h4,h2,h3,h5,rfl,rfl⟩:=h
  exact⟨rg,lv,br,bg,be,pt,N,rfl,rfl,h1.only ho (hu _ (by simp)) (fun k hk=>hu k (by simp[hk])),Nat.le_trans h4 ho.size,hc _ (by simp) _ h2,hc _ (by simp) _ h3,ho.blk h5 (hb _ (by simp)),rfl,rfl⟩
 | still y=>
  obtain⟨sg,bg,bs',rfl,rfl,h1,h2,h3,rfl,rfl⟩:=h
  exact⟨sg,bg,bs',rfl,rfl,h1.only ho (hu _ (by simp)),hc _ (by simp) _ h2,hc _ (by simp) _ h3,rfl,rfl⟩
 | last l=>
  obtain⟨lg,lr,rfl,rfl,h1,rfl,rfl⟩:=h
  exact⟨lg,lr,rfl,rfl,h1.only ho (hu _ (by simp)) (hu _ (by simp)),rfl,rfl⟩
structure ScIs (w:World) (si m g:Nat) (x:ScP) (f:List Nat):Prop where
 obj: ∃R uv fv us bs,ScBlk w g si x R uv fv∧x.u.at w si m g x.leaf x.ky uv fv us bs∧ScRows w x.want x.got x.pairs R∧f=us++(bs++R.bl)∧(∀z∈bs++R.bl,z∉us)∧ ∀z∈bs,z∉R.bl
 ne:g∉f
theorem ScIs.only {w w':World} {si m g:Nat} {x:ScP} {f ks:List Nat} (h:ScIs w si m g x f) (ho:Only ks w w') (hg:g∉ks) (hf: ∀z∈f,z∉ks):ScIs w' si m g x f:=by
 obtain⟨⟨R,uv,fv,us,bs,h1,h2,h3,rfl,h4⟩,h5⟩:=h
 exact⟨⟨R,uv,fv,us,bs,ho.blk h1 hg,h2.only ho (fun z hz=>hf z (by simp[hz])) (fun z hz=>hf z (by simp[hz])),h3.only ho (fun z hz=>hf z (by simp[hz])),rfl,h4⟩,h5⟩
def ScGo (si m g:Nat) (F:List Nat) (x:ScP) (w:World) (e:Ending) (w':World):Prop:=
 e= .returned (.tuple #[])∧ ∃f',ScIs w' si m g x f'∧(∀z∈f',z∈F∨w.heap.size≤z)∧Only (g::F) w w'
theorem sc_fin {si m g:Nat} {x:ScP} {R:SR} {u':ScU} {uv' fv':Value} {us bs:List Nat} {w w6 w7:World} (hg:g<w.heap.size) (h6:Below w.heap.size w w6) (hr:ScRows w x.want x.got x.pairs R) (hgr:g∉R.bl)
  (hat:u'.at w6 si m g x.leaf x.ky uv' fv' us bs) (hus: ∀z∈us,w.heap.size≤z) (hbs: ∀z∈bs,w.heap.size≤z∧z∉us) (hB:ScBlk w7 g si x R uv' fv') (ho:Only [g] w6 w7):
  ScGo si m g R.bl { x with u:=u' } w (.returned (.tuple #[])) w7:=by
 have hlt:=hr.lt
 refine⟨rfl,us++(bs++R.bl),⟨⟨R,uv',fv',us,bs,hB,hat.only ho (fun z hz=> ?_) (fun z hz=> ?_),(hr.bel h6).only ho (fun z hz=> ?_),rfl,fun z hz hu=> ?_,fun z hz hu=> ?_⟩,fun h=> ?_⟩,fun z hz=> ?_,((Only.of_below h6 (g::R.bl)).trans ho (fun y hy=>Or.inl (by simp at hy;simp[hy])))⟩
 ·have:=hus z hz;simp;omega
 ·have:=(hbs z hz).1;simp;omega
 ·intro e;simp at e;rw[e] at hz;exact hgr hz
 ·rcases List.mem_append.1 hz with h | h
  ·exact(hbs z h).2 hu
  ·have:=hus z hu;have:=hlt z h;omega
 ·have:=(hbs z hz).1;have:=hlt z hu;omega
 ·rcases List.mem_append.1 h with h | h
  ·have:=hus g h;omega
  ·rcases List.mem_append.1 h with h | h
   ·have:=(hbs g h).1;omega
   ·exact hgr h
 ·rcases List.mem_append.1 hz with h | h
  ·exact Or.inr (hus z h)
  ·rcases List.mem_append.1 h with h | h
   ·exact Or.inr (hbs z h).1
   ·exact Or.inl h
end Go.Proofs.YtjmaicckkkdjpaaGreat
