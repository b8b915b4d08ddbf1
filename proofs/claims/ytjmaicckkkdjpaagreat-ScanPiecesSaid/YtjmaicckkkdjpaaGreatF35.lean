import Derived.Test.YtjmaicckkkdjpaaGreatF36
import Derived.OrdersIn
import Derived.TacticsIn
import Derived.StillTail
set_option maxRecDepth 100000
set_option maxHeartbeats 1000000
set_option linter.unusedVariables false
set_option linter.unusedSimpArgs false
/- Rows of addresses: their length, two held against one another, two swapped. -/
namespace Go.Proofs.YtjmaicckkkdjpaaGreat
open Go.RowKit
def AddrRow (w:World) (g cap:Nat) (xs:List Int):Prop:= ∃cur:Array Value,Blk w g 62 cur∧xs.length≤cap∧(cap=cur.size∧cap≤maxLen)∧ ∀(i:Nat) (x:Int),xs[i]?=some x→cur[i]?=some (Value.int .u64 x)
theorem AddrRow.cell {w:World} {g cap:Nat} {xs:List Int} (h:AddrRow w g cap xs) {i:Nat} {x:Int} (hx:xs[i]?=some x):w.cell? ⟨g,i,none⟩=some (.int .u64 x):=by
 obtain⟨cur,h1,_,_,h2⟩:=h
 rw[h1.cell];exact h2 i x hx
theorem AddrRow.frozen {w:World} {g cap:Nat} {xs:List Int} (h:AddrRow w g cap xs) (i:Nat):w.frozen? ⟨g,i,none⟩=false:=by
 obtain⟨cur,h1,_⟩:=h
 exact h1.frozen i
theorem AddrRow.only {f:List Nat} {w w':World} {g cap:Nat} {xs:List Int} (h:AddrRow w g cap xs) (ho:Only f w w') (hg:g∉f):AddrRow w' g cap xs:=by
 obtain⟨cur,h1,h2⟩:=h
 exact⟨cur,ho.blk h1 hg,h2⟩
theorem AddrRow.set_ {w:World} {g cap:Nat} {xs:List Int} (h:AddrRow w g cap xs) (i:Nat) (x:Int):AddrRow (w.setCell ⟨g,i,none⟩ (.int .u64 x)) g cap (xs.set i x):=by
 obtain⟨cur,h1,h2,h3,h4⟩:=h
 refine⟨_,h1.set_ i (.int .u64 x),by simpa using h2,by simpa using h3,fun j y hy=> ?_⟩
 rw[List.getElem?_set] at hy
 rw[Array.getElem?_setIfInBounds]
 split at hy
 ·rename_i e
  subst e
  split at hy
  ·rename_i hl
   injection hy with hy;subst hy
   rw[if_pos rfl,if_pos (by rw[←h3.1];omega)]
  ·cases hy
 ·rename_i e
  rw[if_neg e];exact h4 j y hy
theorem AddrRow.drew {w:World} {g cap:Nat} {xs:List Int} (h:AddrRow w g cap xs):AddrRow w.drew g cap xs:=by
 obtain⟨cur,h1,h2⟩:=h
 exact⟨cur,h1,h2⟩
theorem AddrRow.own {w:World} {g cap:Nat} {xs:List Int} (h:AddrRow w g cap xs):w.ownsRow 0 62 1 (.slice (some ⟨g,0,none⟩) xs.length cap) xs.length (xs.map fun x=>Value.int .u64 x):=by
 obtain⟨cur,h1,h2,h3,h4⟩:=h
 refine⟨by simp,Or.inr ⟨g,cap,cur,rfl,Nat.zero_le _,h1,h2,h3.2,by rw[h3.1,Nat.mul_one],?_⟩⟩
 apply List.ext_getElem?
 intro i
 rw[Nat.mul_one,List.getElem?_take,List.getElem?_map]
 by_cases hi:i<xs.length
 ·rw[if_pos hi,List.getElem?_eq_getElem hi]
  simpa using h4 i _ (List.getElem?_eq_getElem hi)
 ·rw[if_neg hi,List.getElem?_eq_none (by omega)]
  rfl
theorem AddrRow.of_own {w:World} {base:Nat} {v:Value} {n:Nat} {xs:List Int} (h:w.ownsRow base 62 1 v n (xs.map fun x=>Value.int .u64 x)):n=xs.length∧((v= .slice none 0 0∧xs=[])∨ ∃g cap,v= .slice (some ⟨g,0,none⟩) n cap∧base≤g∧AddrRow w g cap xs):=by
 have hl:=h.1
 simp at hl
 refine⟨hl.symm,?_⟩
 rcases h.2 with⟨h1,h2⟩ | ⟨g,cap,cur,h1,h2,h3,h4,h5,h6,h7⟩
 ·exact Or.inl ⟨h1,List.eq_nil_of_length_eq_zero (by omega)⟩
 ·refine Or.inr ⟨g,cap,h1,h2,cur,h3,by omega,⟨by omega,h5⟩,fun i x hx=> ?_⟩
  have hi:=(List.getElem?_eq_some_iff.1 hx).1
  have h8:(cur.toList.take (n*1))[i]?=some (.int .u64 x):=by rw[h7,List.getElem?_map,hx];rfl
  rw[List.getElem?_take,if_pos (by omega)] at h8
  simpa using h8
theorem aLen_z (p:Option Addr) (n cap:Nat) (w:World):Calls Tryz.prog 175 #[.slice p n cap] w fun e w'=>e= .returned (.int .i64 (n:Int))∧w=w':=by
 go_enter Tryz.func175,Tryz.ntmps175
 go_wp2
 go_ret
 exact⟨rfl,rfl⟩
theorem aLess_z (g cap:Nat) (xs:List Int) (i j:Nat) (a b:Int) (ha:xs[i]?=some a) (hb:xs[j]?=some b) (w:World) (h:AddrRow w g cap xs):
  Calls Tryz.prog 230 #[.slice (some ⟨g,0,none⟩) xs.length cap,.int .i64 (i:Int),.int .i64 (j:Int)] w fun e w'=>e= .returned (.bool (decide (a<b)))∧Below w.heap.size w w':=by
 have y0:=h.drew.cell ha
 have y1:=h.drew.cell hb
 obtain⟨n,hn⟩: ∃n,n=xs.length:=⟨_,rfl⟩
 have i1:(0:Int)≤(i:Int):=by omega
 have i2:(i:Int)< (n:Int):=by have:=(List.getElem?_eq_some_iff.1 ha).1;omega
 have j1:(0:Int)≤(j:Int):=by omega
 have j2:(j:Int)< (n:Int):=by have:=(List.getElem?_eq_some_iff.1 hb).1;omega
 rw[←hn]
 clear ha hb h hn
 go_enter Tryz.func230,Tryz.ntmps230
 go_wp2
 go_region
 all_goals
  try simp only[Act.put,List.setIfInBounds_toArray,List.set_cons_zero,List.set_cons_succ]
  go_wp2
  go_ret
  first | exact⟨rfl,⟨rfl,rfl,rfl,Nat.le_refl _,fun _ _=>rfl⟩⟩ | exact⟨rfl,rfl,rfl,Nat.le_refl _,fun _ _=>rfl⟩
theorem aSwap_z (g cap:Nat) (xs:List Int) (i j:Nat) (a b:Int) (ha:xs[i]?=some a) (hb:xs[j]?=some b) (w:World) (h:AddrRow w g cap xs):
  Calls Tryz.prog 231 #[.slice (some ⟨g,0,none⟩) xs.length cap,.int .i64 (i:Int),.int .i64 (j:Int)] w fun e w'=>(∃v,e= .returned v)∧AddrRow w' g cap ((xs.set i b).set j a)∧Only [g] w w':=by
 have y0:=h.drew.cell ha
 have y1:=h.drew.cell hb
 have f0:=h.frozen i
 have f1:=h.frozen j
 obtain⟨n,hn⟩: ∃n,n=xs.length:=⟨_,rfl⟩
 have i1:(0:Int)≤(i:Int):=by omega
 have i2:(i:Int)< (n:Int):=by have:=(List.getElem?_eq_some_iff.1 ha).1;omega
 have j1:(0:Int)≤(j:Int):=by omega
 have j2:(j:Int)< (n:Int):=by have:=(List.getElem?_eq_some_iff.1 hb).1;omega
 rw[←hn]
 have hsb:(xs.set i b)[j]?=some b:=by
  rw[List.getElem?_set]
  split
  ·rename_i e;subst e;rw[if_pos (List.getElem?_eq_some_iff.1 ha).1]
  ·exact hb
 have y2:=(h.set_ i b).cell hsb
 have f2:=(h.set_ i b).frozen j
 have H:=hid ((h.set_ i b).set_ j a)
 clear ha hb h hn hsb
 go_enter Tryz.func231,Tryz.ntmps231
 go_wp2
 go_region
 all_goals
  try simp only[Act.put,List.setIfInBounds_toArray,List.set_cons_zero,List.set_cons_succ]
  go_wp2
  go_end0
  first | exact⟨⟨_,rfl⟩,H.out.drew,(((Only.refl _ _).setCell (Or.inl (by simp)) _).setCell (Or.inl (by simp)) _).drew⟩ | exact⟨H.out.drew,(((Only.refl _ _).setCell (Or.inl (by simp)) _).setCell (Or.inl (by simp)) _).drew⟩
end Go.Proofs.YtjmaicckkkdjpaaGreat
/- A region that draws its order inside a fence (a round's too): many operations that only read, one at the end that waits for all: one way. No program. -/
namespace Go.Proofs.YtjmaicckkkdjpaaGreat
section
open Go
section
variable {F:Fence} {m:Nat} {P:Program} {ops:Array Oper} {Q:Exit→Act→World→Prop} {md:Region.Mode}
def depsB (md:Region.Mode) (ops:Array Oper) (n:Nat):Bool:=
 (List.range (n+1)).all fun i=>match ops[i]? with
  | some o=>o.op.operands.toList.all fun x=>match x with
   | .tmp t=>(List.range n).all fun j=>match ops[j]? with
    | some oj=>oj.dst !=some t || o.after.any fun e=>Region.binds md e&&e.on==j
    | none=>true
   | _=>true
  | none=>false
def backB (md:Region.Mode) (ops:Array Oper):Bool:=
 (List.range ops.size).all fun i=>match ops[i]? with
  | some o=>o.after.all fun e=> !Region.binds md e || decide (e.on<i)
  | none=>true
theorem backB_spec (h:backB md ops=true) (i:Nat) (o:Oper) (ho:ops[i]?=some o) (e:Edge) (he:e∈o.after) (hb:Region.binds md e=true):e.on<i:=by
 have hi:=(Array.getElem?_eq_some_iff.1 ho).1
 have h1:=List.all_eq_true.1 h i (List.mem_range.2 hi)
 rw[ho] at h1
 have h2:=Array.all_eq_true'.1 h1 e he
 rw[hb] at h2
 simpa using h2
theorem wanted_none {o:Oper} (h:o.guard=none) (f:Nat→Option Bool):Region.wanted o f=true:=by
 unfold Region.wanted;rw[h]
theorem least {u:Nat→Bool}: ∀k,(∃i,i≤k∧u i=true)→ ∃i,i≤k∧u i=true∧ ∀j,j<i→u j=false
 | 0,⟨i,hi,h⟩=>⟨i,hi,h,fun j hj=>by omega⟩
 | k+1,⟨i,hi,h⟩=>by
  by_cases hk: ∃i,i≤k∧u i=true
  ·obtain⟨i',h1,h2,h3⟩:=least k hk
   exact⟨i',by omega,h2,h3⟩
  ·refine⟨i,hi,h,fun j hj=> ?_⟩
   cases hu:u j with
   | false=>rfl
   | true=>exact absurd ⟨j,by omega,hu⟩ hk
end
end
section
section
variable {F:Fence} {m:Nat} {P:Program} {ops:Array Oper} {Q:Exit→Act→World→Prop} {md:Region.Mode}
end
end
end Go.Proofs.YtjmaicckkkdjpaaGreat
/- A region that draws its order, by an invariant: the first operations in whatever order, the others one by one. No program. -/
namespace Go.Proofs.YtjmaicckkkdjpaaGreat
open Go
section
variable {P:Program} {ops:Array Oper} {Q:Exit→Act→World→Prop} {md:Region.Mode}
def headL (n m:Nat):Array Bool:=(List.replicate n true++List.replicate m false).toArray
theorem wpAny_inv {n g:Nat} (hs:Region.sinkB md ops n=true) (hc:Region.chainB md ops n=true) (hb:backB md ops=true) (hn:n<ops.size) (hg:n+g=ops.size) (I:Array Bool→Act→World→Prop)
  (hstep: ∀listed a w i o,i<n→ops[i]?=some o→listed.getD i true=false→(∀e∈o.after,Region.binds md e=true→listed.getD e.on false=true)→I listed a w→wpOp P ops Q i (I (listed.setIfInBounds i true)) a w)
  (hend: ∀a w,I (headL n g) a w→wpAny P md ops Q g (headL n g) a w):
  ∀(f:Nat) (listed:Array Bool) (a:Act) (w:World),HeadInv md ops n listed→(List.range n).countP (fun i=> !listed.getD i true)=f→I listed a w→wpAny P md ops Q (f+g) listed a w:=by
 intro f
 induction f with
 | zero=>
  intro listed a w inv hf hI
  have hall: ∀i,i<n→listed.getD i true=true:=fun i hi=>by
   have h1:=List.countP_eq_zero.1 hf i (List.mem_range.2 hi)
   simpa using h1
  have e:listed=headL n g:=by
   apply Array.ext_getElem?
   intro i
   have hsz:=inv.size
   by_cases hi:i<n
   ·have h1:=hall i hi
    have h2:i<listed.size:=by omega
    rw[Array.getD_eq_getD_getElem?,Array.getElem?_eq_getElem h2] at h1
    rw[Array.getElem?_eq_getElem h2]
    simp only[Option.getD_some] at h1
    rw[h1,headL,List.getElem?_toArray,List.getElem?_append_left (by simpa using hi),List.getElem?_replicate,if_pos hi]
   ·by_cases hi2:i<ops.size
    ·have h1:=inv.tail i (by omega) hi2
     have h2:i<listed.size:=by omega
     rw[Array.getD_eq_getD_getElem?,Array.getElem?_eq_getElem h2] at h1
     rw[Array.getElem?_eq_getElem h2]
     simp only[Option.getD_some] at h1
     rw[h1,headL,List.getElem?_toArray,List.getElem?_append_right (by simp;omega),List.getElem?_replicate,if_pos (by simp;omega)]
    ·rw[Array.getElem?_eq_none (by omega),headL,List.getElem?_toArray,List.getElem?_eq_none (by simp;omega)]
  subst e
  rw[Nat.zero_add]
  exact hend a w hI
 | succ f ih=>
  intro listed a w inv hf hI
  rw[show f+1+g=(f+g)+1 by omega]
  obtain⟨i0,hi0,hun0⟩: ∃i,i<n∧listed.getD i true=false:=by
   refine Classical.byContradiction fun hno=> ?_
   have:(List.range n).countP (fun i=> !listed.getD i true)=0:=List.countP_eq_zero.2 fun i hi=>by
    cases hu:listed.getD i true with
    | true=>simp
    | false=>exact absurd ⟨i,List.mem_range.1 hi,hu⟩ hno
   omega
  refine⟨fun hr=> ?_,fun i hi=> ?_⟩
  ·exfalso
   obtain⟨i,hle,hu,hlow⟩:=least (u:=fun i=> !listed.getD i true) i0 ⟨i0,Nat.le_refl _,by simp[hun0]⟩
   have hin:i<n:=by omega
   have hsz:=inv.size
   have hio:i<ops.size:=by omega
   have hmem:i∈Region.ready md ops listed:=by
    refine mem_ready.2 ⟨by simpa using hu,ops[i],Array.getElem?_eq_getElem hio,fun e he hbi=> ?_⟩
    have h1:=backB_spec hb i _ (Array.getElem?_eq_getElem hio) e he hbi
    have h2:=hlow e.on h1
    have h3:listed.getD e.on true=true:=by simpa using h2
    rw[Array.getD_eq_getD_getElem?] at h3 ⊢
    rw[Array.getElem?_eq_getElem (show e.on<listed.size by omega)] at h3 ⊢
    exact h3
   rw[hr] at hmem
   cases hmem
  ·have hin:i<n:=by
    rcases Nat.lt_or_ge i n with h | h
    ·exact h
    ·exact absurd hi (tail_waits hs hc hn inv _ i0 rfl hi0 hun0 i h)
   obtain⟨hun,o,ho,hdep⟩:=mem_ready.1 hi
   refine wpOp_mono (fun a' w' h'=>ih _ a' w' (inv.set hi hin) ?_ h') (hstep listed a w i o hin ho hun hdep hI)
   have hsz:=inv.size
   have hlt:i<listed.size:=by omega
   have key: ∀(l:List Nat),l.Nodup→i∈l→l.countP (fun j=> !(listed.setIfInBounds i true).getD j true)+1=l.countP (fun j=> !listed.getD j true):=by
    intro l
    induction l with
    | nil=>intro _ h;cases h
    | cons x l ihl=>
     intro hnd hm
     obtain⟨hx,hnd'⟩:=List.nodup_cons.1 hnd
     rw[List.countP_cons,List.countP_cons]
     by_cases hxi:x=i
     ·subst hxi
      have h1:l.countP (fun j=> !(listed.setIfInBounds x true).getD j true)=l.countP (fun j=> !listed.getD j true):=by
       refine List.countP_congr fun j hj=> ?_
       have:j≠x:=fun e=>hx (e▸hj)
       rw[getD_set_ne true (fun e=>this e.symm)]
      have h2:(listed.setIfInBounds x true).getD x true=true:=by simp[hlt]
      rw[h1,h2,hun]
      simp
     ·have h2:=ihl hnd' (by rcases List.mem_cons.1 hm with h | h;exact absurd h.symm hxi;exact h)
      rw[getD_set_ne true (fun e=>hxi e.symm)]
      omega
   have:=key (List.range n) List.nodup_range (List.mem_range.2 hin)
   omega
def invB (md:Region.Mode) (ops:Array Oper) (n:Nat):Bool:=
 decide (n<ops.size)&&Region.sinkB md ops n&&Region.chainB md ops n&&backB md ops&&Region.seqB md ops (ops.size-n) n (headL n (ops.size-n))
theorem wp_region_inv {id:Nat} {a:Act} {w:World} {l:List Oper} (n:Nat) (I:Array Bool→Act→World→Prop) (hm:P.follows .mixedOrders=true) (hB:invB .any l.toArray n=true)
  (h0:I (Array.replicate l.toArray.size false) a w.drew)
  (hstep: ∀listed a w i o,i<n→l.toArray[i]?=some o→listed.getD i true=false→(∀e∈o.after,Region.binds .any e=true→listed.getD e.on false=true)→I listed a w→wpOp P l.toArray Q i (I (listed.setIfInBounds i true)) a w)
  (hend: ∀a w,I (headL n (l.toArray.size-n)) a w→wpList P l.toArray Q (l.drop n) a w):(Code.region id l.toArray true).wp P Q a w:=by
 simp only[invB,Bool.and_eq_true,decide_eq_true_eq] at hB
 obtain⟨⟨⟨⟨hn,hs⟩,hc⟩,hb⟩,hseq⟩:=hB
 refine wp_region_any hm ?_
 have inv0:HeadInv .any l.toArray n (Array.replicate l.toArray.size false):=
  ⟨by simp,fun j oj _ hl=>(by rw[getD_replicate_false] at hl;cases hl),fun t _ ht=>getD_in (by simpa using ht) (getD_replicate_false _ _)⟩
 have hcnt:(List.range n).countP (fun i=> !(Array.replicate l.toArray.size false).getD i true)=n:=by
  have:(List.range n).countP (fun i=> !(Array.replicate l.toArray.size false).getD i true)=(List.range n).length:=List.countP_eq_length.2 fun i hi=>by
   have hi':=List.mem_range.1 hi
   simp only[List.size_toArray] at hn
   simp[show i<l.length by omega]
  rw[this,List.length_range]
 have H:=wpAny_inv (P:=P) (Q:=Q) (md:= .any) (g:=l.toArray.size-n) hs hc hb hn (by omega) I hstep (fun a w hI=>by
  have hdl:(l.drop n).length=l.toArray.size-n:=by simp
  have:=wpAny_of_seq (md:= .any) (Q':=Q) (l.drop n) n (headL n (l.toArray.size-n)) a w (fun j=>by simp[List.getElem?_drop]) (by rw[hdl];exact hseq) (hend a w hI)
  rwa[hdl] at this) n _ a w.drew inv0 hcnt h0
 rw[show n+(l.toArray.size-n)=l.toArray.size by omega] at H
 exact H
theorem wpOp_at {i:Nat} {o:Oper} {a:Act} {w:World} {K:Act→World→Prop} (ho:ops[i]?=some o) (hg:o.guard=none) (h:o.wp P a w K Q):wpOp P ops Q i K a w:=by
 unfold wpOp
 rw[ho]
 simp only[wanted_none hg,if_true]
 exact Or.inl h
theorem wpOp_ok {i:Nat} {o:Oper} {a:Act} {w:World} {K:Act→World→Prop} (ho:ops[i]?=some o) (hg:Region.wanted o (yielded ops a.tmps)=true) (h:o.wp P a w K Q):wpOp P ops Q i K a w:=by
 unfold wpOp
 rw[ho]
 simp only[hg,if_true]
 exact Or.inl h
theorem wp_value {o:Oper} {a:Act} {w:World} {K:Act→World→Prop} {v:Value} (h:(execOp a.eval o).run P w= .ok (.value v) w) (hK:K (a.put o.dst v) w):o.wp P a w K Q:=by
 unfold Oper.wp
 rw[h]
 exact hK
theorem wp_enter {o:Oper} {a:Act} {w:World} {K:Act→World→Prop} {f:FuncId} {args:Array Value} (h:(execOp a.eval o).run P w= .ok (.enter f args) w) (hK:Calls P f args w fun e w'=> ∃v,e= .returned v∧K (a.put o.dst v) w'):o.wp P a w K Q:=by
 unfold Oper.wp
 rw[h,Oper.upon_enter]
 refine hK.mono ?_
 rintro e w' ⟨v,rfl,hv⟩
 exact hv
def updR (x:Nat→Value) (i:Nat) (v:Value):Nat→Value:=fun j=>if j=i then v else x j
def FactsE (Fact:Nat→Value→World→Prop) (listed:Array Bool) (x:Nat→Value) (w:World):Prop:= ∀i,listed.getD i false=true→Fact i (x i) w
theorem FactsE.step {Fact:Nat→Value→World→Prop} {listed:Array Bool} {x:Nat→Value} {w w':World} {i:Nat} {v:Value} (h:FactsE Fact listed x w) (hs: ∀j v,Fact j v w→Fact j v w') (hv:Fact i v w'):FactsE Fact (listed.setIfInBounds i true) (updR x i v) w':=by
 intro j hj
 unfold updR
 by_cases e:j=i
 ·rw[if_pos e,e];exact hv
 ·rw[if_neg e]
  rw[getD_set_ne false (fun h=>e h.symm)] at hj
  exact hs j _ (h j hj)
end
end Go.Proofs.YtjmaicckkkdjpaaGreat
