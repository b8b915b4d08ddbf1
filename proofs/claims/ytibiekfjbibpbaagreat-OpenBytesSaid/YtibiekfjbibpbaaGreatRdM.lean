/- A region that draws its order inside a fence (a round's too): many operations that only read, one at the end that waits for all: one way. No program. -/
import Derived.OrdersIn
import Derived.TacticsIn
set_option linter.unusedVariables false
set_option linter.unusedSimpArgs false
namespace Go.Proofs.YtibiekfjbibpbaaGreat
section
open Go
theorem countP_less {p q:Nat→Bool} (hqp: ∀x,q x=true→p x=true) {i:Nat} (hp:p i=true) (hq:q i=false): ∀{l:List Nat},i∈l→l.countP q<l.countP p
 | [],h=>by cases h
 | x::l,h=>by
  have hle: ∀l:List Nat,l.countP q≤l.countP p:=fun l=>List.countP_mono_left (fun x _ hx=>hqp x hx)
  rcases List.mem_cons.1 h with rfl | h
  ·rw[List.countP_cons_of_pos hp,List.countP_cons_of_neg (by simp[hq])]
   have:=hle l;omega
  ·have ih:=countP_less hqp hp hq h
   rw[List.countP_cons,List.countP_cons]
   have:(if q x=true then 1 else 0)≤(if p x=true then 1 else 0):=by
    by_cases hx:q x=true
    ·rw[if_pos hx,if_pos (hqp x hx)];exact Nat.le_refl _
    ·rw[if_neg hx];exact Nat.zero_le _
   omega
section
variable {F:Fence} {m:Nat} {P:Program} {ops:Array Oper} {Q:Exit→Act→World→Prop} {md:Region.Mode}
def depsB (md:Region.Mode) (ops:Array Oper) (n:Nat):Bool:=
 (List.range (n+1)).all fun i=>match ops[i]? with
  | some o=>o.op.operands.toList.all fun x=>match x with
   | .tmp t=>(List.range n).all fun j=>match ops[j]? with
    | some oj=>oj.dst !=some t || o.after.any fun e=>Region.binds md e&&e.on==j
    | none=>true
   | _=>true
  | none=>false
def sinkB' (md:Region.Mode) (ops:Array Oper) (n:Nat):Bool:=
 (List.range n).all fun i=>(List.range (n+1)).any fun j=>decide (i<j)&&match ops[j]? with
  | some o=>o.after.any fun e=>Region.binds md e&&e.on==i
  | none=>false
theorem depsB_spec {n:Nat} (h:depsB md ops n=true) {i j t:Nat} {o oj:Oper} (hi:i≤n) (ho:ops[i]?=some o) (hx:Operand.tmp t∈o.op.operands) (hj:j<n) (hoj:ops[j]?=some oj) (hd:oj.dst=some t):
  ∃e∈o.after,Region.binds md e=true∧e.on=j:=by
 unfold depsB at h
 have h1:=List.all_eq_true.1 h i (List.mem_range.2 (by omega))
 rw[ho] at h1
 have h2:=List.all_eq_true.1 h1 (.tmp t) (by simpa using hx)
 have h3:=List.all_eq_true.1 h2 j (List.mem_range.2 hj)
 simp only[hoj,hd,bne_self_eq_false,Bool.false_or] at h3
 obtain⟨e,he,hb⟩:=Array.any_eq_true'.1 h3
 simp only[Bool.and_eq_true,beq_iff_eq] at hb
 exact⟨e,he,hb⟩
theorem sinkB'_spec {n:Nat} (h:sinkB' md ops n=true) {i:Nat} (hi:i<n): ∃j o,i<j∧j≤n∧ops[j]?=some o∧ ∃e∈o.after,Region.binds md e=true∧e.on=i:=by
 have h1:=List.all_eq_true.1 h i (List.mem_range.2 hi)
 obtain⟨j,hj,h2⟩:=List.any_eq_true.1 h1
 simp only[Bool.and_eq_true,decide_eq_true_eq] at h2
 obtain⟨h3,h4⟩:=h2
 cases ho:ops[j]? with
 | none=>rw[ho] at h4;cases h4
 | some o=>
  rw[ho] at h4
  obtain⟨e,he,hb⟩:=Array.any_eq_true'.1 h4
  simp only[Bool.and_eq_true,beq_iff_eq] at hb
  exact⟨j,o,h3,by have:=List.mem_range.1 hj;omega,ho,e,he,hb⟩
def backB (md:Region.Mode) (ops:Array Oper):Bool:=
 (List.range ops.size).all fun i=>match ops[i]? with
  | some o=>o.after.all fun e=> !Region.binds md e || decide (e.on<i)
  | none=>true
theorem backB_spec (h:backB md ops=true) (i:Nat) (o:Oper) (ho:ops[i]?=some o) (e:Edge) (he:e∈o.after) (hb:Region.binds md e=true):e.on<i:=by
 have hi:=(Array.getElem?_eq_some_iff.1 ho).1
 have h1:=List.all_eq_true.1 h i (List.mem_range.2 hi)
 rw[ho] at h1
 have h2:=Array.all_eq_true'.1 h1 e he
 rw[hb] at h2
 simpa using h2
structure RdI (md:Region.Mode) (ops:Array Oper) (n:Nat) (a0 aF:Act) (listed:Array Bool) (a:Act):Prop where
 size:listed.size=ops.size
 last:listed.getD n true=false
 closed: ∀j o,ops[j]?=some o→listed.getD j false=true→ ∀e∈o.after,Region.binds md e=true→listed.getD e.on false=true
 defers:a.defers=a0.defers
 tsize:a.tmps.size=a0.tmps.size
 new: ∀(t i:Nat) o,i<n→ops[i]?=some o→o.dst=some t→listed.getD i false=true→a.tmps[t]?=aF.tmps[t]?
 old: ∀t:Nat,(∀(i:Nat) o,i<n→ops[i]?=some o→o.dst=some t→listed.getD i false=false)→a.tmps[t]?=a0.tmps[t]?
structure RdH (F:Fence) (P:Program) (md:Region.Mode) (ops:Array Oper) (n:Nat) (a0 aF:Act) (w:World):Prop where
 size:ops.size=n+1
 deps:depsB md ops n=true
 sink:sinkB' md ops n=true
 fn: ∀f,F.fn f
 defers:aF.defers=a0.defers
 tsize:aF.tmps.size=a0.tmps.size
 old: ∀t:Nat,(∀(i:Nat) o,i<n→ops[i]?=some o→o.dst≠some t)→aF.tmps[t]?=a0.tmps[t]?
 back: ∀(i:Nat) o,ops[i]?=some o→ ∀e∈o.after,Region.binds md e=true→e.on<i
 run: ∀(i:Nat) o,i<n→ops[i]?=some o→o.guard=none∧(∀cs b,o.op≠ .select cs b)∧(∀c,o.op≠ .defer c)∧ ∃v d,o.dst=some d∧(execOp aF.eval o).run P w= .ok (.value v) w∧aF.tmps[d]?=some v
 guard: ∀o,ops[n]?=some o→o.guard=none
theorem RdI.all {n:Nat} {a0 aF a:Act} {listed:Array Bool} (h:RdI md ops n a0 aF listed a) (hs:sinkB' md ops n=true) (hr:n∈Region.ready md ops listed): ∀(d i:Nat),n-i=d→i<n→listed.getD i false=true:=by
 intro d
 induction d using Nat.strongRecOn with
 | _ d ih=>
  intro i hd hi
  obtain⟨j,o,h1,h2,h3,e,he,hb,hon⟩:=sinkB'_spec hs hi
  obtain⟨_,on,hon',hall⟩:=mem_ready.1 hr
  by_cases hjn:j=n
  ·subst hjn
   have:o=on:=Option.some.inj (h3.symm.trans hon')
   subst this
   have:=hall e he hb
   rw[hon] at this;exact this
  ·have hj:=ih (n-j) (by omega) j rfl (by omega)
   have:=h.closed j o h3 hj e he hb
   rw[hon] at this;exact this
theorem wanted_none {o:Oper} (h:o.guard=none) (f:Nat→Option Bool):Region.wanted o f=true:=by
 unfold Region.wanted;rw[h]
theorem least {u:Nat→Bool}: ∀k,(∃i,i≤k∧u i=true)→ ∃i,i≤k∧u i=true∧ ∀j,j<i→u j=false
 | 0,⟨i,hi,h⟩=>⟨i,hi,h,fun j hj=>by omega⟩
 | k+1,⟨i,hi,h⟩=>by
  by_cases hk: ∃i,i≤k∧u i=true
  ·obtain⟨i',h1,h2,h3⟩:=least k hk
   exact⟨i',by omega,h2,h3⟩
  ·refine⟨i,hi,h,fun j hj=> ?_⟩
   cases hu:u j with
   | false=>rfl
   | true=>exact absurd ⟨j,by omega,hu⟩ hk
theorem RdI.eval {n:Nat} {a0 aF a:Act} {listed:Array Bool} {w:World} (h:RdI md ops n a0 aF listed a) (H:RdH F P md ops n a0 aF w) {i:Nat} (hi:i≤n) {o:Oper} (ho:ops[i]?=some o) (hr:i∈Region.ready md ops listed): ∀x∈o.op.operands,a.eval x=aF.eval x:=by
 intro x hx
 obtain⟨_,o',ho',hall⟩:=mem_ready.1 hr
 obtain rfl:o=o':=Option.some.inj (ho.symm.trans ho')
 cases x with
 | tmp t=>
  have key:a.tmps[t]?=aF.tmps[t]?:=by
   by_cases hj: ∃(j:Nat) (oj:Oper),j<n∧ops[j]?=some oj∧oj.dst=some t
   ·obtain⟨j,oj,h1,h2,h3⟩:=hj
    obtain⟨e,he,hb,hon⟩:=depsB_spec H.deps hi ho hx h1 h2 h3
    have:=hall e he hb
    rw[hon] at this
    exact h.new t j oj h1 h2 h3 this
   ·rw[h.old t (fun j oj h1 h2 h3=>absurd ⟨j,oj,h1,h2,h3⟩ hj),H.old t (fun j oj h1 h2 h3=>hj ⟨j,oj,h1,h2,h3⟩)]
  show a.tmps.getD t undef=aF.tmps.getD t undef
  rw[Array.getD_eq_getD_getElem?,Array.getD_eq_getD_getElem?,key]
 | _=>rfl
theorem RdI.step {n:Nat} {a0 aF a:Act} {listed:Array Bool} {w:World} (h:RdI md ops n a0 aF listed a) (H:RdH F P md ops n a0 aF w) {i:Nat} (hi:i<n) {o:Oper} (ho:ops[i]?=some o) (hr:i∈Region.ready md ops listed) {v:Value} {d:Tmp} (hd:o.dst=some d) (hv:aF.tmps[d]?=some v):
  RdI md ops n a0 aF (listed.setIfInBounds i true) (a.put o.dst v):=by
 obtain⟨hun,o',ho',hall⟩:=mem_ready.1 hr
 obtain rfl:o=o':=Option.some.inj (ho.symm.trans ho')
 have hil:i<listed.size:=by rw[h.size,H.size];omega
 have hput:(a.put o.dst v).tmps=a.tmps.setIfInBounds d v:=by rw[hd];rfl
 have hds:d<a.tmps.size:=by
  rw[h.tsize,←H.tsize]
  exact(Array.getElem?_eq_some_iff.1 hv).1
 refine⟨by simp[h.size],by rw[getD_set_ne true (by omega)];exact h.last,fun j oj hj hl e he hb=> ?_,by rw[hd];exact h.defers,by rw[hput,Array.size_setIfInBounds];exact h.tsize,fun t j oj h1 h2 h3 h4=> ?_,fun t hall'=> ?_⟩
 ·by_cases hij:i=j
  ·subst hij
   obtain rfl:oj=o:=Option.some.inj (hj.symm.trans ho)
   exact getD_set_true (hall e he hb)
  ·rw[getD_set_ne false hij] at hl
   exact getD_set_true (h.closed j oj hj hl e he hb)
 ·rw[hput]
  by_cases ht:d=t
  ·subst ht
   rw[Array.getElem?_setIfInBounds_self_of_lt hds,hv]
  ·rw[Array.getElem?_setIfInBounds_ne ht]
   have hij:i≠j:=fun e=>by
    subst e
    obtain rfl:oj=o:=Option.some.inj (h2.symm.trans ho)
    exact ht (Option.some.inj (hd.symm.trans h3))
   rw[getD_set_ne false hij] at h4
   exact h.new t j oj h1 h2 h3 h4
 ·rw[hput]
  have ht:d≠t:=fun e=>by
   subst e
   have:=hall' i o hi ho hd
   simp[hil] at this
  rw[Array.getElem?_setIfInBounds_ne ht]
  refine h.old t fun j oj h1 h2 h3=> ?_
  have:=hall' j oj h1 h2 h3
  cases hb:listed.getD j false with
  | false=>rfl
  | true=>rw[getD_set_true hb] at this;cases this
theorem rd_any {n:Nat} {a0 aF:Act} {w:World} (H:RdH F P md ops n a0 aF w) (hn: ∀o,ops[n]?=some o→o.wpIn F m P aF w (fun a w=>Q .normal a w) Q): ∀(fuel:Nat) (listed:Array Bool) (a:Act),RdI md ops n a0 aF listed a→
  (List.range (n+1)).countP (fun i=> !listed.getD i true)≤fuel→wpAnyIn F m P md ops Q fuel listed a w:=by
 intro fuel
 induction fuel with
 | zero=>
  intro listed a h hc
  have:0< (List.range (n+1)).countP (fun i=> !listed.getD i true):=List.countP_pos_iff.2 ⟨n,List.mem_range.2 (by omega),by rw[h.last];rfl⟩
  omega
 | succ fuel ih=>
  intro listed a h hc
  have getF: ∀j,j≤n→listed.getD j true=true→listed.getD j false=true:=fun j hj hl=>by
   have:j<listed.size:=by rw[h.size,H.size];omega
   simp[this] at hl ⊢
   exact hl
  refine⟨fun hnil=> ?_,fun i hr=> ?_⟩
  ·exfalso
   obtain⟨i,h1,h2,h3⟩:=least (u:=fun i=> !listed.getD i true) n ⟨n,Nat.le_refl _,by simp only[h.last];rfl⟩
   obtain⟨o,ho⟩: ∃o,ops[i]?=some o:=⟨ops[i]'(by rw[H.size];omega),Array.getElem?_eq_getElem _⟩
   have:i∈Region.ready md ops listed:=mem_ready.2 ⟨by simpa using h2,o,ho,fun e he hb=>by
    have hlt:=H.back i o ho e he hb
    exact getF e.on (by omega) (by simpa using h3 e.on hlt)⟩
   rw[hnil] at this
   cases this
  ·obtain⟨hun,o,ho,hall⟩:=mem_ready.1 hr
   have hil:i≤n:=by have:=(Array.getElem?_eq_some_iff.1 ho).1;rw[H.size] at this;omega
   have hev:=h.eval H hil ho hr
   by_cases hin:i=n
   ·subst hin
    have hg:=H.guard o ho
    have hal:=fun j hj=>h.all H.sink hr (i-j) j rfl hj
    have haF:a=aF:=by
     have ht:a.tmps=aF.tmps:=Array.ext_getElem? fun t=>by
      by_cases hj: ∃(j:Nat) (oj:Oper),j<i∧ops[j]?=some oj∧oj.dst=some t
      ·obtain⟨j,oj,h1,h2,h3⟩:=hj
       exact h.new t j oj h1 h2 h3 (hal j h1)
      ·rw[h.old t (fun j oj h1 h2 h3=>absurd ⟨j,oj,h1,h2,h3⟩ hj),H.old t (fun j oj h1 h2 h3=>hj ⟨j,oj,h1,h2,h3⟩)]
     have hd:a.defers=aF.defers:=h.defers.trans H.defers.symm
     cases a;cases aF;simp only at ht hd;subst ht;subst hd;rfl
    subst haF
    simp only[wpOpIn,ho,wanted_none hg,if_true]
    refine Oper.wpIn_mono (fun a' w' hq=> ?_) (hn o ho)
    have hnone:Region.ready md ops (listed.setIfInBounds i true)=[]:=by
     rw[List.eq_nil_iff_forall_not_mem]
     intro j hj
     obtain⟨h1,oj,h2,_⟩:=mem_ready.1 hj
     have hjl:j≤i:=by have:=(Array.getElem?_eq_some_iff.1 h2).1;rw[H.size] at this;omega
     by_cases hji:i=j
     ·subst hji
      have:i<listed.size:=by rw[h.size,H.size];omega
      simp[this] at h1
     ·rw[getD_set_ne true hji] at h1
      have:=hal j (by omega)
      have hsz:j<listed.size:=by rw[h.size,H.size];omega
      simp[hsz] at this h1
      rw[this] at h1;cases h1
    cases fuel with
    | zero=>exact⟨hnone,hq⟩
    | succ f=>exact⟨fun _=>hq,fun j hj=>by rw[hnone] at hj;cases hj⟩
   ·have hlt:i<n:=by omega
    obtain⟨hg,hs,hdf,v,d,hd,hrun,hv⟩:=H.run i o hlt ho
    simp only[wpOpIn,ho,wanted_none hg,if_true]
    refine⟨fun f _=>H.fn f,?_⟩
    rw[Oper.semAt_eq _ _ _ hdf,execOp_congr o hs hev,hrun,Oper.uponIn_value]
    refine ih _ _ (h.step H hlt ho hr hd hv) ?_
    have hcl:=countP_less (p:=fun j=> !listed.getD j true) (q:=fun j=> !(listed.setIfInBounds i true).getD j true) (fun j hj=> ?_) (i:=i) (by simp only[hun];rfl) (by
     have:i<listed.size:=by rw[h.size,H.size];omega
     simp[this]) (l:=List.range (n+1)) (List.mem_range.2 (by omega))
    ·omega
    ·by_cases hij:i=j
     ·subst hij;simp only[hun];rfl
     ·have hj':(!(listed.setIfInBounds i true).getD j true)=true:=hj
      rw[getD_set_ne true hij] at hj';exact hj'
theorem wpIn_region_reads {id n:Nat} {a0 aF:Act} {w:World} (hm:P.follows .mixedOrders=true) (H:RdH F P .any ops n a0 aF w.drew)
  (hn: ∀o,ops[n]?=some o→o.wpIn F m P aF w.drew (fun a w=>Q .normal a w) Q):(Code.region id ops true).wpIn F m P Q a0 w:=by
 have hf: ∀j,(Array.replicate ops.size false).getD j false=false:=fun j=>by
  rcases Nat.lt_or_ge j ops.size with h | h
  ·simp[h]
  ·simp[h]
 have hl:(Array.replicate ops.size false).getD n true=false:=by
  have:n<ops.size:=by rw[H.size];omega
  simp[this]
 refine wpIn_region_any hm (rd_any (w:=w.drew) H hn _ _ _ ⟨by simp,hl,fun j o _ h=>(by rw[hf j] at h;cases h),rfl,rfl,fun t i o _ _ _ h=>(by rw[hf i] at h;cases h),fun _ _=>rfl⟩ ?_)
 rw[H.size]
 exact Nat.le_trans List.countP_le_length (by simp)
end
end
section
section
variable {F:Fence} {m:Nat} {P:Program} {ops:Array Oper} {Q:Exit→Act→World→Prop} {md:Region.Mode}
structure RsI (md:Region.Mode) (ops:Array Oper) (n:Nat) (a0 aF:Act) (listed:Array Bool) (a:Act):Prop where
 size:listed.size=ops.size
 last:listed.getD n true=false
 closed: ∀j o,ops[j]?=some o→listed.getD j false=true→ ∀e∈o.after,Region.binds md e=true→listed.getD e.on false=true
 defers:a.defers=a0.defers
 tsize:a.tmps.size=a0.tmps.size
 new: ∀(t i:Nat) o,i<n→ops[i]?=some o→o.dst=some t→listed.getD i false=true→a.tmps[t]?=aF.tmps[t]?
 old: ∀t:Nat,(∀(i:Nat) o,i<n→ops[i]?=some o→o.dst=some t→listed.getD i false=false)→a.tmps[t]?=a0.tmps[t]?
structure RsH (F:Fence) (P:Program) (md:Region.Mode) (ops:Array Oper) (n:Nat) (a0 aF:Act) (w:World) (s:Nat) (w1:World):Prop where
 size:ops.size=n+1
 deps:depsB md ops n=true
 sink:sinkB' md ops n=true
 fn: ∀f,F.fn f
 defers:aF.defers=a0.defers
 tsize:aF.tmps.size=a0.tmps.size
 old: ∀t:Nat,(∀(i:Nat) o,i<n→ops[i]?=some o→o.dst≠some t)→aF.tmps[t]?=a0.tmps[t]?
 back: ∀(i:Nat) o,ops[i]?=some o→ ∀e∈o.after,Region.binds md e=true→e.on<i
 run: ∀(i:Nat) o,i<n→i≠s→ops[i]?=some o→o.guard=none∧(∀cs b,o.op≠ .select cs b)∧(∀c,o.op≠ .defer c)∧ ∃v d,o.dst=some d∧(execOp aF.eval o).run P w= .ok (.value v) w∧(execOp aF.eval o).run P w1= .ok (.value v) w1∧aF.tmps[d]?=some v
 slt:s<n
 store: ∀o,ops[s]?=some o→o.guard=none∧(∀cs b,o.op≠ .select cs b)∧(∀c,o.op≠ .defer c)∧o.dst=none∧(execOp aF.eval o).run P w= .ok .skip w1
 guard: ∀o,ops[n]?=some o→o.guard=none
theorem RsI.all {n:Nat} {a0 aF a:Act} {listed:Array Bool} (h:RsI md ops n a0 aF listed a) (hs:sinkB' md ops n=true) (hr:n∈Region.ready md ops listed): ∀(d i:Nat),n-i=d→i<n→listed.getD i false=true:=by
 intro d
 induction d using Nat.strongRecOn with
 | _ d ih=>
  intro i hd hi
  obtain⟨j,o,h1,h2,h3,e,he,hb,hon⟩:=sinkB'_spec hs hi
  obtain⟨_,on,hon',hall⟩:=mem_ready.1 hr
  by_cases hjn:j=n
  ·subst hjn
   have:o=on:=Option.some.inj (h3.symm.trans hon')
   subst this
   have:=hall e he hb
   rw[hon] at this;exact this
  ·have hj:=ih (n-j) (by omega) j rfl (by omega)
   have:=h.closed j o h3 hj e he hb
   rw[hon] at this;exact this
theorem RsI.eval {n:Nat} {a0 aF a:Act} {listed:Array Bool} {w w1:World} {s:Nat} (h:RsI md ops n a0 aF listed a) (H:RsH F P md ops n a0 aF w s w1) {i:Nat} (hi:i≤n) {o:Oper} (ho:ops[i]?=some o) (hr:i∈Region.ready md ops listed): ∀x∈o.op.operands,a.eval x=aF.eval x:=by
 intro x hx
 obtain⟨_,o',ho',hall⟩:=mem_ready.1 hr
 obtain rfl:o=o':=Option.some.inj (ho.symm.trans ho')
 cases x with
 | tmp t=>
  have key:a.tmps[t]?=aF.tmps[t]?:=by
   by_cases hj: ∃(j:Nat) (oj:Oper),j<n∧ops[j]?=some oj∧oj.dst=some t
   ·obtain⟨j,oj,h1,h2,h3⟩:=hj
    obtain⟨e,he,hb,hon⟩:=depsB_spec H.deps hi ho hx h1 h2 h3
    have:=hall e he hb
    rw[hon] at this
    exact h.new t j oj h1 h2 h3 this
   ·rw[h.old t (fun j oj h1 h2 h3=>absurd ⟨j,oj,h1,h2,h3⟩ hj),H.old t (fun j oj h1 h2 h3=>hj ⟨j,oj,h1,h2,h3⟩)]
  show a.tmps.getD t undef=aF.tmps.getD t undef
  rw[Array.getD_eq_getD_getElem?,Array.getD_eq_getD_getElem?,key]
 | _=>rfl
theorem RsI.step {n:Nat} {a0 aF a:Act} {listed:Array Bool} {w w1:World} {s:Nat} (h:RsI md ops n a0 aF listed a) (H:RsH F P md ops n a0 aF w s w1) {i:Nat} (hi:i<n) {o:Oper} (ho:ops[i]?=some o) (hr:i∈Region.ready md ops listed) {v:Value} {d:Tmp} (hd:o.dst=some d) (hv:aF.tmps[d]?=some v):
  RsI md ops n a0 aF (listed.setIfInBounds i true) (a.put o.dst v):=by
 obtain⟨hun,o',ho',hall⟩:=mem_ready.1 hr
 obtain rfl:o=o':=Option.some.inj (ho.symm.trans ho')
 have hil:i<listed.size:=by rw[h.size,H.size];omega
 have hput:(a.put o.dst v).tmps=a.tmps.setIfInBounds d v:=by rw[hd];rfl
 have hds:d<a.tmps.size:=by
  rw[h.tsize,←H.tsize]
  exact(Array.getElem?_eq_some_iff.1 hv).1
 refine⟨by simp[h.size],by rw[getD_set_ne true (by omega)];exact h.last,fun j oj hj hl e he hb=> ?_,by rw[hd];exact h.defers,by rw[hput,Array.size_setIfInBounds];exact h.tsize,fun t j oj h1 h2 h3 h4=> ?_,fun t hall'=> ?_⟩
 ·by_cases hij:i=j
  ·subst hij
   obtain rfl:oj=o:=Option.some.inj (hj.symm.trans ho)
   exact getD_set_true (hall e he hb)
  ·rw[getD_set_ne false hij] at hl
   exact getD_set_true (h.closed j oj hj hl e he hb)
 ·rw[hput]
  by_cases ht:d=t
  ·subst ht
   rw[Array.getElem?_setIfInBounds_self_of_lt hds,hv]
  ·rw[Array.getElem?_setIfInBounds_ne ht]
   have hij:i≠j:=fun e=>by
    subst e
    obtain rfl:oj=o:=Option.some.inj (h2.symm.trans ho)
    exact ht (Option.some.inj (hd.symm.trans h3))
   rw[getD_set_ne false hij] at h4
   exact h.new t j oj h1 h2 h3 h4
 ·rw[hput]
  have ht:d≠t:=fun e=>by
   subst e
   have:=hall' i o hi ho hd
   simp[hil] at this
  rw[Array.getElem?_setIfInBounds_ne ht]
  refine h.old t fun j oj h1 h2 h3=> ?_
  have:=hall' j oj h1 h2 h3
  cases hb:listed.getD j false with
  | false=>rfl
  | true=>rw[getD_set_true hb] at this;cases this
theorem RsI.stepS {n:Nat} {a0 aF a:Act} {listed:Array Bool} {w w1:World} {s:Nat} (h:RsI md ops n a0 aF listed a) (H:RsH F P md ops n a0 aF w s w1) {o:Oper} (ho:ops[s]?=some o) (hr:s∈Region.ready md ops listed) (hd:o.dst=none):
  RsI md ops n a0 aF (listed.setIfInBounds s true) a:=by
 obtain⟨hun,o',ho',hall⟩:=mem_ready.1 hr
 obtain rfl:o=o':=Option.some.inj (ho.symm.trans ho')
 have hsn:=H.slt
 have hil:s<listed.size:=by rw[h.size,H.size];omega
 refine⟨by simp[h.size],by rw[getD_set_ne true (by omega)];exact h.last,fun j oj hj hl e he hb=> ?_,h.defers,h.tsize,fun t j oj h1 h2 h3 h4=> ?_,fun t hall'=> ?_⟩
 ·by_cases hij:s=j
  ·subst hij
   obtain rfl:oj=o:=Option.some.inj (hj.symm.trans ho)
   exact getD_set_true (hall e he hb)
  ·rw[getD_set_ne false hij] at hl
   exact getD_set_true (h.closed j oj hj hl e he hb)
 ·have hij:s≠j:=fun e=>by
   subst e
   obtain rfl:oj=o:=Option.some.inj (h2.symm.trans ho)
   rw[hd] at h3;cases h3
  rw[getD_set_ne false hij] at h4
  exact h.new t j oj h1 h2 h3 h4
 ·refine h.old t fun j oj h1 h2 h3=> ?_
  have:=hall' j oj h1 h2 h3
  cases hb:listed.getD j false with
  | false=>rfl
  | true=>rw[getD_set_true hb] at this;cases this
theorem rs_any {n:Nat} {a0 aF:Act} {w w1:World} {s:Nat} (H:RsH F P md ops n a0 aF w s w1) (hn: ∀o,ops[n]?=some o→o.wpIn F m P aF w1 (fun a w=>Q .normal a w) Q): ∀(fuel:Nat) (listed:Array Bool) (a:Act) (W:World),RsI md ops n a0 aF listed a→(W=if listed.getD s false=true then w1 else w)→
  (List.range (n+1)).countP (fun i=> !listed.getD i true)≤fuel→wpAnyIn F m P md ops Q fuel listed a W:=by
 intro fuel
 induction fuel with
 | zero=>
  intro listed a W h hW hc
  have:0< (List.range (n+1)).countP (fun i=> !listed.getD i true):=List.countP_pos_iff.2 ⟨n,List.mem_range.2 (by omega),by rw[h.last];rfl⟩
  omega
 | succ fuel ih=>
  intro listed a W h hW hc
  have getF: ∀j,j≤n→listed.getD j true=true→listed.getD j false=true:=fun j hj hl=>by
   have:j<listed.size:=by rw[h.size,H.size];omega
   simp[this] at hl ⊢
   exact hl
  refine⟨fun hnil=> ?_,fun i hr=> ?_⟩
  ·exfalso
   obtain⟨i,h1,h2,h3⟩:=least (u:=fun i=> !listed.getD i true) n ⟨n,Nat.le_refl _,by simp only[h.last];rfl⟩
   obtain⟨o,ho⟩: ∃o,ops[i]?=some o:=⟨ops[i]'(by rw[H.size];omega),Array.getElem?_eq_getElem _⟩
   have:i∈Region.ready md ops listed:=mem_ready.2 ⟨by simpa using h2,o,ho,fun e he hb=>by
    have hlt:=H.back i o ho e he hb
    exact getF e.on (by omega) (by simpa using h3 e.on hlt)⟩
   rw[hnil] at this
   cases this
  ·obtain⟨hun,o,ho,hall⟩:=mem_ready.1 hr
   have hil:i≤n:=by have:=(Array.getElem?_eq_some_iff.1 ho).1;rw[H.size] at this;omega
   have hev:=h.eval H hil ho hr
   by_cases hin:i=n
   ·subst hin
    have hg:=H.guard o ho
    have hal:=fun j hj=>h.all H.sink hr (i-j) j rfl hj
    have haF:a=aF:=by
     have ht:a.tmps=aF.tmps:=Array.ext_getElem? fun t=>by
      by_cases hj: ∃(j:Nat) (oj:Oper),j<i∧ops[j]?=some oj∧oj.dst=some t
      ·obtain⟨j,oj,h1,h2,h3⟩:=hj
       exact h.new t j oj h1 h2 h3 (hal j h1)
      ·rw[h.old t (fun j oj h1 h2 h3=>absurd ⟨j,oj,h1,h2,h3⟩ hj),H.old t (fun j oj h1 h2 h3=>hj ⟨j,oj,h1,h2,h3⟩)]
     have hd:a.defers=aF.defers:=h.defers.trans H.defers.symm
     cases a;cases aF;simp only at ht hd;subst ht;subst hd;rfl
    subst haF
    rw[hal s H.slt,if_pos rfl] at hW
    subst hW
    simp only[wpOpIn,ho,wanted_none hg,if_true]
    refine Oper.wpIn_mono (fun a' w' hq=> ?_) (hn o ho)
    have hnone:Region.ready md ops (listed.setIfInBounds i true)=[]:=by
     rw[List.eq_nil_iff_forall_not_mem]
     intro j hj
     obtain⟨h1,oj,h2,_⟩:=mem_ready.1 hj
     have hjl:j≤i:=by have:=(Array.getElem?_eq_some_iff.1 h2).1;rw[H.size] at this;omega
     by_cases hji:i=j
     ·subst hji
      have:i<listed.size:=by rw[h.size,H.size];omega
      simp[this] at h1
     ·rw[getD_set_ne true hji] at h1
      have:=hal j (by omega)
      have hsz:j<listed.size:=by rw[h.size,H.size];omega
      simp[hsz] at this h1
      rw[this] at h1;cases h1
    cases fuel with
    | zero=>exact⟨hnone,hq⟩
    | succ f=>exact⟨fun _=>hq,fun j hj=>by rw[hnone] at hj;cases hj⟩
   ·have hlt:i<n:=by omega
    have hcount:(List.range (n+1)).countP (fun j=> !(listed.setIfInBounds i true).getD j true)≤fuel:=by
     have hcl:=countP_less (p:=fun j=> !listed.getD j true) (q:=fun j=> !(listed.setIfInBounds i true).getD j true) (fun j hj=> ?_) (i:=i) (by simp only[hun];rfl) (by
      have:i<listed.size:=by rw[h.size,H.size];omega
      simp[this]) (l:=List.range (n+1)) (List.mem_range.2 (by omega))
     ·omega
     ·by_cases hij:i=j
      ·subst hij;simp only[hun];rfl
      ·have hj':(!(listed.setIfInBounds i true).getD j true)=true:=hj
       rw[getD_set_ne true hij] at hj';exact hj'
    by_cases his:i=s
    ·subst his
     obtain⟨hg,hs,hdf,hd,hrun⟩:=H.store o ho
     have hl0:listed.getD i false=false:=by
      have hsz:i<listed.size:=by rw[h.size,H.size];omega
      simp[hsz] at hun ⊢
      exact hun
     rw[hl0,if_neg (by decide)] at hW
     subst hW
     simp only[wpOpIn,ho,wanted_none hg,if_true]
     refine⟨fun f _=>H.fn f,?_⟩
     rw[Oper.semAt_eq _ _ _ hdf,execOp_congr o hs hev,hrun]
     have hpn:a.put o.dst undef=a:=by rw[hd];rfl
     rw[Oper.uponIn_skip,hpn]
     refine ih _ _ _ (h.stepS H ho hr hd) ?_ hcount
     have hsz:i<listed.size:=by rw[h.size,H.size];omega
     rw[if_pos (by simp[hsz])]
    ·obtain⟨hg,hs,hdf,v,d,hd,hrun0,hrun1,hv⟩:=H.run i o hlt his ho
     have hrun:(execOp aF.eval o).run P W= .ok (.value v) W:=by
      rw[hW];split
      ·exact hrun1
      ·exact hrun0
     simp only[wpOpIn,ho,wanted_none hg,if_true]
     refine⟨fun f _=>H.fn f,?_⟩
     rw[Oper.semAt_eq _ _ _ hdf,execOp_congr o hs hev,hrun,Oper.uponIn_value]
     exact ih _ _ _ (h.step H hlt ho hr hd hv) (by rw[getD_set_ne false his];exact hW) hcount
theorem wpIn_region_store {id n:Nat} {a0 aF:Act} {w w1:World} {s:Nat} (hm:P.follows .mixedOrders=true) (H:RsH F P .any ops n a0 aF w.drew s w1)
  (hn: ∀o,ops[n]?=some o→o.wpIn F m P aF w1 (fun a w=>Q .normal a w) Q):(Code.region id ops true).wpIn F m P Q a0 w:=by
 have hf: ∀j,(Array.replicate ops.size false).getD j false=false:=fun j=>by
  rcases Nat.lt_or_ge j ops.size with h | h
  ·simp[h]
  ·simp[h]
 have hl:(Array.replicate ops.size false).getD n true=false:=by
  have:n<ops.size:=by rw[H.size];omega
  simp[this]
 refine wpIn_region_any hm (rs_any (w:=w.drew) H hn _ _ _ _ ⟨by simp,hl,fun j o _ h=>(by rw[hf j] at h;cases h),rfl,rfl,fun t i o _ _ _ h=>(by rw[hf i] at h;cases h),fun _ _=>rfl⟩ (by rw[hf s,if_neg (by decide)];rfl) ?_)
 rw[H.size]
 exact Nat.le_trans List.countP_le_length (by simp)
end
end
end Go.Proofs.YtibiekfjbibpbaaGreat
