import Derived.OrdersIn
import Derived.TacticsIn
import Derived.Test.YtibiekfjbibpbaaGreatAli
set_option linter.unusedVariables false
set_option linter.unusedSimpArgs false
namespace Go.Proofs.YtibiekfjbibpbaaGreat
section
open Go
theorem q8n {p q:Nat->Bool} (I:∀x,q x=true->p x=true) {i:Nat} (hp:p i=true) (hq:q i=false):∀{l:List Nat},i∈l->l.countP q<l.countP p
 | [],h=>by cases h
 | x::l,h=>by
  have L:∀l:List Nat,l.countP q<=l.countP p:=fun l=>List.countP_mono_left (fun x _ hx=>I x hx);rcases AN.1 h with rfl|h;·rw[List.countP_cons_of_pos hp,List.countP_cons_of_neg (by simp[hq])];have:=L l;omega
  ·have ih:=q8n I hp hq h;rw[Cx,Cx]
   have:(if q x=true then 1 else 0)<=(if p x=true then 1 else 0):=by
    by_cases hx:q x=true;·rw[if_pos hx,if_pos (I x hx)];exact AG _
    ·rw[if_neg hx];exact Af _
   omega
section
variable {F:Fence} {m:Nat} {P:Program} {ops:Array Oper} {Q:Exit->Act->World->Prop} {md:Region.Mode}
def v3v (md:Region.Mode) (ops:Array Oper) (n:Nat):Bool:=
 (List.range (n+1)).all fun i=>match ops[i]? with
  | some o=>o.op.operands.toList.all fun x=>match x with
   | .tmp t=>(List.range n).all fun j=>match ops[j]? with
    | some oj=>oj.dst !=some t || o.after.any fun e=>Region.binds md e&&e.on==j
    | none=>true
   | _=>true
  | none=>false
def z7i (md:Region.Mode) (ops:Array Oper) (n:Nat):Bool:=
 (List.range n).all fun i=>(List.range (n+1)).any fun j=>decide (i<j)&&match ops[j]? with
  | some o=>o.after.any fun e=>Region.binds md e&&e.on==i
  | none=>false
theorem z4q {n:Nat} (h:v3v md ops n=true) {i j t:Nat} {o oj:Oper} (hi:i<=n) (ho:ops[i]?=some o) (hx:Operand.tmp t∈o.op.operands) (hj:j<n) (I:ops[j]?=some oj) (hd:oj.dst=some t):
  ∃e∈o.after,Region.binds md e=true/\e.on=j:=by
 unfold v3v at h;have h1:=Bc.1 h i (Av.2 (by omega));rw[ho] at h1;have h2:=Bc.1 h1 (.tmp t) (by simpa using hx);have h3:=Bc.1 h2 j (Av.2 hj);simp only[I,hd,bne_self_eq_false,Bool.false_or] at h3;obtain⟨e,he,hb⟩:=Array.any_eq_true'.1 h3;simp only[Bool.and_eq_true,beq_iff_eq] at hb;exact⟨e,he,hb⟩
theorem z2a {n:Nat} (h:z7i md ops n=true) {i:Nat} (hi:i<n):∃j o,i<j/\j<=n/\ops[j]?=some o/\ ∃e∈o.after,Region.binds md e=true/\e.on=i:=by
 have h1:=Bc.1 h i (Av.2 hi);obtain⟨j,hj,h2⟩:=CM.1 h1;simp only[Bool.and_eq_true,decide_eq_true_eq] at h2;obtain⟨h3,h4⟩:=h2;cases ho:ops[j]? with
 | none=>rw[ho] at h4;cases h4
 | some o=>rw[ho] at h4;obtain⟨e,he,hb⟩:=Array.any_eq_true'.1 h4;simp only[Bool.and_eq_true,beq_iff_eq] at hb;exact⟨j,o,h3,by have:=Av.1 hj;omega,ho,e,he,hb⟩
def v5x (md:Region.Mode) (ops:Array Oper):Bool:=
 (List.range ops.size).all fun i=>match ops[i]? with
  | some o=>o.after.all fun e=> !Region.binds md e || decide (e.on<i)
  | none=>true
theorem q4j (h:v5x md ops=true) (i:Nat) (o:Oper) (ho:ops[i]?=some o) (e:Edge) (he:e∈o.after) (hb:Region.binds md e=true):e.on<i:=by have hi:=(AA.1 ho).1;have h1:=Bc.1 h i (Av.2 hi);rw[ho] at h1;have h2:=Array.all_eq_true'.1 h1 e he;rw[hb] at h2;simpa using h2
structure RdI (md:Region.Mode) (ops:Array Oper) (n:Nat) (a0 aF:Act) (listed:Array Bool) (a:Act):Prop where
 size:listed.size=ops.size
 last:listed.getD n true=false
 closed:∀j o,ops[j]?=some o->listed.getD j false=true-> ∀e∈o.after,Region.binds md e=true->listed.getD e.on false=true
 defers:a.defers=a0.defers
 tsize:a.tmps.size=a0.tmps.size
 new:∀(t i:Nat) o,i<n->ops[i]?=some o->o.dst=some t->listed.getD i false=true->a.tmps[t]?=aF.tmps[t]?
 old:∀t:Nat,(∀(i:Nat) o,i<n->ops[i]?=some o->o.dst=some t->listed.getD i false=false)->a.tmps[t]?=a0.tmps[t]?
structure RdH (F:Fence) (P:Program) (md:Region.Mode) (ops:Array Oper) (n:Nat) (a0 aF:Act) (w:World):Prop where
 size:ops.size=n+1
 deps:v3v md ops n=true
 sink:z7i md ops n=true
 fn:∀f,F.fn f
 defers:aF.defers=a0.defers
 tsize:aF.tmps.size=a0.tmps.size
 old:∀t:Nat,(∀(i:Nat) o,i<n->ops[i]?=some o->o.dst≠some t)->aF.tmps[t]?=a0.tmps[t]?
 back:∀(i:Nat) o,ops[i]?=some o-> ∀e∈o.after,Region.binds md e=true->e.on<i
 run:∀(i:Nat) o,i<n->ops[i]?=some o->o.guard=none/\(∀cs b,o.op≠ .select cs b)/\(∀c,o.op≠ .defer c)/\ ∃v d,o.dst=some d/\(execOp aF.eval o).run P w= .ok (.value v) w/\aF.tmps[d]?=some v
 guard:∀o,ops[n]?=some o->o.guard=none
theorem RdI.all {n:Nat} {a0 aF a:Act} {listed:Array Bool} (h:RdI md ops n a0 aF listed a) (hs:z7i md ops n=true) (hr:n∈Region.ready md ops listed):∀(d i:Nat),n-i=d->i<n->listed.getD i false=true:=by
 intro d
 induction d using Nat.strongRecOn with
 | _ d ih=>
  intro i hd hi;obtain⟨j,o,h1,h2,h3,e,he,hb,M⟩:=z2a hs hi;obtain⟨_,on,I,L⟩:=mem_ready.1 hr;by_cases hjn:j=n;·subst hjn;have:o=on:=Aw (h3.symm.trans I);subst this;have:=L e he hb;rw[M] at this;exact this
  ·have hj:=ih (n-j) (by omega) j rfl (by omega);have:=h.closed j o h3 hj e he hb;rw[M] at this;exact this
theorem q4k {o:Oper} (h:o.guard=none) (f:Nat->Option Bool):Region.wanted o f=true:=by unfold Region.wanted;rw[h]
theorem v3j {u:Nat->Bool}:∀k,(∃i,i<=k/\u i=true)-> ∃i,i<=k/\u i=true/\ ∀j,j<i->u j=false
 | 0,⟨i,hi,h⟩=>⟨i,hi,h,fun j hj=>by omega⟩
 | k+1,⟨i,hi,h⟩=>by
  by_cases hk:∃i,i<=k/\u i=true;·obtain⟨i',h1,h2,h3⟩:=v3j k hk;exact⟨i',by omega,h2,h3⟩
  ·refine⟨i,hi,h,fun j hj=> ?_⟩;cases hu:u j with
   | false=>rfl
   | true=>exact absurd ⟨j,by omega,hu⟩ hk
theorem RdI.eval {n:Nat} {a0 aF a:Act} {listed:Array Bool} {w:World} (h:RdI md ops n a0 aF listed a) (H:RdH F P md ops n a0 aF w) {i:Nat} (hi:i<=n) {o:Oper} (ho:ops[i]?=some o) (hr:i∈Region.ready md ops listed):∀x∈o.op.operands,a.eval x=aF.eval x:=by
 intro x hx;obtain⟨_,o',M,I⟩:=mem_ready.1 hr;obtain rfl:o=o':=Aw (ho.symm.trans M);cases x with
 | tmp t=>
  have key:a.tmps[t]?=aF.tmps[t]?:=by
   by_cases hj:∃(j:Nat) (oj:Oper),j<n/\ops[j]?=some oj/\oj.dst=some t;·obtain⟨j,oj,h1,h2,h3⟩:=hj;obtain⟨e,he,hb,L⟩:=z4q H.deps hi ho hx h1 h2 h3;have:=I e he hb;rw[L] at this;exact h.new t j oj h1 h2 h3 this
   ·rw[h.old t (fun j oj h1 h2 h3=>absurd ⟨j,oj,h1,h2,h3⟩ hj),H.old t (fun j oj h1 h2 h3=>hj ⟨j,oj,h1,h2,h3⟩)]
  show a.tmps.getD t undef=aF.tmps.getD t undef;rw[BS,BS,key]
 | _=>rfl
theorem RdI.step {n:Nat} {a0 aF a:Act} {listed:Array Bool} {w:World} (h:RdI md ops n a0 aF listed a) (H:RdH F P md ops n a0 aF w) {i:Nat} (hi:i<n) {o:Oper} (ho:ops[i]?=some o) (hr:i∈Region.ready md ops listed) {v:Value} {d:Tmp} (hd:o.dst=some d) (hv:aF.tmps[d]?=some v):
  RdI md ops n a0 aF (listed.setIfInBounds i true) (a.put o.dst v):=by
 obtain⟨Y,o',U,O⟩:=mem_ready.1 hr;obtain rfl:o=o':=Aw (ho.symm.trans U);have S:i<listed.size:=by rw[h.size,H.size];omega
 have L:(a.put o.dst v).tmps=a.tmps.setIfInBounds d v:=by rw[hd];rfl
 have hds:d<a.tmps.size:=by rw[h.tsize,<- H.tsize];exact(AA.1 hv).1
 refine⟨by simp[h.size],by rw[getD_set_ne true (by omega)];exact h.last,fun j oj hj hl e he hb=> ?_,by rw[hd];exact h.defers,by rw[L,CG];exact h.tsize,fun t j oj h1 h2 h3 h4=> ?_,fun t I=> ?_⟩
 ·by_cases M:i=j;·subst M;obtain rfl:oj=o:=Aw (hj.symm.trans ho);exact getD_set_true (O e he hb)
  ·rw[getD_set_ne false M] at hl;exact getD_set_true (h.closed j oj hj hl e he hb)
 ·rw[L];by_cases ht:d=t;·subst ht;rw[BA hds,hv]
  ·rw[AX ht];have M:i≠j:=fun e=>by subst e;obtain rfl:oj=o:=Aw (h2.symm.trans ho);exact ht (Aw (hd.symm.trans h3))
   rw[getD_set_ne false M] at h4;exact h.new t j oj h1 h2 h3 h4
 ·rw[L];have ht:d≠t:=fun e=>by subst e;have:=I i o hi ho hd;simp[S] at this
  rw[AX ht];refine h.old t fun j oj h1 h2 h3=> ?_;have:=I j oj h1 h2 h3;cases hb:listed.getD j false with
  | false=>rfl
  | true=>rw[getD_set_true hb] at this;cases this
theorem v8o {n:Nat} {a0 aF:Act} {w:World} (H:RdH F P md ops n a0 aF w) (hn:∀o,ops[n]?=some o->o.wpIn F m P aF w (fun a w=>Q .normal a w) Q):∀(fuel:Nat) (listed:Array Bool) (a:Act),RdI md ops n a0 aF listed a->
  (List.range (n+1)).countP (fun i=> !listed.getD i true)<=fuel->wpAnyIn F m P md ops Q fuel listed a w:=by
 intro fuel
 induction fuel with
 | zero=>intro listed a h hc;have:0< (List.range (n+1)).countP (fun i=> !listed.getD i true):=List.countP_pos_iff.2 ⟨n,Av.2 (by omega),by rw[h.last];rfl⟩;omega
 | succ fuel ih=>
  intro listed a h hc
  have L:∀j,j<=n->listed.getD j true=true->listed.getD j false=true:=fun j hj hl=>by
   have:j<listed.size:=by rw[h.size,H.size];omega
   simp[this] at hl ⊢;exact hl
  refine⟨fun M=> ?_,fun i hr=> ?_⟩;·exfalso;obtain⟨i,h1,h2,h3⟩:=v3j (u:=fun i=> !listed.getD i true) n ⟨n,AG _,by simp only[h.last];rfl⟩;obtain⟨o,ho⟩:∃o,ops[i]?=some o:=⟨ops[i]'(by rw[H.size];omega),AS _⟩;have:i∈Region.ready md ops listed:=mem_ready.2 ⟨by simpa using h2,o,ho,fun e he hb=>by have hlt:=H.back i o ho e he hb;exact L e.on (by omega) (by simpa using h3 e.on hlt)⟩;rw[M] at this;cases this
  ·obtain⟨U,o,ho,h8⟩:=mem_ready.1 hr;have h4:i<=n:=by have:=(AA.1 ho).1;rw[H.size] at this;omega
   have h7:=h.eval H h4 ho hr;by_cases hin:i=n
   ·subst hin;have hg:=H.guard o ho;have S:=fun j hj=>h.all H.sink hr (i-j) j rfl hj
    have h5:a=aF:=by
     have ht:a.tmps=aF.tmps:=Cl fun t=>by
      by_cases hj:∃(j:Nat) (oj:Oper),j<i/\ops[j]?=some oj/\oj.dst=some t;·obtain⟨j,oj,h1,h2,h3⟩:=hj;exact h.new t j oj h1 h2 h3 (S j h1)
      ·rw[h.old t (fun j oj h1 h2 h3=>absurd ⟨j,oj,h1,h2,h3⟩ hj),H.old t (fun j oj h1 h2 h3=>hj ⟨j,oj,h1,h2,h3⟩)]
     have hd:a.defers=aF.defers:=h.defers.trans H.defers.symm;cases a;cases aF;simp only at ht hd;subst ht;subst hd;rfl
    subst h5;simp only[wpOpIn,ho,q4k hg,if_true];refine Oper.wpIn_mono (fun a' w' hq=> ?_) (hn o ho)
    have I:Region.ready md ops (listed.setIfInBounds i true)=[]:=by
     rw[Cs];intro j hj;obtain⟨h1,oj,h2,_⟩:=mem_ready.1 hj;have ha:j<=i:=by have:=(AA.1 h2).1;rw[H.size] at this;omega
     by_cases hji:i=j
     ·subst hji;have:i<listed.size:=by rw[h.size,H.size];omega
      simp[this] at h1
     ·rw[getD_set_ne true hji] at h1;have:=S j (by omega);have h6:j<listed.size:=by rw[h.size,H.size];omega
      simp[h6] at this h1;rw[this] at h1;cases h1
    cases fuel with
    | zero=>exact⟨I,hq⟩
    | succ f=>exact⟨fun _=>hq,fun j hj=>by rw[I] at hj;cases hj⟩
   ·have hlt:i<n:=by omega
    obtain⟨hg,hs,h9,v,d,hd,O,hv⟩:=H.run i o hlt ho;simp only[wpOpIn,ho,q4k hg,if_true];refine⟨fun f _=>H.fn f,?_⟩;rw[Oper.semAt_eq _ _ _ h9,execOp_congr o hs h7,O,Oper.uponIn_value];refine ih _ _ (h.step H hlt ho hr hd hv) ?_
    have hf:=q8n (p:=fun j=> !listed.getD j true) (q:=fun j=> !(listed.setIfInBounds i true).getD j true) (fun j hj=> ?_) (i:=i) (by simp only[U];rfl) (by
     have:i<listed.size:=by rw[h.size,H.size];omega
     simp[this]) (l:=List.range (n+1)) (Av.2 (by omega))
    ·omega
    ·by_cases hij:i=j;·subst hij;simp only[U];rfl
     ·have Y:(!(listed.setIfInBounds i true).getD j true)=true:=hj;rw[getD_set_ne true hij] at Y;exact Y
theorem q3v {id n:Nat} {a0 aF:Act} {w:World} (hm:P.follows .mixedOrders=true) (H:RdH F P .any ops n a0 aF w.drew)
  (hn:∀o,ops[n]?=some o->o.wpIn F m P aF w.drew (fun a w=>Q .normal a w) Q):(Code.region id ops true).wpIn F m P Q a0 w:=by
 have hf:∀j,(Array.replicate ops.size false).getD j false=false:=fun j=>by
  rcases Cc j ops.size with h|h;·simp[h]
  ·simp[h]
 have hl:(Array.replicate ops.size false).getD n true=false:=by
  have:n<ops.size:=by rw[H.size];omega
  simp[this]
 refine wpIn_region_any hm (v8o (w:=w.drew) H hn _ _ _ ⟨by simp,hl,fun j o _ h=>(by rw[hf j] at h;cases h),rfl,rfl,fun t i o _ _ _ h=>(by rw[hf i] at h;cases h),fun _ _=>rfl⟩ ?_);rw[H.size];exact AH List.countP_le_length (by simp)
end
end
section
section
variable {F:Fence} {m:Nat} {P:Program} {ops:Array Oper} {Q:Exit->Act->World->Prop} {md:Region.Mode}
structure RsI (md:Region.Mode) (ops:Array Oper) (n:Nat) (a0 aF:Act) (listed:Array Bool) (a:Act):Prop where
 size:listed.size=ops.size
 last:listed.getD n true=false
 closed:∀j o,ops[j]?=some o->listed.getD j false=true-> ∀e∈o.after,Region.binds md e=true->listed.getD e.on false=true
 defers:a.defers=a0.defers
 tsize:a.tmps.size=a0.tmps.size
 new:∀(t i:Nat) o,i<n->ops[i]?=some o->o.dst=some t->listed.getD i false=true->a.tmps[t]?=aF.tmps[t]?
 old:∀t:Nat,(∀(i:Nat) o,i<n->ops[i]?=some o->o.dst=some t->listed.getD i false=false)->a.tmps[t]?=a0.tmps[t]?
structure RsH (F:Fence) (P:Program) (md:Region.Mode) (ops:Array Oper) (n:Nat) (a0 aF:Act) (w:World) (s:Nat) (w1:World):Prop where
 size:ops.size=n+1
 deps:v3v md ops n=true
 sink:z7i md ops n=true
 fn:∀f,F.fn f
 defers:aF.defers=a0.defers
 tsize:aF.tmps.size=a0.tmps.size
 old:∀t:Nat,(∀(i:Nat) o,i<n->ops[i]?=some o->o.dst≠some t)->aF.tmps[t]?=a0.tmps[t]?
 back:∀(i:Nat) o,ops[i]?=some o-> ∀e∈o.after,Region.binds md e=true->e.on<i
 run:∀(i:Nat) o,i<n->i≠s->ops[i]?=some o->o.guard=none/\(∀cs b,o.op≠ .select cs b)/\(∀c,o.op≠ .defer c)/\ ∃v d,o.dst=some d/\(execOp aF.eval o).run P w= .ok (.value v) w/\(execOp aF.eval o).run P w1= .ok (.value v) w1/\aF.tmps[d]?=some v
 slt:s<n
 store:∀o,ops[s]?=some o->o.guard=none/\(∀cs b,o.op≠ .select cs b)/\(∀c,o.op≠ .defer c)/\o.dst=none/\(execOp aF.eval o).run P w= .ok .skip w1
 guard:∀o,ops[n]?=some o->o.guard=none
theorem RsI.all {n:Nat} {a0 aF a:Act} {listed:Array Bool} (h:RsI md ops n a0 aF listed a) (hs:z7i md ops n=true) (hr:n∈Region.ready md ops listed):∀(d i:Nat),n-i=d->i<n->listed.getD i false=true:=by
 intro d
 induction d using Nat.strongRecOn with
 | _ d ih=>
  intro i hd hi;obtain⟨j,o,h1,h2,h3,e,he,hb,M⟩:=z2a hs hi;obtain⟨_,on,I,L⟩:=mem_ready.1 hr;by_cases hjn:j=n;·subst hjn;have:o=on:=Aw (h3.symm.trans I);subst this;have:=L e he hb;rw[M] at this;exact this
  ·have hj:=ih (n-j) (by omega) j rfl (by omega);have:=h.closed j o h3 hj e he hb;rw[M] at this;exact this
theorem RsI.eval {n:Nat} {a0 aF a:Act} {listed:Array Bool} {w w1:World} {s:Nat} (h:RsI md ops n a0 aF listed a) (H:RsH F P md ops n a0 aF w s w1) {i:Nat} (hi:i<=n) {o:Oper} (ho:ops[i]?=some o) (hr:i∈Region.ready md ops listed):∀x∈o.op.operands,a.eval x=aF.eval x:=by
 intro x hx;obtain⟨_,o',M,I⟩:=mem_ready.1 hr;obtain rfl:o=o':=Aw (ho.symm.trans M);cases x with
 | tmp t=>
  have key:a.tmps[t]?=aF.tmps[t]?:=by
   by_cases hj:∃(j:Nat) (oj:Oper),j<n/\ops[j]?=some oj/\oj.dst=some t;·obtain⟨j,oj,h1,h2,h3⟩:=hj;obtain⟨e,he,hb,L⟩:=z4q H.deps hi ho hx h1 h2 h3;have:=I e he hb;rw[L] at this;exact h.new t j oj h1 h2 h3 this
   ·rw[h.old t (fun j oj h1 h2 h3=>absurd ⟨j,oj,h1,h2,h3⟩ hj),H.old t (fun j oj h1 h2 h3=>hj ⟨j,oj,h1,h2,h3⟩)]
  show a.tmps.getD t undef=aF.tmps.getD t undef;rw[BS,BS,key]
 | _=>rfl
theorem RsI.step {n:Nat} {a0 aF a:Act} {listed:Array Bool} {w w1:World} {s:Nat} (h:RsI md ops n a0 aF listed a) (H:RsH F P md ops n a0 aF w s w1) {i:Nat} (hi:i<n) {o:Oper} (ho:ops[i]?=some o) (hr:i∈Region.ready md ops listed) {v:Value} {d:Tmp} (hd:o.dst=some d) (hv:aF.tmps[d]?=some v):
  RsI md ops n a0 aF (listed.setIfInBounds i true) (a.put o.dst v):=by
 obtain⟨Y,o',U,O⟩:=mem_ready.1 hr;obtain rfl:o=o':=Aw (ho.symm.trans U);have S:i<listed.size:=by rw[h.size,H.size];omega
 have L:(a.put o.dst v).tmps=a.tmps.setIfInBounds d v:=by rw[hd];rfl
 have hds:d<a.tmps.size:=by rw[h.tsize,<- H.tsize];exact(AA.1 hv).1
 refine⟨by simp[h.size],by rw[getD_set_ne true (by omega)];exact h.last,fun j oj hj hl e he hb=> ?_,by rw[hd];exact h.defers,by rw[L,CG];exact h.tsize,fun t j oj h1 h2 h3 h4=> ?_,fun t I=> ?_⟩
 ·by_cases M:i=j;·subst M;obtain rfl:oj=o:=Aw (hj.symm.trans ho);exact getD_set_true (O e he hb)
  ·rw[getD_set_ne false M] at hl;exact getD_set_true (h.closed j oj hj hl e he hb)
 ·rw[L];by_cases ht:d=t;·subst ht;rw[BA hds,hv]
  ·rw[AX ht];have M:i≠j:=fun e=>by subst e;obtain rfl:oj=o:=Aw (h2.symm.trans ho);exact ht (Aw (hd.symm.trans h3))
   rw[getD_set_ne false M] at h4;exact h.new t j oj h1 h2 h3 h4
 ·rw[L];have ht:d≠t:=fun e=>by subst e;have:=I i o hi ho hd;simp[S] at this
  rw[AX ht];refine h.old t fun j oj h1 h2 h3=> ?_;have:=I j oj h1 h2 h3;cases hb:listed.getD j false with
  | false=>rfl
  | true=>rw[getD_set_true hb] at this;cases this
theorem RsI.stepS {n:Nat} {a0 aF a:Act} {listed:Array Bool} {w w1:World} {s:Nat} (h:RsI md ops n a0 aF listed a) (H:RsH F P md ops n a0 aF w s w1) {o:Oper} (ho:ops[s]?=some o) (hr:s∈Region.ready md ops listed) (hd:o.dst=none):
  RsI md ops n a0 aF (listed.setIfInBounds s true) a:=by
 obtain⟨S,o',O,M⟩:=mem_ready.1 hr;obtain rfl:o=o':=Aw (ho.symm.trans O);have Y:=H.slt;have U:s<listed.size:=by rw[h.size,H.size];omega
 refine⟨by simp[h.size],by rw[getD_set_ne true (by omega)];exact h.last,fun j oj hj hl e he hb=> ?_,h.defers,h.tsize,fun t j oj h1 h2 h3 h4=> ?_,fun t I=> ?_⟩
 ·by_cases L:s=j;·subst L;obtain rfl:oj=o:=Aw (hj.symm.trans ho);exact getD_set_true (M e he hb)
  ·rw[getD_set_ne false L] at hl;exact getD_set_true (h.closed j oj hj hl e he hb)
 ·have L:s≠j:=fun e=>by
   subst e;obtain rfl:oj=o:=Aw (h2.symm.trans ho);rw[hd] at h3;cases h3
  rw[getD_set_ne false L] at h4;exact h.new t j oj h1 h2 h3 h4
 ·refine h.old t fun j oj h1 h2 h3=> ?_;have:=I j oj h1 h2 h3;cases hb:listed.getD j false with
  | false=>rfl
  | true=>rw[getD_set_true hb] at this;cases this
theorem v8k {n:Nat} {a0 aF:Act} {w w1:World} {s:Nat} (H:RsH F P md ops n a0 aF w s w1) (hn:∀o,ops[n]?=some o->o.wpIn F m P aF w1 (fun a w=>Q .normal a w) Q):∀(fuel:Nat) (listed:Array Bool) (a:Act) (W:World),RsI md ops n a0 aF listed a->(W=if listed.getD s false=true then w1 else w)->
  (List.range (n+1)).countP (fun i=> !listed.getD i true)<=fuel->wpAnyIn F m P md ops Q fuel listed a W:=by
 intro fuel
 induction fuel with
 | zero=>intro listed a W h hW hc;have:0< (List.range (n+1)).countP (fun i=> !listed.getD i true):=List.countP_pos_iff.2 ⟨n,Av.2 (by omega),by rw[h.last];rfl⟩;omega
 | succ fuel ih=>
  intro listed a W h hW hc
  have h5:∀j,j<=n->listed.getD j true=true->listed.getD j false=true:=fun j hj hl=>by
   have:j<listed.size:=by rw[h.size,H.size];omega
   simp[this] at hl ⊢;exact hl
  refine⟨fun h6=> ?_,fun i hr=> ?_⟩;·exfalso;obtain⟨i,h1,h2,h3⟩:=v3j (u:=fun i=> !listed.getD i true) n ⟨n,AG _,by simp only[h.last];rfl⟩;obtain⟨o,ho⟩:∃o,ops[i]?=some o:=⟨ops[i]'(by rw[H.size];omega),AS _⟩;have:i∈Region.ready md ops listed:=mem_ready.2 ⟨by simpa using h2,o,ho,fun e he hb=>by have hlt:=H.back i o ho e he hb;exact h5 e.on (by omega) (by simpa using h3 e.on hlt)⟩;rw[h6] at this;cases this
  ·obtain⟨Y,o,ho,hi⟩:=mem_ready.1 hr;have ha:i<=n:=by have:=(AA.1 ho).1;rw[H.size] at this;omega
   have h8:=h.eval H ha ho hr;by_cases hin:i=n
   ·subst hin;have hg:=H.guard o ho;have h4:=fun j hj=>h.all H.sink hr (i-j) j rfl hj
    have hf:a=aF:=by
     have ht:a.tmps=aF.tmps:=Cl fun t=>by
      by_cases hj:∃(j:Nat) (oj:Oper),j<i/\ops[j]?=some oj/\oj.dst=some t;·obtain⟨j,oj,h1,h2,h3⟩:=hj;exact h.new t j oj h1 h2 h3 (h4 j h1)
      ·rw[h.old t (fun j oj h1 h2 h3=>absurd ⟨j,oj,h1,h2,h3⟩ hj),H.old t (fun j oj h1 h2 h3=>hj ⟨j,oj,h1,h2,h3⟩)]
     have hd:a.defers=aF.defers:=h.defers.trans H.defers.symm;cases a;cases aF;simp only at ht hd;subst ht;subst hd;rfl
    subst hf;rw[h4 s H.slt,if_pos rfl] at hW;subst hW;simp only[wpOpIn,ho,q4k hg,if_true];refine Oper.wpIn_mono (fun a' w' hq=> ?_) (hn o ho)
    have L:Region.ready md ops (listed.setIfInBounds i true)=[]:=by
     rw[Cs];intro j hj;obtain⟨h1,oj,h2,_⟩:=mem_ready.1 hj;have hm:j<=i:=by have:=(AA.1 h2).1;rw[H.size] at this;omega
     by_cases hji:i=j
     ·subst hji;have:i<listed.size:=by rw[h.size,H.size];omega
      simp[this] at h1
     ·rw[getD_set_ne true hji] at h1;have:=h4 j (by omega);have S:j<listed.size:=by rw[h.size,H.size];omega
      simp[S] at this h1;rw[this] at h1;cases h1
    cases fuel with
    | zero=>exact⟨L,hq⟩
    | succ f=>exact⟨fun _=>hq,fun j hj=>by rw[L] at hj;cases hj⟩
   ·have hlt:i<n:=by omega
    have I:(List.range (n+1)).countP (fun j=> !(listed.setIfInBounds i true).getD j true)<=fuel:=by
     have hp:=q8n (p:=fun j=> !listed.getD j true) (q:=fun j=> !(listed.setIfInBounds i true).getD j true) (fun j hj=> ?_) (i:=i) (by simp only[Y];rfl) (by
      have:i<listed.size:=by rw[h.size,H.size];omega
      simp[this]) (l:=List.range (n+1)) (Av.2 (by omega))
     ·omega
     ·by_cases hij:i=j;·subst hij;simp only[Y];rfl
      ·have h9:(!(listed.setIfInBounds i true).getD j true)=true:=hj;rw[getD_set_ne true hij] at h9;exact h9
    by_cases his:i=s
    ·subst his;obtain⟨hg,hs,h7,hd,M⟩:=H.store o ho
     have hh:listed.getD i false=false:=by
      have S:i<listed.size:=by rw[h.size,H.size];omega
      simp[S] at Y ⊢;exact Y
     rw[hh,if_neg (by decide)] at hW;subst hW;simp only[wpOpIn,ho,q4k hg,if_true];refine⟨fun f _=>H.fn f,?_⟩;rw[Oper.semAt_eq _ _ _ h7,execOp_congr o hs h8,M];have hk:a.put o.dst undef=a:=by rw[hd];rfl
     rw[Oper.uponIn_skip,hk];refine ih _ _ _ (h.stepS H ho hr hd) ?_ I;have S:i<listed.size:=by rw[h.size,H.size];omega
     rw[if_pos (by simp[S])]
    ·obtain⟨hg,hs,h7,v,d,hd,U,O,hv⟩:=H.run i o hlt his ho
     have M:(execOp aF.eval o).run P W= .ok (.value v) W:=by
      rw[hW];split;·exact O
      ·exact U
     simp only[wpOpIn,ho,q4k hg,if_true];refine⟨fun f _=>H.fn f,?_⟩;rw[Oper.semAt_eq _ _ _ h7,execOp_congr o hs h8,M,Oper.uponIn_value];exact ih _ _ _ (h.step H hlt ho hr hd hv) (by rw[getD_set_ne false his];exact hW) I
theorem q5c {id n:Nat} {a0 aF:Act} {w w1:World} {s:Nat} (hm:P.follows .mixedOrders=true) (H:RsH F P .any ops n a0 aF w.drew s w1)
  (hn:∀o,ops[n]?=some o->o.wpIn F m P aF w1 (fun a w=>Q .normal a w) Q):(Code.region id ops true).wpIn F m P Q a0 w:=by
 have hf:∀j,(Array.replicate ops.size false).getD j false=false:=fun j=>by
  rcases Cc j ops.size with h|h;·simp[h]
  ·simp[h]
 have hl:(Array.replicate ops.size false).getD n true=false:=by
  have:n<ops.size:=by rw[H.size];omega
  simp[this]
 refine wpIn_region_any hm (v8k (w:=w.drew) H hn _ _ _ _ ⟨by simp,hl,fun j o _ h=>(by rw[hf j] at h;cases h),rfl,rfl,fun t i o _ _ _ h=>(by rw[hf i] at h;cases h),fun _ _=>rfl⟩ (by rw[hf s,if_neg (by decide)];rfl) ?_);rw[H.size];exact AH List.countP_le_length (by simp)
end
end
end Go.Proofs.YtibiekfjbibpbaaGreat
