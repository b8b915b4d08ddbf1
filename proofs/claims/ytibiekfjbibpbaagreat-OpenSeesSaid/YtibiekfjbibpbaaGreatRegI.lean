import Derived.StillTail
import Derived.Test.YtibiekfjbibpbaaGreatRdM
set_option linter.unusedVariables false
set_option linter.unusedSimpArgs false
namespace Go.Proofs.YtibiekfjbibpbaaGreat
open Go
section
variable {P:Program} {ops:Array Oper} {Q:Exit->Act->World->Prop} {md:Region.Mode}
def z4l (n m:Nat):Array Bool:=(List.replicate n true++List.replicate m false).toArray
theorem x8g {n g:Nat} (hs:Region.sinkB md ops n=true) (hc:Region.chainB md ops n=true) (hb:v5x md ops=true) (hn:n<ops.size) (hg:n+g=ops.size) (I:Array Bool->Act->World->Prop)
  (L:∀listed a w i o,i<n->ops[i]?=some o->listed.getD i true=false->(∀e∈o.after,Region.binds md e=true->listed.getD e.on false=true)->I listed a w->wpOp P ops Q i (I (listed.setIfInBounds i true)) a w)
  (h5:∀a w,I (z4l n g) a w->wpAny P md ops Q g (z4l n g) a w):
  ∀(f:Nat) (listed:Array Bool) (a:Act) (w:World),HeadInv md ops n listed->(List.range n).countP (fun i=> !listed.getD i true)=f->I listed a w->wpAny P md ops Q (f+g) listed a w:=by
 intro f
 induction f with
 | zero=>
  intro listed a w inv hf hI;have h6:∀i,i<n->listed.getD i true=true:=fun i hi=>by have h1:=List.countP_eq_zero.1 hf i (Av.2 hi);simpa using h1
  have e:listed=z4l n g:=by
   apply Cl;intro i;have h9:=inv.size;by_cases hi:i<n
   ·have h1:=h6 i hi;have h2:i<listed.size:=by omega
    rw[BS,AS h2] at h1;rw[AS h2];simp only[Option.getD_some] at h1;rw[h1,z4l,Az,Aa (by simpa using hi),Cm,if_pos hi]
   ·by_cases hi2:i<ops.size
    ·have h1:=inv.tail i (by omega) hi2;have h2:i<listed.size:=by omega
     rw[BS,AS h2] at h1;rw[AS h2];simp only[Option.getD_some] at h1;rw[h1,z4l,Az,Ac (by simp;omega),Cm,if_pos (by simp;omega)]
    ·rw[CO (by omega),z4l,Az,Ax (by simp;omega)]
  subst e;rw[AQ];exact h5 a w hI
 | succ f ih=>
  intro listed a w inv hf hI;rw[show f+1+g=(f+g)+1 by omega]
  obtain⟨i0,hl,M⟩:∃i,i<n/\listed.getD i true=false:=by
   refine Classical.byContradiction fun hk=> ?_
   have:(List.range n).countP (fun i=> !listed.getD i true)=0:=List.countP_eq_zero.2 fun i hi=>by
    cases hu:listed.getD i true with
    | true=>simp
    | false=>exact absurd ⟨i,Av.1 hi,hu⟩ hk
   omega
  refine⟨fun hr=> ?_,fun i hi=> ?_⟩
  ·exfalso;obtain⟨i,hp,hu,U⟩:=v3j (u:=fun i=> !listed.getD i true) i0 ⟨i0,AG _,by simp[M]⟩;have S:i<n:=by omega
   have h9:=inv.size;have h8:i<ops.size:=by omega
   have O:i∈Region.ready md ops listed:=by
    refine mem_ready.2 ⟨by simpa using hu,ops[i],AS h8,fun e he ha=> ?_⟩;have h1:=q4j hb i _ (AS h8) e he ha;have h2:=U e.on h1;have h3:listed.getD e.on true=true:=by simpa using h2
    rw[BS] at h3 ⊢;rw[AS (show e.on<listed.size by omega)] at h3 ⊢;exact h3
   rw[hr] at O;cases O
  ·have S:i<n:=by
    rcases Cc i n with h|h;·exact h
    ·exact absurd hi (tail_waits hs hc hn inv _ i0 rfl hl M i h)
   obtain⟨h7,o,ho,Y⟩:=mem_ready.1 hi;refine wpOp_mono (fun a' w' h'=>ih _ a' w' (inv.set hi S) ?_ h') (L listed a w i o S ho h7 Y hI);have h9:=inv.size;have hlt:i<listed.size:=by omega
   have key:∀(l:List Nat),l.Nodup->i∈l->l.countP (fun j=> !(listed.setIfInBounds i true).getD j true)+1=l.countP (fun j=> !listed.getD j true):=by
    intro l
    induction l with
    | nil=>intro _ h;cases h
    | cons x l ihl=>
     intro hh hm;obtain⟨hx,h4⟩:=Br.1 hh;rw[Cx,Cx];by_cases hxi:x=i
     ·subst hxi;have h1:l.countP (fun j=> !(listed.setIfInBounds x true).getD j true)=l.countP (fun j=> !listed.getD j true):=by refine List.countP_congr fun j hj=> ?_;have:j≠x:=fun e=>hx (e▸hj);rw[getD_set_ne true (fun e=>this e.symm)]
      have h2:(listed.setIfInBounds x true).getD x true=true:=by simp[hlt]
      rw[h1,h2,h7];simp
     ·have h2:=ihl h4 (by rcases AN.1 hm with h|h;exact absurd h.symm hxi;exact h);rw[getD_set_ne true (fun e=>hxi e.symm)];omega
   have:=key (List.range n) List.nodup_range (Av.2 S);omega
def invB (md:Region.Mode) (ops:Array Oper) (n:Nat):Bool:=decide (n<ops.size)&&Region.sinkB md ops n&&Region.chainB md ops n&&v5x md ops&&Region.seqB md ops (ops.size-n) n (z4l n (ops.size-n))
theorem q9z {id:Nat} {a:Act} {w:World} {l:List Oper} (n:Nat) (I:Array Bool->Act->World->Prop) (hm:P.follows .mixedOrders=true) (hB:invB .any l.toArray n=true)
  (h0:I (Array.replicate l.toArray.size false) a w.drew)
  (L:∀listed a w i o,i<n->l.toArray[i]?=some o->listed.getD i true=false->(∀e∈o.after,Region.binds .any e=true->listed.getD e.on false=true)->I listed a w->wpOp P l.toArray Q i (I (listed.setIfInBounds i true)) a w)
  (M:∀a w,I (z4l n (l.toArray.size-n)) a w->wpList P l.toArray Q (l.drop n) a w):(Code.region id l.toArray true).wp P Q a w:=by
 simp only[invB,Bool.and_eq_true,decide_eq_true_eq] at hB;obtain⟨⟨⟨⟨hn,hs⟩,hc⟩,hb⟩,O⟩:=hB;refine wp_region_any hm ?_;have U:HeadInv .any l.toArray n (Array.replicate l.toArray.size false):=⟨by simp,fun j oj _ hl=>(by rw[getD_replicate_false] at hl;cases hl),fun t _ ht=>getD_in (by simpa using ht) (getD_replicate_false _ _)⟩
 have S:(List.range n).countP (fun i=> !(Array.replicate l.toArray.size false).getD i true)=n:=by
  have:(List.range n).countP (fun i=> !(Array.replicate l.toArray.size false).getD i true)=(List.range n).length:=List.countP_eq_length.2 fun i hi=>by have h1:=Av.1 hi;simp only[List.size_toArray] at hn;simp[show i<l.length by omega]
  rw[this,CT]
 have H:=x8g (P:=P) (Q:=Q) (md:= .any) (g:=l.toArray.size-n) hs hc hb hn (by omega) I L (fun a w hI=>by
  have Y:(l.drop n).length=l.toArray.size-n:=by simp
  have:=wpAny_of_seq (md:= .any) (Q':=Q) (l.drop n) n (z4l n (l.toArray.size-n)) a w (fun j=>by simp[List.getElem?_drop]) (by rw[Y];exact O) (M a w hI)
  rwa[Y] at this) n _ a w.drew U S h0
 rw[show n+(l.toArray.size-n)=l.toArray.size by omega] at H;exact H
theorem q1f {i:Nat} {o:Oper} {a:Act} {w:World} {K:Act->World->Prop} (ho:ops[i]?=some o) (hg:o.guard=none) (h:o.wp P a w K Q):wpOp P ops Q i K a w:=by unfold wpOp;rw[ho];simp only[q4k hg,if_true];exact Or.inl h
theorem q0k {o:Oper} {a:Act} {w:World} {K:Act->World->Prop} {v:Value} (h:(execOp a.eval o).run P w= .ok (.value v) w) (hK:K (a.put o.dst v) w):o.wp P a w K Q:=by unfold Oper.wp;rw[h];exact hK
theorem q4l {o:Oper} {a:Act} {w:World} {K:Act->World->Prop} {f:FuncId} {args:Array Value} (h:(execOp a.eval o).run P w= .ok (.enter f args) w) (hK:Calls P f args w fun e w'=> ∃v,e= .returned v/\K (a.put o.dst v) w'):o.wp P a w K Q:=by unfold Oper.wp;rw[h,Oper.upon_enter];refine hK.mono ?_;rintro e w' ⟨v,rfl,hv⟩;exact hv
def upd (x:Nat->Value) (i:Nat) (v:Value):Nat->Value:=fun j=>if j=i then v else x j
def z8q (Fact:Nat->Value->World->Prop) (listed:Array Bool) (x:Nat->Value) (w:World):Prop:= ∀i,listed.getD i false=true->Fact i (x i) w
theorem z8q.step {I:Nat->Value->World->Prop} {listed:Array Bool} {x:Nat->Value} {w w':World} {i:Nat} {v:Value} (h:z8q I listed x w) (hs:∀j v,I j v w->I j v w') (hv:I i v w'):z8q I (listed.setIfInBounds i true) (upd x i v) w':=by
 intro j hj;unfold upd;by_cases e:j=i;·rw[if_pos e,e];exact hv
 ·rw[if_neg e];rw[getD_set_ne false (fun h=>e h.symm)] at hj;exact hs j _ (h j hj)
end
end Go.Proofs.YtibiekfjbibpbaaGreat
