import Derived.Test.YtibiekfjbibpbaaGreatArnP
set_option maxRecDepth 100000
set_option maxHeartbeats 2000000
set_option linter.unusedVariables false
set_option linter.unusedSimpArgs false
namespace Go.Proofs.YtibiekfjbibpbaaGreat
open Go.RowKit
theorem q9r {R:AR} {s j:Nat} (h:AROk R) (hs:s<=R.slabs):(R.taken s j).bs.length=R.bs.length:=q3n _ (by have:=h.len;omega)
theorem z4v {R:AR} {s j:Nat} (h:AROk R) (hs:s<=R.slabs) (hj:j<=15) (hw:wdN R.bs (1024*s+8)=2^j-1):wdN (R.taken s j).bs (1024*s+8)=2^ (j+1)-1:=by
 have hp:=z1r hj;have M:1<=2^j:=DB;have L:((2:Int)^j)=((2^j:Nat):Int):=by simp
 have I:((2:Int)^ (j+1))=2*((2^j:Nat):Int):=by rw[Int.pow_succ,L];omega
 have e:=v0q (bs:=R.bs) (a:=1024*s+8) (x:=(wdN R.bs (1024*s+8)).toNat+2^j) (by have:=h.len;omega) (by rw[hw,L];generalize 2^j=P at hp M ⊢;omega);show wdN (putW R.bs (1024*s+8) _) (1024*s+8)=_;rw[e,hw,I,L];generalize 2^j=P at hp M ⊢;omega
theorem q6j {R:AR} {s j t:Nat} (h:AROk R) (hs:s<=R.slabs) (hn:t≠s):wdN (R.taken s j).bs (1024*t+8)=wdN R.bs (1024*t+8):=z2z (by have:=h.len;omega) (by omega)
theorem AROk.newNode {R:AR} (h:AROk R):AROk R.newNode.1:=by
 have h0:=h.newNode0;have hr:=q6d R;unfold AR.newNode;generalize R.newNode0=Q at h0 hr ⊢;by_cases hv:Q.node=0;·rw[if_pos hv];exact h0
 ·rw[if_neg hv];have hs:Q.node<=Q.slabs:=AH h0.nod h0.us;have hj:=h0.ns;have I:=hr hv;refine⟨by show(Q.taken Q.node Q.nodes).bs.length=_;rw[q9r h0 hs];exact h0.len,h0.s64,h0.us,h0.val,h0.nod,h0.vs,by show Q.nodes+1<=5;omega,q7z h0.byt _ _,fun s h1 h2=> ?_,fun hn=> ?_,fun hn=> ?_,h0.two⟩;·have L:Q.used<s:=h1;show wdN (Q.taken Q.node Q.nodes).bs _=0;rw[q6j h0 hs (by have:=h0.nod;omega)];exact h0.fresh s h1 h2
  ·show wdN (Q.taken Q.node Q.nodes).bs (1024*Q.value+8)=_;rw[q6j h0 hs (fun e=>h0.two hn hv e)];exact h0.hv hn
  ·exact z4v h0 hs (by omega) (h0.hn hv)
theorem AROk.newValue {R:AR} (h:AROk R):AROk R.newValue.1:=by
 have h0:=h.newValue0;have hr:=q5p R;unfold AR.newValue;generalize R.newValue0=Q at h0 hr ⊢;by_cases hv:Q.value=0;·rw[if_pos hv];exact h0
 ·rw[if_neg hv];have hs:Q.value<=Q.slabs:=AH h0.val h0.us;have hj:=h0.vs;have I:=hr hv;refine⟨by show(Q.taken Q.value Q.values).bs.length=_;rw[q9r h0 hs];exact h0.len,h0.s64,h0.us,h0.val,h0.nod,by show Q.values+1<=15;omega,h0.ns,q7z h0.byt _ _,fun s h1 h2=> ?_,fun hn=> ?_,fun hn=> ?_,h0.two⟩;·have L:Q.used<s:=h1;show wdN (Q.taken Q.value Q.values).bs _=0;rw[q6j h0 hs (by have:=h0.val;omega)];exact h0.fresh s h1 h2
  ·exact z4v h0 hs (by omega) (h0.hv hv)
  ·show wdN (Q.taken Q.value Q.values).bs (1024*Q.node+8)=_;rw[q6j h0 hs (fun e=>h0.two hv hn e.symm)];exact h0.hn hn
theorem AROk.rounds {R:AR} (h:AROk R) (I per:Nat) (l:List (Int×Int)):∀k,AROk (R.rounds I per l k).1
 | 0=>h
 | k+1=>(AROk.rounds h I per l k).newNode
theorem z0m {R:AR} (h:AROk R) (hn:R.newNode.2≠0):∃s j,R.newNode.2=1024*s+64+192*j/\1<=s/\s<=R.newNode.1.slabs/\j<=4:=by
 have h0:=h.newNode0;have hr:=q6d R;unfold AR.newNode at hn ⊢;generalize R.newNode0=Q at h0 hr hn ⊢;by_cases hv:Q.node=0;·rw[if_pos hv] at hn;exact absurd rfl hn
 ·rw[if_neg hv];exact⟨Q.node,Q.nodes,rfl,by omega,AH h0.nod h0.us,by have:=h0.ns;have:=hr hv;omega⟩
theorem x0x {R:AR} (h:AROk R) (hn:R.newValue.2≠0):∃s j,R.newValue.2=1024*s+64+64*j/\1<=s/\s<=R.newValue.1.slabs/\j<=14:=by
 have h0:=h.newValue0;have hr:=q5p R;unfold AR.newValue at hn ⊢;generalize R.newValue0=Q at h0 hr hn ⊢;by_cases hv:Q.value=0;·rw[if_pos hv] at hn;exact absurd rfl hn
 ·rw[if_neg hv];exact⟨Q.value,Q.values,by show 1024*Q.value+64*(Q.values+1)=_;omega,by omega,AH h0.val h0.us,by have:=h0.vs;have:=hr hv;omega⟩
theorem x1u {R:AR} (h:AROk R) (c:Nat):(R.slab c).1.bs.length=R.bs.length:=(h.slab (c:=c)).1
theorem z2f {R:AR} (h:AROk R):R.newNode.1.bs.length=R.bs.length:=by
 have h0:=h.newNode0
 have e0:R.newNode0.bs.length=R.bs.length:=by
  unfold AR.newNode0;split;·exact x1u h 3
  ·rfl
 unfold AR.newNode;generalize R.newNode0=Q at h0 e0 ⊢;by_cases hv:Q.node=0;·rw[if_pos hv];exact e0
 ·rw[if_neg hv];show(Q.taken Q.node Q.nodes).bs.length=_;rw[q9r h0 (AH h0.nod h0.us),e0]
theorem z8w {R:AR} (h:AROk R):R.newValue.1.bs.length=R.bs.length:=by
 have h0:=h.newValue0
 have e0:R.newValue0.bs.length=R.bs.length:=by
  unfold AR.newValue0;split;·exact x1u h 1
  ·rfl
 unfold AR.newValue;generalize R.newValue0=Q at h0 e0 ⊢;by_cases hv:Q.value=0;·rw[if_pos hv];exact e0
 ·rw[if_neg hv];show(Q.taken Q.value Q.values).bs.length=_;rw[q9r h0 (AH h0.val h0.us),e0]
attribute [local go_sem ↓ high] x3c v7q x9o x1r z7q q0v q0s
attribute [local go_sem] q1x q1p q1v x9b x7n q0h
theorem x3n {per k:Nat} {l:List (Int×Int)} (hp:0<per) (h1:k=0\/k*per<l.length):k<q1t per l:=by
 unfold q1t;rcases h1 with rfl|h1;·omega
 ·have:k+1<=(l.length+per-1)/per:=by
   rw[Nat.le_div_iff_mul_le hp,DC];omega
  omega
structure LvI (w:World) (g b n:Nat) (lv:Value) (l:List (Int×Int)) (ev:Value) (Nb:Nat) (rv:Value) (Q:AR) (row:List (Nat×NodeA)) (W:World):Prop where
 ar:ArIs W g b n Q lv
 row:rowA W w.heap.size rv row
 en:W.ownsRow Nb 166 2 ev l.length (l.flatMap entC)
 only:Only [g,b] w W
theorem LvI.bel {w:World} {g b n:Nat} {lv:Value} {l:List (Int×Int)} {ev:Value} {Nb:Nat} {rv:Value} {Q:AR} {row:List (Nat×NodeA)} {W W':World} (h:LvI w g b n lv l ev Nb rv Q row W) (hb:Below W.heap.size W W'):LvI w g b n lv l ev Nb rv Q row W':=⟨h.ar.bel hb,(Only.of_below hb []).own h.row (by simp),(Only.of_below hb []).own h.en (by simp),h.only.trans (Only.of_below hb []) (by simp)⟩
theorem q6u {W:World} {base g:Nat} {e t:TypeId} {size n:Nat} {v:Value} {xs:List Value} {cs:Array Value} (h:W.ownsRow base e size v n xs) (hg:Blk W g t cs) (L:e≠t):∀k,v.ownBlock=some k->k≠g:=by
 intro k hk he;subst he;rcases h.2 with⟨h1,_⟩|⟨g',I,M,h1,h2,h3,_⟩;·rw[h1] at hk;cases hk
 ·rw[h1] at hk;have:g'=k:=by simpa[Value.ownBlock] using hk
  subst this;exact(show Blk W g' e M from h3).ne_ hg L rfl
theorem LvI.arena {w:World} {g b n:Nat} {lv:Value} {l:List (Int×Int)} {ev:Value} {Nb:Nat} {rv:Value} {Q Q':AR} {row:List (Nat×NodeA)} {W W':World} (h:LvI w g b n lv l ev Nb rv Q row W) (hA:ArIs W' g b n Q' lv) (ho:Only [g,b] W W'):LvI w g b n lv l ev Nb rv Q' row W':=by
 refine⟨hA,ho.own h.row (fun k hk hm=> ?_),ho.own h.en (fun k hk hm=> ?_),h.only.trans ho (fun _ h=>Or.inl h)⟩
 ·simp at hm;rcases hm with rfl|rfl;·exact q6u h.row h.ar.blk (by decide) _ hk rfl
  ·exact q6u h.row h.ar.by' (by decide) _ hk rfl
 ·simp at hm;rcases hm with rfl|rfl;·exact q6u h.en h.ar.blk (by decide) _ hk rfl
  ·exact q6u h.en h.ar.by' (by decide) _ hk rfl
def ndTo (nd:NodeA) (own:List (Int×Int)) (j:Nat):NodeA:={ nd with k:=fun i=>if i<j then(own.getD i (0,0)).1 else 0,p:=fun i=>if i<j then(own.getD i (0,0)).2 else 0 }
theorem x8z (nd:NodeA) {own:List (Int×Int)} {j:Nat} {x:Int×Int} (h:own[j]?=some x):({ ({ ndTo nd own j with k:=fun i=>if i=j then x.1 else(ndTo nd own j).k i }:NodeA) with p:=fun i=>if i=j then x.2 else(ndTo nd own j).p i }:NodeA)=ndTo nd own (j+1):=by
 have hx:own.getD j (0,0)=x:=by rw[Ag,h];rfl
 unfold ndTo;simp only[NodeA.mk.injEq,true_and];constructor
 ·funext i;by_cases e:i=j;·subst e;simp[h]
  ·by_cases q:i<j;·simp[e,q,show i<j+1 by omega]
   ·simp[e,q,show ¬i<j+1 by omega]
 ·funext i;by_cases e:i=j;·subst e;simp[h]
  ·by_cases q:i<j;·simp[e,q,show i<j+1 by omega]
   ·simp[e,q,show ¬i<j+1 by omega]
theorem v1u (nd:NodeA) (own:List (Int×Int)):ndTo nd own own.length={ nd with k:=fun i=>(own.getD i (0,0)).1,p:=fun i=>(own.getD i (0,0)).2 }:=by
 unfold ndTo;simp only[NodeA.mk.injEq,true_and];constructor
 ·funext i;by_cases q:i<own.length;·simp[q]
  ·simp[q,List.getD_eq_getElem?_getD,List.getElem?_eq_none (Nat.le_of_not_lt q)]
 ·funext i;by_cases q:i<own.length;·simp[q]
  ·simp[q,List.getD_eq_getElem?_getD,List.getElem?_eq_none (Nat.le_of_not_lt q)]
theorem z1o {W:World} {oo:Option Addr} {mo oc:Nat} {own:List (Int×Int)} (h:q1l W (.slice oo mo oc) own) (h0:0<own.length):∃eb off,oo=some ⟨eb,off,none⟩/\eb<W.heap.size/\ ∀i,i<own.length->W.cell? ⟨eb,off+i*2,none⟩=some (.int .u64 (own.getD i (0,0)).1)/\W.cell? ⟨eb,off+i*2+1,none⟩=some (.int .u64 (own.getD i (0,0)).2):=by
 obtain⟨ao,cap,h1,h2⟩:=h;injection h1 with h1 _ _;subst h1;rcases h2 with rfl|⟨eb,off,rfl,hlt,hc⟩;·exact absurd h0 (Nat.lt_irrefl _)
 ·refine⟨eb,off,rfl,hlt,fun i hi=> ?_⟩;have:=hc i own[i] (AD hi);rw[Ag,AD hi];exact this
theorem q9d {W:World} {oo:Option Addr} {mo oc:Nat} {own:List (Int×Int)} (h:q1l W (.slice oo mo oc) own):mo=own.length:=by obtain⟨ao,cap,h1,h2⟩:=h;injection h1
def nd0 (lvl:Nat) (low fi:Int):NodeA:=⟨lvl,low,0,0,fi,fun _=>0,fun _=>0⟩
theorem v2c {L k:Nat} {at':Nat} {own I:List (Int×Int)} {L1 L2 P1 F1:Int} (h1:L1=(own.getD 0 (0,0)).1) (h2:P1=(own.getD 0 (0,0)).2) (h3:L2=(if(k==0)=true then 0 else L1)) (h4:I=own.drop (if L=0 then 0 else 1)) (h5:F1=(if L=0 then(at':Int) else P1)):ndTo (nd0 L L2 F1) I I.length=ndOf L at' (k==0) own:=by rw[v1u,h3,h5,h1,h2,h4];rfl
theorem ArIs.only {W W':World} {g b n:Nat} {R:AR} {lv:Value} {f:List Nat} (h:ArIs W g b n R lv) (ho:Only f W W') (hg:g∉f) (hb:b∉f):ArIs W' g b n R lv:=⟨ho.blk h.blk hg,ho.blk h.by' hb,h.ln,h.big,h.byt⟩
theorem z3m {W:World} {base L:Nat} {e t:TypeId} {size I n n':Nat} {v v':Value} {xs Y:List Value} (h:W.ownsRow base e size v n xs) (h':W.ownsRow L t I v' n' Y) (S:e≠t):∀k,v.ownBlock=some k->k∉v'.ownBlock.toList:=by
 intro k hk hm;have M:v'.ownBlock=some k:=by simpa[Option.mem_toList] using hm
 rcases h'.2 with⟨h1,_⟩|⟨g',O,U,h1,h2,h3,_⟩;·rw[h1] at M;cases M
 ·rw[h1] at M;have:g'=k:=by simpa[Value.ownBlock] using M
  subst this;exact q6u h (show Blk W g' t U from h3) S _ hk rfl
theorem q4d {W:World} {base g:Nat} {e t:TypeId} {size n:Nat} {v:Value} {xs:List Value} {cs:Array Value} (h:W.ownsRow base e size v n xs) (hg:Blk W g t cs) (L:e≠t):g∉v.ownBlock.toList:=by
 intro hm;have I:v.ownBlock=some g:=by simpa[Option.mem_toList] using hm
 exact q6u h hg L _ I rfl
theorem LvI.push {w:World} {g b n:Nat} {lv:Value} {l:List (Int×Int)} {ev:Value} {Nb:Nat} {rv L:Value} {Q:AR} {row I:List (Nat×NodeA)} {W W':World} (h:LvI w g b n lv l ev Nb rv Q row W) (ho:Only rv.ownBlock.toList W W') (hr:rowA W' w.heap.size L I):LvI w g b n lv l ev Nb L Q I W':=by
 refine⟨h.ar.only ho (q4d h.row h.ar.blk (by decide)) (q4d h.row h.ar.by' (by decide)),hr,ho.own h.en (z3m h.en h.row (by decide)),h.only.trans ho (fun y hy=>Or.inr ?_)⟩;have M:rv.ownBlock=some y:=by simpa[Option.mem_toList] using hy
 exact(h.row.lt y M).1
def LvsA (W:World) (N:Nat) (lv:Value) (rows:List (List (Nat×NodeA))):Prop:=∃vs:List Value,vs.length=rows.length/\W.ownsRow N 45 1 lv rows.length vs/\ ∀(i:Nat) (row:List (Nat×NodeA)),rows[i]?=some row-> ∃v,vs[i]?=some v/\v.oneCell'=true/\rowA W N v row
theorem v6i:(Tryz.prog.info? 45).map (fun i=>(i.zero,i.size,i.bytes))=some (some (.slice none 0 0),1,24):=by kernel_rfl
theorem LvsA.only {W W':World} {N:Nat} {lv:Value} {rows:List (List (Nat×NodeA))} {f:List Nat} (h:LvsA W N lv rows) (ho:Only f W W') (hf:∀k∈f,W.heap.size<=k\/ ∃t cs,Blk W k t cs/\57≠t/\45≠t):LvsA W' N lv rows:=by
 obtain⟨vs,h1,h2,h3⟩:=h;refine⟨vs,h1,ho.own h2 (fun k hk hm=> ?_),fun i row hi=> ?_⟩
 ·rcases hf k hm with h|⟨t,cs,hb,_,hn⟩;·have:=(h2.lt k hk).2;omega
  ·exact q6u h2 hb hn _ hk rfl
 ·obtain⟨v,q1,q3,q2⟩:=h3 i row hi;refine⟨v,q1,q3,ho.own q2 (fun k hk hm=> ?_)⟩;rcases hf k hm with h|⟨t,cs,hb,hn,_⟩;·have:=(q2.lt k hk).2;omega
  ·exact q6u q2 hb hn _ hk rfl
theorem v1e {W:World} {N g b n:Nat} {R:AR} {lv:Value} {rows:List (List (Nat×NodeA))} {row:List (Nat×NodeA)} {rv:Value} (hL:ArIs W g b n R lv) (hV:LvsA W N lv rows) (S:rowA W N rv row) (hN:N<=W.heap.size) (h9:rows.length<=1000) (h1:rv.oneCell'=true):
  ∃va vc w9,q0n Tryz.prog #[37,37] 37 #[lv,.slice (some ⟨W.heap.size,0,none⟩) 1 1] (W.alloc (.cells #[rv] 45))= .ok (.slice va (rows.length+1) vc) w9/\(∃y,w9.cell? ⟨g,7,none⟩=some y)/\w9.frozen? ⟨g,7,none⟩=false/\
   ArIs (w9.setCell ⟨g,7,none⟩ (.slice va (rows.length+1) vc)) g b n R (.slice va (rows.length+1) vc)/\LvsA (w9.setCell ⟨g,7,none⟩ (.slice va (rows.length+1) vc)) N (.slice va (rows.length+1) vc) (rows++[row])/\Only (g::lv.ownBlock.toList) W (w9.setCell ⟨g,7,none⟩ (.slice va (rows.length+1) vc)):=by
 obtain⟨vs,q1,q2,q3⟩:=hV;obtain⟨i0,h7,h4,h6,h5⟩:=info_parts v6i;have Y:(W.alloc (.cells #[rv] 45)).ownsRow N 45 1 lv rows.length vs:=((Only.refl [] W).alloc _).own q2 (by simp);obtain⟨v',w9,hA⟩:=q2b (P:=Tryz.prog) (W.alloc (.cells #[rv] 45)) N 37 37 45 i0 _ 1 24 Tryz.underlying37 h7 h4 h6 h5 rfl (by decide) lv rows.length _ Y (.slice (some ⟨W.heap.size,0,none⟩) 1 1) 1 [rv] (Or.inr ⟨W.heap.size,0,1,rfl,fun i u hi=>by rw[(Blk.new W 45 #[rv]).cell (0+i),AQ];simpa using hi⟩) rfl (fun u hu=>by rw[AF.1 hu];exact h1) (by unfold maxLen;omega) (by omega) (by simp;omega);have M:=hA.own;have h3:=hA.grown;have h8:=hA.ob;obtain⟨va,vc,rfl⟩:=q0q M;have o9:Only lv.ownBlock.toList W w9:=(((Only.refl [] W).alloc _).mono (fun _ h=>by cases h)).trans (Only.of_grown (f:=lv.ownBlock.toList) h3 (fun y hy=>by simp[hy])) (fun y hy=>Or.inl hy);have I:ArIs w9 g b n R lv:=hL.only o9 (q4d q2 hL.blk (by decide)) (q4d q2 hL.by' (by decide));have oS:Only [g] w9 (w9.setCell ⟨g,7,none⟩ (.slice va (rows.length+1) vc)):=(Only.refl _ _).setCell (Or.inl (by simp)) _;have O:Only (g::lv.ownBlock.toList) W (w9.setCell ⟨g,7,none⟩ (.slice va (rows.length+1) vc)):=(o9.mono (fun _ h=>AW _ h)).trans oS (fun x hx=>Or.inl (by rw[AF.1 hx];exact Ae ..))
 have L:∀v r,rowA W N v r->rowA (w9.setCell ⟨g,7,none⟩ (.slice va (rows.length+1) vc)) N v r:=by
  intro v r hr;refine O.own hr (fun k hk hm=> ?_);rcases AN.1 hm with e|e;·exact q6u hr hL.blk (by decide) _ hk e
  ·exact z3m hr q2 (by decide) k hk e
 have U:g∉ (Value.slice va (rows.length+1) vc).ownBlock.toList:=q4d M I.blk (by decide);refine⟨va,vc,w9,hA.run,⟨_,I.blk.cell 7⟩,I.blk.frozen 7,⟨I.blk.set_ 7 _,oS.blk I.by' (by have:=I.ne;simp;exact fun e=>this e.symm),I.ln,I.big,I.byt⟩,⟨vs++[rv],by simp[q1],?_,fun i r hi=> ?_⟩,O⟩;·have:=oS.own M (fun k hk hm=>U (by simp at hm;subst hm;simpa[Option.mem_toList] using hk));rw[AI,Bj];exact this
 ·by_cases hlt:i<rows.length;·rw[Aa hlt] at hi;obtain⟨v,e1,e3,e2⟩:=q3 i r hi;exact⟨v,by rw[Aa (by omega)];exact e1,e3,L v r e2⟩
  ·have h2:=(AE.1 hi).1;simp at h2;have:i=rows.length:=by omega
   subst this;rw[Ac (AG _),Bz] at hi;injection hi with hi;subst hi;refine⟨rv,?_,h1,L rv row S⟩;rw[Ac (by omega),q1,Bz];rfl
theorem z1v {own:List (Int×Int)} (h:∀x∈own,U64 x.1/\U64 x.2) (i:Nat):U64 (own.getD i (0,0)).1/\U64 (own.getD i (0,0)).2:=by
 rw[Ag];cases hx:own[i]? with
 | none=>exact⟨⟨by decide,by decide⟩,⟨by decide,by decide⟩⟩
 | some x=>exact h x (AJ hx)
theorem v5j {I a:Nat} {z:Bool} {own:List (Int×Int)} (hl:I<=15) (ha:a<18446744073709551616) (hk:∀x∈own,U64 x.1/\U64 x.2):NdOK (ndOf I a z own):=by
 have h0:U64 (0:Int):=⟨by omega,by omega⟩;have hd:∀x∈own.drop (if I=0 then 0 else 1),U64 x.1/\U64 x.2:=fun x hx=>hk x (Ak hx);refine⟨⟨by show(0:Int)<=(I:Int);omega,by show(I:Int)<=15;omega⟩,?_,h0,h0,?_,fun i=>(z1v hd i).1,fun i=>(z1v hd i).2⟩
 ·show U64 (if z then 0 else(own.getD 0 (0,0)).1);split;·exact h0
  ·exact(z1v hk 0).1
 ·show U64 (if I=0 then(a:Int) else(own.getD 0 (0,0)).2);split;·unfold U64;constructor<;>omega
  ·exact(z1v hk 0).2
theorem q9e {R:AR} (h:AROk R) (I per:Nat) (l:List (Int×Int)):∀k,(R.rounds I per l k).1.bs.length=R.bs.length
 | 0=>rfl
 | k+1=>by show(R.rounds I per l k).1.newNode.1.bs.length=_;rw[z2f (h.rounds I per l k),q9e h I per l k]
theorem z3g {R:AR} (h:AROk R) {I per:Nat} {l:List (Int×Int)} (hl:I<=15) (hk:∀x∈l,U64 x.1/\U64 x.2):∀k,R.roomy I per l k-> ∀x∈(R.rounds I per l k).2,x.1+192<=R.bs.length/\NdOK x.2
 | 0,_,x,hx=>by cases hx
 | k+1,hr,x,hx=>by
  rcases An.1 (show x∈(R.rounds I per l k).2++[_] from hx) with hx|hx;·exact z3g h hl hk k (fun i hi=>hr i (by omega)) x hx
  ·have M:=hr k (by omega);obtain⟨s,j,e1,_,e2,e3⟩:=z0m (h.rounds I per l k) M;have O:=(h.rounds I per l (k+1)).len;have U:=q9e h I per l (k+1);have S:s<=(R.rounds I per l (k+1)).1.slabs:=e2;have L:=(h.rounds I per l (k+1)).s64;rw[AF.1 hx];refine⟨by show(R.rounds I per l k).1.newNode.2+192<=_;rw[e1];omega,v5j hl (by rw[e1];omega) (fun y hy=>hk y ?_)⟩;unfold ownK at hy;exact Ak (Ab hy)
theorem q2r {row:List (Nat×NodeA)} {j i:Nat} {x:Nat×NodeA} (h:row[i]?=some x):(q2h row j)[i]?=some (x.1,if i<j/\i+1<row.length then{ x.2 with nx:=((row.getD (i+1) (0,q2w)).1:Int) } else x.2):=by unfold q2h;rw[List.getElem?_mapIdx,h];rfl
theorem z8u {row:List (Nat×NodeA)} {i:Nat} {x:Nat×NodeA} (h:row[i]?=some x) (h1:i+1<row.length):(q2h row i).set i (x.1,{ x.2 with nx:=((row.getD (i+1) (0,q2w)).1:Int) })=q2h row (i+1):=by
 apply Bf;intro k;rw[List.getElem?_set];by_cases hk:i=k;·subst hk;rw[if_pos rfl,if_pos (by rw[q1i];omega),q2r h,if_pos ⟨by omega,h1⟩]
 ·rw[if_neg hk];cases hx:row[k]? with
  | none=>have hl:=DG.1 hx;rw[Ax (by rw[q1i];exact hl),Ax (by rw[q1i];exact hl)]
  | some y=>
   rw[q2r hx,q2r hx];have:(k<i/\k+1<row.length)=(k<i+1/\k+1<row.length):=by apply propext;constructor<;>(rintro⟨h1,h2⟩;exact⟨by omega,h2⟩)
   simp only[this]
theorem z9u {row:List (Nat×NodeA)} {i:Nat} (h1: ¬i+1<row.length):q2h row i=q2h row (i+1):=by
 apply Bf;intro k;cases hx:row[k]? with
 | none=>have hl:=DG.1 hx;rw[Ax (by rw[q1i];exact hl),Ax (by rw[q1i];exact hl)]
 | some y=>
  rw[q2r hx,q2r hx];have:(k<i/\k+1<row.length)=(k<i+1/\k+1<row.length):=by apply propext;constructor<;>(rintro⟨h1,h2⟩;exact⟨by omega,h2⟩)
  simp only[this]
theorem x9m {row:List (Nat×NodeA)} {i:Nat} {x:Nat×NodeA} (h:row[i]?=some x):(q9h row)[i]?=(q2h row (i+1))[i]?:=by
 have hl:=(AE.1 h).1;unfold q9h;rw[q2r h,q2r h];have:(i<row.length/\i+1<row.length)=(i<i+1/\i+1<row.length):=by apply propext;constructor<;>(rintro⟨h1,h2⟩;exact⟨by omega,h2⟩)
 simp only[this]
theorem x0k {R:AR} {row:List (Nat×NodeA)} {i:Nat} {x:Nat×NodeA} (h:(q9h row)[i]?=some x):R.layRow row (i+1)=(R.layRow row i).lay x.1 x.2:=by unfold AR.layRow;rw[Ai,h,Option.toList_some,Co];rfl
theorem z7f {row:List (Nat×NodeA)} {M:Nat} (hM:M<=1000000) (h:∀x∈row,x.1+192<=M/\NdOK x.2) (j:Nat):∀x∈q2h row j,x.1+192<=M/\NdOK x.2:=by
 intro x hx;obtain⟨i,hi⟩:=Bu hx;have hl:i<row.length:=by have:=(AE.1 hi).1;rw[q1i] at this;exact this
 have hy:row[i]?=some row[i]:=AD hl;rw[q2r hy] at hi;injection hi with hi;have h0:=h _ (AJ hy);subst hi;refine⟨h0.1,?_⟩;show NdOK (if _ then _ else _);split;·rename_i hc;have hz:row[i+1]?=some row[i+1]:=AD hc.2;have h2:=h _ (AJ hz);refine⟨h0.2.lv,h0.2.low,?_,h0.2.ct,h0.2.fi,h0.2.k,h0.2.p⟩;show U64 ((row.getD (i+1) (0,q2w)).1:Int);rw[Ag,hz];show U64 ((row[i+1].1:Nat):Int);unfold U64;constructor<;>omega
 ·exact h0.2
structure LyJ (w:World) (g b n:Nat) (lv:Value) (rv:Value) (Q:AR) (row:List (Nat×NodeA)) (W:World):Prop where
 ar:ArIs W g b n Q lv
 row:rowA W w.heap.size rv row
 only:Only [g,b] w W
theorem LyJ.arena {w:World} {g b n:Nat} {lv:Value} {rv:Value} {Q Q':AR} {row:List (Nat×NodeA)} {W W':World} (h:LyJ w g b n lv rv Q row W) (hA:ArIs W' g b n Q' lv) (ho:Only [b] W W'):LyJ w g b n lv rv Q' row W':=by refine⟨hA,ho.own h.row (fun k hk hm=> ?_),h.only.trans ho (fun _ h=>Or.inl (by simp at h ⊢;exact Or.inr h))⟩;simp at hm;subst hm;exact q6u h.row h.ar.by' (by decide) _ hk rfl
theorem LyJ.set {w:World} {g b n rb m c:Nat} {lv:Value} {Q:AR} {row I:List (Nat×NodeA)} {W:World} (h:LyJ w g b n lv (.slice (some ⟨rb,0,none⟩) m c) Q row W) (hm:m=row.length) (hl:I.length=row.length) (i:Nat) (v:Value) (hs:(atsV row).set i v=atsV I):LyJ w g b n lv (.slice (some ⟨rb,0,none⟩) m c) Q I (W.setCell ⟨rb,i,none⟩ v):=by
 subst hm;have ho:Only [rb] W (W.setCell ⟨rb,i,none⟩ v):=(Only.refl _ _).setCell (Or.inl (by simp)) _;have h1:g≠rb:=by have:=q4d h.row h.ar.blk (by decide);intro e;exact this (by simp[Value.ownBlock,e])
 have h2:b≠rb:=by have:=q4d h.row h.ar.by' (by decide);intro e;exact this (by simp[Value.ownBlock,e])
 refine⟨h.ar.only ho (by simpa using h1) (by simpa using h2),?_,h.only.trans ho (fun y hy=>Or.inr ?_)⟩;·have:=v0k h.row i v;rw[hs] at this;unfold rowA;rw[hl];exact this
 ·simp at hy;subst hy;exact(h.row.lt _ rfl).1
theorem LyJ.bel {w:World} {g b n:Nat} {lv:Value} {rv:Value} {Q:AR} {row:List (Nat×NodeA)} {W W':World} (h:LyJ w g b n lv rv Q row W) (hb:Below W.heap.size W W'):LyJ w g b n lv rv Q row W':=⟨h.ar.bel hb,(Only.of_below hb []).own h.row (by simp),h.only.trans (Only.of_below hb []) (by simp)⟩
theorem z3l {W:World} {N rb m c:Nat} {row:List (Nat×NodeA)} {i:Nat} {xx:Nat×NodeA} (h:rowA W N (.slice (some ⟨rb,0,none⟩) m c) row) (I:row[i]?=some xx):ldR Tryz.prog 55 (.pointer (some ⟨rb,i*22+1,none⟩)) W= .ok (.agg (q0x xx.2)) W:=by
 have hl:=(AE.1 I).1;rcases h.2 with⟨h1,_⟩|⟨g',L,M,h1,h2,h3,h4,h5,h6,h7⟩;·cases h1
 ·injection h1 with h1 hm hc;injection h1 with h1;injection h1 with h1;subst h1 hc hm;have hB:Blk W rb 57 M:=h3;refine hB.ldAt (i*22+1) (fun j v hv=> ?_) Tryz.underlying55 rfl (by kernel_rfl);have hj:j<21:=(AA.1 hv).1;rw[<- hB.cell,h.cellAt _ (by omega),Ce,q6i I (1+j) (by omega),v3x _ _ hj];exact hv
theorem z5y {W:World} {base I:Nat} {e:TypeId} {size n:Nat} {v:Value} {xs:List Value} (h:W.ownsRow base e size v n xs) (hb:I<=base):W.ownsRow I e size v n xs:=by
 rcases h.2 with h1|⟨g,cap,L,h1,h2,h3⟩;·exact⟨h.1,Or.inl h1⟩
 ·exact⟨h.1,Or.inr ⟨g,cap,L,h1,AH hb h2,h3⟩⟩
def LvPs (w:World) (N g b n:Nat) (R:AR) (lv:Value) (rows:List (List (Nat×NodeA))) (lvl per:Nat) (l:List (Int×Int)) (e:Ending) (w':World):Prop:=
 Only (g::b::lv.ownBlock.toList) w w'/\
 ((e= .returned (.bool false)/\ ¬R.roomy lvl per l (q1t per l))\/
  (e= .returned (.bool true)/\R.roomy lvl per l (q1t per l)/\ ∃lv',ArIs w' g b n (R.level lvl per l) lv'/\LvsA w' N lv' (rows++[R.levelRow lvl per l])))
theorem v0o (N g b n:Nat) (R:AR) (lv:Value) (rows:List (List (Nat×NodeA))) (I per:Nat) (l:List (Int×Int)) (ev:Value) (Nb:Nat) (qz:I<=15) (hp:2<=per) (qj:per<=8) (hl:l.length<=1000) (v1:I≠0->l≠[]) (hk:∀x∈l,U64 x.1/\U64 x.2) (w:World) (h:ArIs w g b n R lv) (zz:AROk R)
  (he:w.ownsRow Nb 166 2 ev l.length (l.flatMap entC)) (hN:N<=w.heap.size) (hL:LvsA w N lv rows) (qg:rows.length<=100):
  Calls Tryz.prog 116 #[.pointer (some ⟨g,0,none⟩),.int .i64 (I:Int),ev,.int .i64 (per:Int)] w fun e w'=>LvPs w N g b n R lv rows I per l e w':=by
 have qm:Hid (LvI w g b n lv l ev Nb (.slice none 0 0) (R.rounds I per l 0).1 (R.rounds I per l 0).2 w):=hid ⟨h,World.ownsRow_nil _ _ _ _,he,Only.refl _ _⟩;have qp:Hid (R.roomy I per l 0):=hid (fun k hk=>absurd hk (BP _));obtain⟨eo,ec,zp⟩:∃eo ec,ev= .slice eo l.length ec:=q0q he;obtain⟨m,hm⟩:∃m,m=l.length:=⟨_,rfl⟩;rw[zp,<- hm];have kg:=hid (⟨zp,hm⟩:_/\_);have H:=hid h;have z7:=hid zz;have HL:=hid (⟨hN,hL,qg⟩:_/\_/\_);have HM:=hid (⟨hm,qz,hp,qj,hl,v1,hk⟩:m=l.length/\I<=15/\2<=per/\per<=8/\l.length<=1000/\(I≠0->l≠[])/\(∀x∈l,U64 x.1/\U64 x.2));clear h zz he zp hm qz hp qj hl v1 hk hN hL qg;go_enter Tryz.func116,Tryz.ntmps116;go_wp2;go_loopw [9,10] (fun rv fv wr=> ∃(k fr:Nat) (ro:Option Addr) (rc:Nat),Hid (fr=k*per/\(k=0\/fr<m))/\fv= .int .i64 (fr:Int)/\rv= .slice ro k rc/\Hid (LvI w g b n lv l ev Nb (.slice ro k rc) (R.rounds I per l k).1 (R.rounds I per l k).2 wr)/\Hid (R.roomy I per l k)) (fun _ fv _=>m+1- (intOf fv).toNat);case atStart=>exact⟨0,0,none,0,hid ⟨by omega,Or.inl rfl⟩,rfl,rfl,qm,qp⟩
 case round=>
  obtain⟨k,fr,ro,rc,hK,rfl,rfl,hI,hR⟩:=hrel;obtain⟨wA,rfl⟩:∃y,y=wr:=⟨_,rfl⟩;have hM:=HM.out;have k9:=hK.out;have z9:fr<=m:=by rcases k9.2 with h|h;(rw[k9.1,h];omega);omega
  clear qm qp;go_upto_region 3 with fail;go_cut [24] from 17 to 24 (fun c wc=>c= .bool true/\Hid (wc=wA))
  case first=>
   by_cases q:fr<m
   ·have i1:(fr:Int)< (m:Int):=by omega
    clear q hM k9 z9;go_wp2;go_meet;exact⟨rfl,hid rfl⟩
   ·have i1: ¬(fr:Int)< (m:Int):=by omega
    have e0:((fr:Int)==0)=true:=by
     have:fr=0:=by rcases k9.2 with h|h;(rw[k9.1,h];omega);omega
     simp[this]
    clear q hM k9 z9;go_wp2;go_meet;exact⟨rfl,hid rfl⟩
  case rest=>
   obtain⟨rfl,kz⟩:=hcut;obtain rfl:=kz.out;clear kz;obtain⟨s,hs⟩:∃s,s=fr+per:=⟨_,rfl⟩;obtain⟨tt,zr⟩:∃tt,tt=min s m:=⟨_,rfl⟩;have ws:IntKind.i64.wrap ((fr:Int)+(per:Int))=(s:Int):=by rw[IntWalk.i64_in _ (by constructor<;>omega)];omega
   have wm:min (s:Int) (m:Int)=(tt:Int):=by omega
   have NN:=hid (x4j g b n (R.rounds I per l k).1 lv wc hI.out.ar (z7.out.rounds I per l k));have HT:=hid (⟨hs,zr,z9⟩:_/\_/\_);obtain⟨at',ko⟩:∃a,a=(R.rounds I per l k).1.newNode.2:=⟨_,rfl⟩;rw[<- ko] at NN;have zl:=hid ko;have z0:=hI.out.ar.big;have k8:=z7.out.rounds I per l (k+1);obtain⟨Q,hQ⟩:∃Q,Q=(R.rounds I per l k).1.newNode.1:=⟨_,rfl⟩;have k8:AROk Q:=by rw[hQ];exact k8
   have qk:n=Q.bs.length:=by rw[hQ,z2f (z7.out.rounds I per l k)];exact hI.out.ar.ln
   have ho:at'≠0->at'+192<=n:=by intro zv;rw[ko] at zv;obtain⟨s1,j1,e1,_,e2,e3⟩:=z0m (z7.out.rounds I per l k) zv;rw[ko,e1];rw[show(R.rounds I per l k).1.newNode.1=Q from hQ.symm] at e2;have h1:=k8.len;have h2:n=Q.bs.length:=qk;omega
   rw[<- hQ] at NN;obtain⟨own,U⟩:∃own,own=ownK per l k:=⟨_,rfl⟩;obtain⟨mo,kq⟩:∃mo,mo=own.length:=⟨_,rfl⟩;have z4:mo+fr=tt:=by rw[kq,U];unfold ownK;rw[AU,At,<- k9.1,<- hM.1];omega
   have HQ:=hid (⟨ko,hQ,U,kq⟩:_/\_/\_/\_);have kd:=hid (⟨hs,zr,z9,z4,z0⟩:_/\_/\_/\_/\_);clear HT zl;clear hs zr ko z9 k9 hM k8 hQ qk U kq z4 z0;go_wp2_with fail;refine NN.out.mono ?_;rintro e w2 ⟨rfl,qv,k7⟩;have zd:=hid (hI.out.arena qv k7);clear qv k7;by_cases qa:at'=0
   ·have b0:((at':Int)==0)=true:=by simp[qa]
    have HF:Hid (¬R.roomy I per l (q1t per l)):=hid (fun hh=>hh k (x3n (by have:=HM.out;omega) (by have h1:=HM.out;have h2:=hK.out;rw[<- h1.1,<- h2.1];exact h2.2)) (by rw[<- HQ.out.1];exact qa));clear ho qa;go_wp2;go_ret;exact⟨zd.out.only.mono (by intro x hx;simp at hx ⊢;rcases hx with h|h;exact Or.inl h;exact Or.inr (Or.inl h)),Or.inl ⟨rfl,HF.out⟩⟩
   ·have b0:((at':Int)==0)=false:=by simp;omega
    have kc:=ho qa;have vk:IntKind.u64.wrap (at':Int)=(at':Int):=IntWalk.u64_in _ (by have:=kd.out;constructor<;>omega);have zl:=hid (⟨qa,kc⟩:_/\_);clear ho qa kc;have k3:Blk (w2.alloc (.cells #[.int .u64 0,.int .i64 0,.int .u64 0,.int .u64 0,.int .u64 0,.int .u64 0,.int .u64 0,.int .u64 0,.int .u64 0,.int .u64 0,.int .u64 0,.int .u64 0,.int .u64 0,.int .u64 0,.int .u64 0,.int .u64 0,.int .u64 0,.int .u64 0,.int .u64 0,.int .u64 0,.int .u64 0,.int .u64 0] 57)) w2.heap.size 57 (atC 0 q2w):=Blk.new _ _ _;obtain⟨w4,v5,qx,qd⟩:=y0j (a':=(at':Int)) (n':=nd0 I 0 at') k3;have v9:∀W,v2s Tryz.prog 55 #[(0,.int .i64 (I:Int)),(4,.int .u64 (at':Int))] W= .ok (.agg (q0x (nd0 I 0 at'))) W:=fun W=>x4y I at' W;have zg:=fun W=>v2i (at':Int) (nd0 I 0 at') W;have q7:Below w2.heap.size w2 w4:=(ba (Below.refl _ _) _).trans (qd.below (fun y hy=>by simp at hy;omega) (by simp));obtain⟨B,hB⟩:∃B,B=w2.heap.size:=⟨_,rfl⟩;have ke:Hid (Below B w2 w4/\Blk w4 B 57 (atC at' (nd0 I 0 at'))):=hid (by rw[hB];exact⟨q7,qx⟩);clear k3 qx qd q7;go_upto_region 10 with fail;rw[<- hB];have HB:=hid hB;clear hB v5 v9 zg b0 vk ws wm NN;go_cut [14,16] from 14 to 48 (fun o z wc=>z=undef/\ ∃oo oc,o= .slice oo mo oc/\mo<=oc/\Hid (q1l w2 (.slice oo mo oc) own)/\Hid (wc=w4))
    case first=>
     obtain⟨ao,cap,h1,h2,h3⟩:=x5z zd.out.en fr mo (by have h4:=kd.out;have h5:=kg.out.2;omega);rw[kg.out.1] at h1;injection h1 with h1 _ h1c;subst h1 h1c;have U:(l.drop fr).take mo=own:=by have h6:=HQ.out;rw[h6.2.2.2,h6.2.2.1];unfold ownK;rw[hK.out.1,AU];exact(List.take_eq_take_min).symm
     rw[U] at h3;have i1:(0:Int)<=(fr:Int):=by omega
     have hT:=kd.out;have i2:(fr:Int)<=(tt:Int):=by omega
     rcases h3 with⟨rfl,hl,rfl⟩|⟨eb,rfl,hE⟩
     ·have k5:m=0:=by rw[kg.out.2,hl];rfl
      have f0:fr=0:=by omega
      have t0:tt=0:=by omega
      have m0:mo=0:=by omega
      subst f0 t0 m0 k5;have HE:Hid (q1l w2 (.slice none 0 0) own):=hid (by have:own=[]:=BC HQ.out.2.2.2.symm;rw[this];exact⟨none,0,rfl,Or.inl rfl⟩);clear h2 U i1 i2 hT hl;go_wp2;go_meet;exact⟨rfl,_,_,rfl,AG _,HE,hid rfl⟩
     ·have i3:(tt:Int)<=(ec:Int):=by have:=kg.out.2;omega
      have HE:=hid (hE (ec-fr));have e1:(tt:Int)- (fr:Int)=(mo:Int):=by omega
      have e2:tt-fr=mo:=by omega
      have ve:Hid (mo<=ec-fr):=hid (by have:=kg.out.2;omega);by_cases qc:fr=ec
      ·have m0:mo=0:=by have:=kg.out.2;omega
       have e3:(ec:Int)- (fr:Int)=0:=by omega
       have zn:Hid (q1l w2 (.slice (some ⟨eb,0,none⟩) 0 0) own):=hid (by have:own=[]:=BC (by rw[<- HQ.out.2.2.2,m0]);rw[this];exact⟨_,_,rfl,Or.inl rfl⟩);subst qc m0;clear h2 U hT hE;go_wp2;go_meet;exact⟨rfl,_,_,rfl,AG _,zn,hid rfl⟩
      ·have e3: ¬(ec:Int)- (fr:Int)=0:=by have:=kg.out.2;omega
       have e4: ¬fr=ec:=qc;clear h2 U hT hE qc;go_wp2;go_meet;exact⟨rfl,_,_,rfl,ve.out,HE,hid rfl⟩
    case rest=>
     obtain⟨rfl,oo,oc,rfl,vg,hE,kz⟩:=hcut;obtain rfl:=kz.out;clear kz;obtain⟨L1,hr⟩:∃x,x=(own.getD 0 (0,0)).1:=⟨_,rfl⟩;obtain⟨P1,hz⟩:∃x,x=(own.getD 0 (0,0)).2:=⟨_,rfl⟩;have qo:=hid (⟨hr,hz⟩:_/\_);have kb:=hid (q9d hE.out);go_upto_if 51 with fail;go_cut [] from 50 to 57 (fun wd=>Hid (Below B w2 wd/\Blk wd B 57 (atC at' (nd0 I L1 at'))))
     case first=>
      by_cases q:0<mo
      ·have i1:(0:Int)< (mo:Int):=by omega
       obtain⟨eb,off,rfl,ki,hc⟩:=z1o (hE.out.bel (by rw[<- HB.out];exact ke.out.1)) (by have:=kb.out;omega);have c0:wc.cell? ⟨eb,off,none⟩=some (.int .u64 L1):=by have:=(hc 0 (by have:=kb.out;omega)).1;rw[hr];simpa using this
       have d2:wc.cell? ⟨B,2,none⟩=some (.int .u64 0):=ke.out.2.cell 2;have f2:=ke.out.2.frozen 2;have HN:Hid (Below B w2 (wc.setCell ⟨B,2,none⟩ (.int .u64 L1))/\Blk (wc.setCell ⟨B,2,none⟩ (.int .u64 L1)) B 57 (atC at' (nd0 I L1 at'))):=hid ⟨ke.out.1.setCell (AG _) _,ke.out.2.set_ 2 _⟩;clear hr hz hc ki;go_wp2;go_meet;exact HN
      ·have i1: ¬(0:Int)< (mo:Int):=by omega
       have HN:Hid (Below B w2 wc/\Blk wc B 57 (atC at' (nd0 I L1 at'))):=by
        have e:L1=0:=by rw[hr,Ag,Ax (by have:=kb.out;omega)];rfl
        rw[e];exact ke
       clear hr hz;go_wp2;go_meet;exact HN
     case rest=>
      obtain⟨kr,rfl⟩:∃x,x=wc:=⟨_,rfl⟩;clear ke;obtain⟨L2,k4⟩:∃x,x=(if(k==0)=true then 0 else L1):=⟨_,rfl⟩;have vi:=hid k4;go_upto_if 59 with fail;go_cut [] from 59 to 61 (fun wd=>Hid (Below B w2 wd/\Blk wd B 57 (atC at' (nd0 I L2 at'))))
      case first=>
       by_cases q:fr=0
       ·have b1:((fr:Int)==0)=true:=by simp[q]
        have k0:k=0:=by
         have h1:=hK.out.1;have h2:=HM.out;rcases Bt k with h|h;·exact h
         ·have:per<=k*per:=Nat.le_mul_of_pos_left _ h;omega
        have e0:L2=0:=by rw[k4,k0];rfl
        have d2:∃y,kr.cell? ⟨B,2,none⟩=some y:=⟨_,hcut.out.2.cell 2⟩;obtain⟨y2,d2⟩:=d2;have f2:=hcut.out.2.frozen 2;have HN:Hid (Below B w2 (kr.setCell ⟨B,2,none⟩ (.int .u64 0))/\Blk (kr.setCell ⟨B,2,none⟩ (.int .u64 0)) B 57 (atC at' (nd0 I L2 at'))):=by rw[e0];exact hid ⟨hcut.out.1.setCell (AG _) _,hcut.out.2.set_ 2 _⟩
        clear hr hz q k0 k4 e0;go_wp2;go_meet;exact HN
       ·have b1:((fr:Int)==0)=false:=by simp;omega
        have e0:L2=L1:=by have:k≠0:=fun h=>q (by rw[hK.out.1,h];omega);rw[k4];simp[this]
        have HN:Hid (Below B w2 kr/\Blk kr B 57 (atC at' (nd0 I L2 at'))):=by rw[e0];exact hcut
        clear hr hz q k4 e0;go_wp2;go_meet;exact HN
      case rest=>
       obtain⟨kp,rfl⟩:∃x,x=wc:=⟨_,rfl⟩;have kk:=hcut;clear hcut;obtain⟨L,M⟩:∃x,x=own.drop (if I=0 then 0 else 1):=⟨_,rfl⟩;obtain⟨F1,kf⟩:∃x,x=(if I=0 then(at':Int) else P1):=⟨_,rfl⟩;have v3:=hid (⟨M,kf⟩:_/\_);go_upto_if 63 with fail;go_cut [14,16] from 14 to 71 (fun o z wd=>z=undef/\ ∃o2 m2 c2,o= .slice o2 m2 c2/\Hid (q1l w2 (.slice o2 m2 c2) L)/\Hid (Below B w2 wd/\Blk wd B 57 (atC at' (nd0 I L2 F1))))
       case first=>
        by_cases q:0<I
        ·have i1:(0:Int)< (I:Int):=by omega
         have kq:0<mo:=by
          have h1:=HM.out;have h2:=hK.out;have h3:=kd.out;have h4:m≠0:=by intro e;exact h1.2.2.2.2.2.1 (by omega) (BC (by omega))
          have h5:fr<m:=by rcases h2.2 with h|h;(rw[h2.1,h];omega);exact h
          omega
         obtain⟨eb,off,rfl,ki,hc⟩:=z1o (hE.out.bel (by rw[<- HB.out];exact kk.out.1)) (by have:=kb.out;omega);have c1:kp.cell? ⟨eb,off+1,none⟩=some (.int .u64 P1):=by have:=(hc 0 (by have:=kb.out;omega)).2;rw[hz];simpa using this
         have d5:kp.cell? ⟨B,5,none⟩=some (.int .u64 at'):=kk.out.2.cell 5;have f5:=kk.out.2.frozen 5;have hF:F1=P1:=by rw[kf,if_neg (by omega)]
         have HN:Hid (Below B w2 (kp.setCell ⟨B,5,none⟩ (.int .u64 P1))/\Blk (kp.setCell ⟨B,5,none⟩ (.int .u64 P1)) B 57 (atC at' (nd0 I L2 F1))):=by rw[hF];exact hid ⟨kk.out.1.setCell (AG _) _,kk.out.2.set_ 5 _⟩
         have k7:L=own.drop 1:=by rw[M,if_neg (by omega)]
         have vl:=hid k7;have j1:(1:Int)<=(mo:Int):=by omega
         have j2:(mo:Int)<=(oc:Int):=by omega
         have e1:(mo:Int)-1=((mo-1:Nat):Int):=by omega
         have qh:Hid (q1l w2 (.slice (some ⟨eb,off+2,none⟩) (mo-1) (oc-1)) L):=by
          obtain⟨ao,cap,h1,h2⟩:=hE.out;injection h1 with h1 _ _;subst h1;have zi:=kb.out;refine hid ⟨_,oc-1,by rw[k7,At,zi],?_⟩;rcases h2 with h2|⟨b',o',h3,h4,h5⟩;·rw[h2] at zi;simp at zi;omega
          ·injection h3 with h3;injection h3 with h6 h7;subst h6 h7;refine Or.inr ⟨_,_,rfl,h4,fun i x hi=> ?_⟩;rw[k7,Ar] at hi;have:=h5 (1+i) x hi;rw[show off+(1+i)*2=off+2+i*2 by omega] at this;exact this
         by_cases qc:oc=1
         ·have m1:mo=1:=by omega
          have zn:Hid (q1l w2 (.slice (some ⟨eb,off,none⟩) 0 0) L):=hid (by
           have:L=[]:=by rw[k7];exact BC (by rw[At,<- kb.out,m1])
           rw[this];exact⟨_,_,rfl,Or.inl rfl⟩)
          subst qc m1;clear hr hz k4 M kf hF k7 hc ki qh kq e1 vg;go_wp2;go_meet;exact⟨rfl,_,_,_,rfl,zn,HN⟩
         ·have e3: ¬(oc:Int)-1=0:=by omega
          have e4: ¬oc=1:=qc;have e5: ¬1=oc:=fun h=>qc h.symm;clear hr hz k4 M kf hF k7 hc ki kq qc;go_wp2;go_meet;exact⟨rfl,_,_,_,rfl,qh,HN⟩
        ·have l0:I=0:=by omega
         have HN:Hid (Below B w2 kp/\Blk kp B 57 (atC at' (nd0 I L2 F1))):=by rw[kf,if_pos l0];exact kk
         have vf:Hid (q1l w2 (.slice oo mo oc) L):=by rw[M,if_pos l0];exact hE
         have vo:=hid l0;have i1: ¬(0:Int)< (I:Int):=by omega
         clear hr hz k4 M kf l0;go_wp2;go_meet;exact⟨rfl,_,_,_,rfl,vf,HN⟩
       case rest=>
        obtain⟨rfl,o2,m2,c2,rfl,kh,zy⟩:=hcut;have q0:m2<=8:=by have h1:=q9d kh.out;have h2:=kb.out;have h3:=kd.out;have h4:=HM.out;rw[h1,M,At,<- h2];omega
        have v7:=hid q0;have kt:Hid (Below B w2 wc/\Blk wc B 57 (atC at' (ndTo (nd0 I L2 F1) L 0))):=zy;obtain⟨vn,rfl⟩:∃x,x=wc:=⟨_,rfl⟩;clear zy q0 hr hz k4 M kf;go_wp2;go_loopw [15] (fun iv wr=> ∃j:Nat,j<=m2/\iv= .int .i64 (j:Int)/\Hid (Below B w2 wr/\Blk wr B 57 (atC at' (ndTo (nd0 I L2 F1) L j)))) (fun iv _=>(m2- (intOf iv).toNat));case atStart=>exact⟨0,Af _,rfl,kt⟩
        case round=>
         obtain⟨j,hj,rfl,hJ⟩:=hrel;clear kt;obtain⟨wB,rfl⟩:∃y,y=wr:=⟨_,rfl⟩;by_cases hlt:j<m2
         ·have i1:(j:Int)< (m2:Int):=by omega
          have i0:(0:Int)<=(j:Int):=by omega
          have i8:(j:Int)<8:=by have:=v7.out;omega
          obtain⟨eb,off,rfl,ki,hc⟩:=z1o (kh.out.bel (by rw[<- HB.out];exact hJ.out.1)) (by have:=q9d kh.out;omega);have zb:j<8:=by omega
          have km:j<L.length:=by have:=q9d kh.out;omega
          obtain⟨x,hx⟩:∃x,L[j]?=some x:=⟨_,AD km⟩;have zq:L.getD j (0,0)=x:=by rw[Ag,hx];rfl
          have ck:wB.cell? ⟨eb,off+j*2,none⟩=some (.int .u64 x.1):=by have:=(hc j km).1;rw[zq] at this;exact this
          have cp:wB.cell? ⟨eb,off+j*2+1,none⟩=some (.int .u64 x.2):=by have:=(hc j km).2;rw[zq] at this;exact this
          have dk:wB.cell? ⟨B,6+j,none⟩=some (.int .u64 ((ndTo (nd0 I L2 F1) L j).k j)):=(hJ.out.2.cell (6+j)).trans (y0q _ _ zb);have dp:wB.cell? ⟨B,14+j,none⟩=some (.int .u64 ((ndTo (nd0 I L2 F1) L j).p j)):=(hJ.out.2.cell (14+j)).trans (y0x _ _ zb);have fk:=hJ.out.2.frozen (6+j);have fp:=hJ.out.2.frozen (14+j);have zm:eb≠B:=by have h1:=(kh.out);obtain⟨ao,cap,h2,h3⟩:=h1;injection h2 with h2 _ _;subst h2;rcases h3 with h3|⟨b',o',h4,h5,_⟩;(rw[h3] at km;simp at km);(injection h4 with h4;injection h4 with h4 _;subst h4;have:=HB.out;omega)
          have zx: ¬B=eb:=fun h=>zm h.symm;have HA:=hid (⟨zb,hx,hlt⟩:_/\_/\_);clear hj hlt hc zb km hx zq ki;go_upto_region 21 with fail;go_region;have hN:Hid (Below B w2 ((wB.setCell ⟨B,6+j,none⟩ (.int .u64 x.1)).setCell ⟨B,14+j,none⟩ (.int .u64 x.2)).drew/\Blk ((wB.setCell ⟨B,6+j,none⟩ (.int .u64 x.1)).setCell ⟨B,14+j,none⟩ (.int .u64 x.2)).drew B 57 (atC at' (ndTo (nd0 I L2 F1) L (j+1)))):=by refine hid ⟨((hJ.out.1.setCell (AG _) _).setCell (AG _) _).drew,?_⟩;have h1:=((hJ.out.2.set_ (6+j) (.int .u64 x.1)).set_ (14+j) (.int .u64 x.2)).drew;rw[x9s _ _ HA.out.1,v2h _ _ HA.out.1,x8z _ HA.out.2.1] at h1;exact h1
          clear ck cp dk dp fk fp;go_wp2;go_roundw;case rel=>exact⟨j+1,HA.out.2.2,by go_num,hN⟩
          case measure=>simp[intOf];have:=HA.out.2.2;omega
         ·obtain rfl:j=m2:=by omega
          have i1: ¬(j:Int)< (j:Int):=by omega
          have zj:=zd.out.bel (by rw[<- HB.out];exact hJ.out.1);have zc:=y0k hJ.out.2;have q8:=v9s (at':Int) (ndTo (nd0 I L2 F1) L j) wB;have z3:=q9d kh.out;have qs:ndTo (nd0 I L2 F1) L j=ndOf I at' (k==0) own:=by rw[z3];exact v2c qo.out.1 qo.out.2 vi.out v3.out.1 v3.out.2
          obtain⟨va,vc,w9,zf,hf,qy,z6⟩:=v5i zj.row (AH (zd.out.only.size) (by have:=hJ.out.1.size;exact this)) (at',ndTo (nd0 I L2 F1) L j) (by rw[q6x];have h1:=hK.out;have h2:=HM.out;have:k<=k*per:=Nat.le_mul_of_pos_right _ (by omega);rcases h1.2 with h|h<;>omega);rw[q6x] at zf hf z6;have q9:R.rounds I per l (k+1)=(Q,(R.rounds I per l k).2++[(at',ndTo (nd0 I L2 F1) L j)]):=by have h1:=HQ.out;rw[qs,h1.2.1,h1.1,h1.2.2.1];rfl
          have k1:=hid (zj.push qy hf)
          have ze:Hid (R.roomy I per l (k+1)):=hid (fun i hi=>by
           rcases(by omega:i<k\/i=k) with h|h;·exact hR.out i h
           ·rw[h,<- HQ.out.1];exact zl.out.1)
          have z1:=hid q9;clear zj hf qy z6 z3 hlt hj qs q9;go_upto_region 23 with fail;by_cases qe:tt=m
          ·have b1:((tt:Int)==(m:Int))=true:=by simp[qe]
           have zs:q1t per l=k+1:=z7x (by have:=HM.out;omega) (by have h1:=hK.out;have h2:=HM.out.1;rw[<- h1.1,<- h2];exact h1.2) (by have h1:=hK.out;have h2:=HM.out.1;have h3:=kd.out;rw[<- h1.1,<- h2];omega);obtain⟨nr,ha⟩:∃nr,nr=k+1:=⟨_,rfl⟩;obtain⟨Row,hg⟩:∃x,x=(R.rounds I per l (k+1)).2:=⟨_,rfl⟩;have k5:Row.length=nr:=by rw[hg,q6x,ha]
           have v0:Q=(R.rounds I per l (k+1)).1:=by rw[z1.out]
           have v4:(R.rounds I per l k).2++[(at',ndTo (nd0 I L2 F1) L j)]=Row:=by rw[hg,z1.out]
           have kn:∀x∈Row,x.1+192<=n/\NdOK x.2:=by rw[hg];have h2:=z3g z7.out (HM.out.2.1) HM.out.2.2.2.2.2.2 (k+1) ze.out;rw[<- H.out.ln] at h2;exact h2
           have h8:Hid (LvI w g b n lv l ev Nb (.slice va nr vc) Q (q2h Row 0) w9):=by rw[x0n,<- v4,ha];exact k1
           rw[<- ha];have Y:=hid (⟨zs.trans ha.symm,hg,k5,v0,kn,ha⟩:q1t per l=nr/\_/\_/\_/\_/\_);have vd:Hid (R.roomy I per l (q1t per l)):=hid (by rw[zs];exact ze.out);clear zs ha hg k5 v0 v4 kn k1 z1 ze zf zc q8
           obtain⟨rb,v6⟩:∃rb,va=some ⟨rb,0,none⟩:=by
            have h1:=h8.out.row;rcases h1.2 with⟨h2,h3⟩|⟨rb,cap,vp,h2,_⟩;·rw[q1i,Y.out.2.2.1,Y.out.2.2.2.2.2] at h3;omega
            ·injection h2 with h2 _ _;exact⟨rb,h2⟩
           subst v6;have qf:Hid (LyJ w g b n lv (.slice (some ⟨rb,0,none⟩) nr vc) (Q.layRow Row 0) (q2h Row 0) w9):=hid ⟨h8.out.ar,h8.out.row,h8.out.only⟩;go_upto_region 24 with fail;clear h8 qe b1;go_wp2;go_loopw [16] (fun iv wr=> ∃i:Nat,i<=nr/\iv= .int .i64 (i:Int)/\Hid (LyJ w g b n lv (.slice (some ⟨rb,0,none⟩) nr vc) (Q.layRow Row i) (q2h Row i) wr)) (fun iv _=>(nr- (intOf iv).toNat));case atStart=>exact⟨0,Af _,rfl,qf⟩
           case round=>
            obtain⟨i,hi,rfl,hJ⟩:=hrel;clear qf;obtain⟨wC,rfl⟩:∃y,y=wr:=⟨_,rfl⟩;by_cases hlt:i<nr
            ·have i1:(i:Int)< (nr:Int):=by omega
             have i0:(0:Int)<=(i:Int):=by omega
             obtain⟨q,hq⟩:∃q,q=i+1:=⟨_,rfl⟩;have zt:nr<=100000:=by have h1:=Y.out.2.2.2.2.2;have h2:=hK.out;have h3:=HM.out;have:k<=k*per:=Nat.le_mul_of_pos_right _ (by omega);rcases h2.2 with h|h<;>omega
             have wq:IntKind.i64.wrap ((i:Int)+1)=(q:Int):=by rw[IntWalk.i64_in _ (by constructor<;>omega)];omega
             have ht:Row.length=nr:=Y.out.2.2.1;obtain⟨x,hx⟩:∃x,Row[i]?=some x:=⟨_,AD (by omega)⟩;have qb:=hid (⟨hq,ht,hx,hlt⟩:_/\_/\_/\_);clear hlt zt hi hq ht hx;go_upto_if 114 with fail;go_cut [] from 111 to 125 (fun wd=>Hid (LyJ w g b n lv (.slice (some ⟨rb,0,none⟩) nr vc) (Q.layRow Row i) (q2h Row q) wd))
             case first=>
              obtain⟨hq,ht,hx,hlt⟩:=qb.out;by_cases qn:q<nr
              ·have j1:(q:Int)< (nr:Int):=by omega
               have j0:(0:Int)<=(q:Int):=by omega
               obtain⟨y,hy⟩:∃y,Row[q]?=some y:=⟨_,AD (by omega)⟩;have qt:(q2h Row i)[q]?=some y:=by rw[q2r hy,if_neg (by omega)]
               have zo:(q2h Row i)[i]?=some x:=by rw[q2r hx,if_neg (by omega)]
               have S:=hJ.out.row;have O:wC.ownsRow w.heap.size 57 22 (.slice (some ⟨rb,0,none⟩) nr vc) nr (atsV (q2h Row i)):=by have:=S;unfold rowA at this;rw[q1i,ht] at this;exact this
               have cy:wC.cell? ⟨rb,q*22,none⟩=some (.int .u64 (y.1:Int)):=(O.cellAt (q*22) (by omega)).trans (q6i qt 0 (by omega));have cx:∃z,wC.cell? ⟨rb,i*22+3,none⟩=some z:=⟨_,(O.cellAt (i*22+3) (by omega)).trans (q6i zo 3 (by omega))⟩;obtain⟨z,cx⟩:=cx;have fx:=O.frozenAt (i*22+3);have HN:Hid (LyJ w g b n lv (.slice (some ⟨rb,0,none⟩) nr vc) (Q.layRow Row i) (q2h Row q) (wC.setCell ⟨rb,i*22+3,none⟩ (.int .u64 (y.1:Int)))):=by refine hid (hJ.out.set (by rw[q1i,ht]) (by rw[q1i,q1i]) _ _ ?_);rw[v2n _ zo];congr 1;have e:=z8u hx (by omega);rw[<- hq,Ag,hy] at e;exact e
               have vm:=hid (⟨hq,qn⟩:_/\_);clear hy qt zo S O hx ht hq hlt;go_wp2;go_meet;exact HN
              ·have j1: ¬(q:Int)< (nr:Int):=by omega
               have HN:Hid (LyJ w g b n lv (.slice (some ⟨rb,0,none⟩) nr vc) (Q.layRow Row i) (q2h Row q) wC):=by rw[hq,<- z9u (by omega)];exact hJ
               clear hx ht hq hlt;go_wp2;go_meet;exact HN
             case rest=>
              obtain⟨hq,ht,hx,hlt⟩:=qb.out;obtain⟨xx,kj⟩:∃xx,(q2h Row q)[i]?=some xx:=⟨_,q2r hx⟩;have kn:=z7f H.out.big Y.out.2.2.2.2.1 q xx (AJ kj);have v2:(q9h Row)[i]?=some xx:=by rw[x9m hx,<- hq];exact kj
              have S:=hcut.out.row;have O:wc.ownsRow w.heap.size 57 22 (.slice (some ⟨rb,0,none⟩) nr vc) nr (atsV (q2h Row q)):=by have:=S;unfold rowA at this;rw[q1i,ht] at this;exact this
              have cx:wc.cell? ⟨rb,i*22,none⟩=some (.int .u64 (xx.1:Int)):=(O.cellAt (i*22) (by omega)).trans (q6i kj 0 (by omega));have zc:=z3l S kj;have zk:=z3l (hcut.out.bel (W':=wc.drew) ⟨rfl,rfl,rfl,AG _,fun _ _=>rfl⟩).row kj;have LY:=hid (fun W hW=>v8b g b n (Q.layRow Row i) lv xx.1 xx.2 kn.2 kn.1 W hW);have za:=hid (⟨v2,hq,hlt⟩:_/\_/\_);clear hq ht hx hlt kj kn v2 S O;go_upto_region 29 with fail;refine wp_region_still_tail 11 (by kernel_rfl) (by kernel_rfl) ?_;simp only[List.take_succ_cons,List.take_zero,List.drop_succ_cons,List.drop_zero];repeat still_step
              refine wpStill_nil ?_;change wpList _ _ _ _ _ wc.drew;have ql:Below wc.heap.size wc wc.drew:=⟨rfl,rfl,rfl,AG _,fun _ _=>rfl⟩;have zh:Hid (LyJ w g b n lv (.slice (some ⟨rb,0,none⟩) nr vc) (Q.layRow Row i) (q2h Row q) wc.drew):=hid (hcut.out.bel ql);clear cx zc zk ql;generalize wc.drew=w10 at zh ⊢;have vj:=hid (LY.out _ zh.out.ar);go_wp2_with fail;refine vj.out.mono ?_;rintro e v8 ⟨rfl,z8,z2⟩;have HN:Hid (LyJ w g b n lv (.slice (some ⟨rb,0,none⟩) nr vc) (Q.layRow Row q) (q2h Row q) v8):=by rw[show Q.layRow Row q=(Q.layRow Row i).lay xx.1 xx.2 by rw[za.out.2.1,x0k za.out.1]];exact hid (zh.out.arena z8 z2)
              clear z8 z2;go_wp2;go_roundw;case rel=>exact⟨q,(by have:=za.out.2;omega),rfl,HN⟩
              case measure=>simp[intOf];have:=za.out.2;omega
            ·obtain rfl:i=nr:=by omega
             have i1: ¬(i:Int)< (i:Int):=by omega
             have hV:LvsA wC N lv rows:=HL.out.2.1.only hJ.out.only (fun y hy=>by
              rcases AN.1 hy with rfl|hy;·exact Or.inr ⟨_,_,H.out.blk,by decide,by decide⟩
              ·rw[AF.1 hy];exact Or.inr ⟨_,_,H.out.by',by decide,by decide⟩)
             have S:=z5y hJ.out.row HL.out.1;obtain⟨qq,qi,vh,zf,⟨y7,c7⟩,f7,ky,kx,z5⟩:=v1e hJ.out.ar hV S (AH HL.out.1 hJ.out.only.size) (by have:=HL.out.2.2;omega) rfl;have d7:wC.cell? ⟨g,7,none⟩=some lv:=hJ.out.ar.blk.cell 7
             have HF:Hid (LvPs w N g b n R lv rows I per l (.returned (.bool true)) (vh.setCell ⟨g,7,none⟩ (.slice qq (rows.length+1) qi))):=by
              refine hid ⟨(hJ.out.only.mono (fun y hy=>by simp at hy ⊢;rcases hy with h|h;exact Or.inl h;exact Or.inr (Or.inl h))).trans z5 (fun y hy=>Or.inl (by simp at hy ⊢;rcases hy with h|h;exact Or.inl h;exact Or.inr (Or.inr h))),Or.inr ⟨rfl,vd.out,(.slice qq (rows.length+1) qi),?_,?_⟩⟩;·obtain⟨q1,q2,q3,q4,q5,q6⟩:=Y.out;unfold AR.level;rw[q1,q6,<- q2,<- q4,<- q6];exact ky
              ·obtain⟨q1,q2,q3,q4,q5,q6⟩:=Y.out;unfold AR.levelRow q9h;rw[q1,q6,<- q2,q3];exact kx
             clear hlt hi hV S ky kx z5;go_wp2;go_ret;exact HF.out
          ·have b1:((tt:Int)==(m:Int))=false:=by simp;omega
           have hT:=kd.out;have hlt:s<m:=by omega
           have ws:IntKind.i64.wrap ((fr:Int)+(per:Int))=(s:Int):=by have h9:=HM.out;rw[IntWalk.i64_in _ (by constructor<;>omega)];omega
           have HS:=hid (⟨hlt,(by have h1:=hK.out.1;rw[DC];omega:s=(k+1)*per),(by have:=HM.out;omega:fr<s)⟩:_/\_/\_);have h8:Hid (LvI w g b n lv l ev Nb (.slice va (k+1) vc) (R.rounds I per l (k+1)).1 (R.rounds I per l (k+1)).2 w9):=by rw[z1.out];exact k1
           clear k1 z1 zf zc q8 qe hT hlt;go_wp2;go_roundw;case rel=>exact⟨k+1,s,va,vc,hid ⟨HS.out.2.1,Or.inr HS.out.1⟩,rfl,rfl,h8,ze⟩
           case measure=>simp[intOf];have:=HS.out;omega
end Go.Proofs.YtibiekfjbibpbaaGreat
